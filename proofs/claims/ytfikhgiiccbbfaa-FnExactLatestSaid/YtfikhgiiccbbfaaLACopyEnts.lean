/-
  The program's copyEntries, walked by hand: the entries again, all rows apart. Conditions: the lengths' bounds.
-/
import Derived.Test.YtfikhgiiccbbfaaLACopyP
import Derived.Test.YtfikhgiiccbbfaaLAEntC
import Derived.Test.YtfikhgiiccbbfaaLARowOps
namespace Go.Proofs.Ytfikhgiiccbbfaa.PH
set_option linter.unusedVariables false
set_option linter.unusedSimpArgs false
open Go.RowKit Go.Proofs.YtfikhgiiccbbfaaW.PrintWords Go.Proofs.YtfikhgiiccbbfaaW.PrintLast Go.Proofs.YtfikhgiiccbbfaaW.PrintMore Go.Proofs.Ytfikhgiiccbbfaa.Gn Go.Proofs.Ytfikhgiiccbbfaa
attribute [local go_sem] max2_int min2_int max_two min_two max_three min_three max_four min_four World.cell?_drew World.frozen?_drew

theorem copied_c (x : List S119) (y : List S112) (h : okEnt x y) (A : Option Addr) (c : Nat) (B : Option Addr) (b : Nat) (W : World) (hC : Kd.C k119 W A x.length x) (hc : x.length ≤ c) (hD : Kd.C k112 W B y.length y) (hd : y.length ≤ b) :
    Calls Try.prog 82 #[.agg #[.slice A x.length c, .slice B y.length b]] W (RetEnt x y W) := by
  obtain ⟨k, hk⟩ := ev_at (copied_ev x y h)
  refine (impl_Entry_copied.calls k A c x B b y _ _ W hC hc hD hd hk).mono ?_
  rintro e w' ⟨v, u, rfl, hR, hS, hb⟩
  obtain ⟨A', c', rfl⟩ := Kd.R_slice hR
  obtain ⟨B', b', rfl⟩ := Kd.S_slice hS
  exact ⟨A', c', B', b', rfl, hR, hS, hb⟩
theorem S_empty {α : Type} (d : Kd α) (e : Nat) (W : World) : Kd.S d e (W.alloc (.cells #[] e)) W.heap.size (fun _ => True) (.slice (some ⟨W.heap.size, 0, none⟩) 0 0) ([] : List α) := ⟨fun _ => 0, R_empty (Kd.tag (fun _ => 0) d) e W⟩
theorem at_ent {w : World} {A : Option Addr} {n : Nat} {dn r : List S89} {a : S89} (h : Kd.C k89 w A n (dn ++ a :: r)) (hn : dn.length < n) : ∃ ad A0 c0 A1 c1, A = some ad ∧ w.cell? (ad.add (dn.length * 2)) = some (.slice A0 a.f0.length c0) ∧ w.cell? ⟨(ad.add (dn.length * 2)).block, (ad.add (dn.length * 2)).off + 1, none⟩ = some (.slice A1 a.f1.length c1) ∧ a.f0.length ≤ c0 ∧ Kd.C k119 w A0 a.f0.length a.f0 ∧ a.f1.length ≤ c1 ∧ Kd.C k112 w A1 a.f1.length a.f1 := by
  obtain ⟨ad, A1, c1, A2, c2, rfl, hx0, hx1, hl0, hi0, hl1, hi1⟩ := at_T89 h ((dn.length : Nat) : Int) (Int.natCast_nonneg _) (by omega)
  have hrd : rd_T89 (dn ++ a :: r) ((dn.length : Nat) : Int) = a := by
    unfold rd_T89
    rw [Int.toNat_natCast]
    simp
  rw [hrd] at hx0 hx1 hl0 hi0 hl1 hi1
  rw [Int.toNat_natCast] at hx0 hx1
  exact ⟨ad, A1, c1, A2, c2, rfl, hx0, hx1, hl0, hi0, hl1, hi1⟩
set_option maxHeartbeats 4000000 in
set_option maxRecDepth 100000 in
theorem copyEnts_c (l : List S89) (hlen : l.length ≤ 1000000) (hok : ∀ e, e ∈ l → okEnt e.f0 e.f1) (A : Option Addr) (c : Nat) (W : World) (hC : Kd.C k89 W A l.length l) (hc : l.length ≤ c) :
    Calls Try.prog 64 #[.slice A l.length c] W (RetEs l W) := by
  have HR0 := Aside0.mk hC
  have HC0 := Aside0.mk hc
  have HOK := Aside0.mk hok
  have HLEN := Aside0.mk hlen
  have hB := Below.refl W.heap.size W
  clear hC hc hok hlen
  go_enter Try.func64, Try.ntmps64
  go_wp2
  go_loopw [3, 9] (fun s3 s9 wr => ∃ (dn rs : List S89), s9 = .int .i64 dn.length ∧ Aside0 (dn ++ rs = l) ∧ Aside0 (Kd.S mEnt 89 wr W.heap.size (fun _ => True) s3 dn) ∧ Aside0 (Below W.heap.size W wr)) (fun _ s9 _ => l.length - (intOf s9).toNat)
  case atStart => exact ⟨[], l, rfl, ⟨rfl⟩, ⟨S_empty mEnt 89 W⟩, ⟨below_alloc (Below.refl _ _) _⟩⟩
  case round =>
    obtain ⟨dn, rs, rfl, HX, HSR, HBR⟩ := hrel
    cases rs with
    | nil =>
      have hx := HX.out
      rw [List.append_nil] at hx
      subst hx
      have hlt : ¬ dn.length < dn.length := Nat.lt_irrefl _
      obtain ⟨A3, c3, rfl⟩ := Kd.S_slice HSR.out
      go_wp2
      go_ret
      exact ⟨A3, c3, rfl, HSR.out, HBR.out⟩
    | cons a r =>
      have hx := HX.out
      have hlx : l.length = dn.length + (r.length + 1) := by rw [← hx]; simp
      have hlt : dn.length < l.length := by omega
      have hC2 := Kd.C_below HR0.out HBR.out
      rw [← hx] at hC2
      obtain ⟨ad, A1, c1, A2, c2, rfl, hx0, hx1, hl0, hi0, hl1, hi1⟩ := at_ent hC2 (by simp)
      have hoka : okEnt a.f0 a.f1 := HOK.out a (by rw [← hx]; simp)
      obtain ⟨A3, c3, rfl⟩ := Kd.S_slice HSR.out
      obtain ⟨w5, hw5⟩ : ∃ w5, wr.alloc (.cells #[.slice A1 a.f0.length c1, .slice A2 a.f1.length c2] 89) = w5 := ⟨_, rfl⟩
      have hb5 : Below wr.heap.size wr w5 := by rw [← hw5]; exact below_alloc (Below.refl _ _) _
      have hn5 : w5.heap[wr.heap.size]? = some (.cells #[.slice A1 a.f0.length c1, .slice A2 a.f1.length c2] 89 (0, 0)) := by rw [← hw5]; exact heap_alloc_new wr _
      have q0 := blk_cell hn5 0
      have q1 := blk_cell hn5 1
      have HCALL := Aside0.mk (copied_c a.f0 a.f1 hoka A1 c1 A2 c2 w5 (Kd.C_below hi0 hb5) hl0 (Kd.C_below hi1 hb5) hl1)
      have HX2 := Aside0.mk hx
      have HLX := Aside0.mk hlx
      have HB5 := Aside0.mk hb5
      have HWI := Aside0.mk (show wrap64 ((dn.length : Int) + 1) = (dn.length : Int) + 1 from wsucc (by omega) (by have := HLEN.out; omega))
      clear hx hlx hC2 hl0 hi0 hl1 hi1 hoka hb5 hn5
      go_wp2_with (first | (go_at_call 82; refine HCALL.out.mono ?_; rintro e w6 ⟨A6, c6, B6, b6, rfl, hR6, hS6, hb6⟩; have HM6 := Aside0.mk (ent_made (base := W.heap.size) hR6 hS6 (Nat.le_trans HBR.out.size HB5.out.size)); have HB56 := Aside0.mk hb6; clear hR6 hS6 hb6) | ((with_reducible refine gate_builtin (b := .append) (xs := #[.tmp 13, .tmp 16]) rfl ?_); at_builtin; refine Kd.S_append mEnt (w0 := W) W.heap.size rfl (.tmp 13) (.tmp 16) 49 89 (.agg #[(.slice none 0 0), (.slice none 0 0)]) 48 rfl Try.underlying49 info89 rfl (by decide) (by omega) _ dn a [.slice A6 a.f0.length c6, .slice B6 a.f1.length b6] (fun _ => True) (fun k => w5.heap.size ≤ k ∧ k < w6.heap.size) rfl rfl HM6.out ?aO (fun _ _ => trivial) ?aR ?aB ?aS ?aL ?_; (case aO => exact fun k hk => ⟨trivial, fun he => by have h1_ := Kd.S_lt HSR.out k he.symm; have h2_ := HB5.out.size; omega⟩); (case aR => exact Kd.S_mono (Kd.S_old HSR.out (below_step HB5.out HB56.out)) (fun k hk => ⟨trivial, fun h => by have h2_ := HB5.out.size; have h3_ := hk.2; omega⟩)); (case aB => exact below_step HBR.out (below_step HB5.out HB56.out)); (case aS => exact (below_step HBR.out (below_step HB5.out HB56.out)).size); (case aL => have h1_ := HLX.out; have h2_ := HLEN.out; omega); intro v7 w7 hS7 hb7 hg7 hx7; have HS7 := Aside0.mk hS7; have HB7 := Aside0.mk hb7; clear hS7 hb7 hg7 hx7))
      refine ⟨⟨dn ++ [a], r, ?_, ⟨?_⟩, HS7, HB7⟩, ?_⟩
      · try rw [HWI.out]
        simp
      · rw [List.append_assoc]
        exact HX2.out
      · have := HLX.out
        try rw [HWI.out]
        simp [intOf]
        omega
end Go.Proofs.Ytfikhgiiccbbfaa.PH
