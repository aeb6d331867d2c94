/-
 The program's copyChanges, walked by hand: the changes again, all rows apart. Conditions: the lengths' bounds.
-/
import Derived.Test.YtmkpgddfoaglpaaGreatDoorCTToChgs
set_option maxHeartbeats 8000000
set_option maxRecDepth 100000
set_option linter.unusedVariables false
set_option linter.unusedSimpArgs false
namespace Go.Proofs.YtmkpgddfoaglpaaGreatDoor.PG
open Go.RowKit Go.Proofs.YtmkpgddfoaglpaaGreatDoorW.PrintWords Go.Proofs.YtmkpgddfoaglpaaGreatDoorW.PrintLast Go.Proofs.YtmkpgddfoaglpaaGreatDoorW.PrintMore Go.Proofs.YtmkpgddfoaglpaaGreatDoor.Gn Go.Proofs.YtmkpgddfoaglpaaGreatDoor
attribute [local go_sem] max2_int min2_int max_two min_two max_three min_three max_four min_four World.cell?_drew World.frozen?_drew
theorem at_chg {w : World} {A : Option Addr} {n : Nat} {dn r : List S145} {a : S145} (h : Kd.C k145 w A n (dn ++ a :: r)) (hn : dn.length < n) : ∃ ad A0 c0 A1 c1, A = some ad ∧ w.cell? (ad.add (dn.length * 5)) = some (.int .i64 a.f0) ∧ w.cell? ⟨(ad.add (dn.length * 5)).block, (ad.add (dn.length * 5)).off + 1, none⟩ = some (.int .i64 a.f1) ∧ w.cell? ⟨(ad.add (dn.length * 5)).block, (ad.add (dn.length * 5)).off + 2, none⟩ = some (.string a.f2) ∧ w.cell? ⟨(ad.add (dn.length * 5)).block, (ad.add (dn.length * 5)).off + 3, none⟩ = some (.slice A0 a.f3.f0.length c0) ∧ w.cell? ⟨(ad.add (dn.length * 5)).block, (ad.add (dn.length * 5)).off + 4, none⟩ = some (.slice A1 a.f3.f1.length c1) ∧ a.f3.f0.length ≤ c0 ∧ Kd.C k151 w A0 a.f3.f0.length a.f3.f0 ∧ a.f3.f1.length ≤ c1 ∧ Kd.C k201 w A1 a.f3.f1.length a.f3.f1 := by
 obtain ⟨ad, A1, c1, A2, c2, rfl, hx0, hx1, hx2, hx3, hx4, hl0, hi0, hl1, hi1⟩ := at_T145 h ((dn.length : Nat) : Int) (Int.natCast_nonneg _) (by omega)
 have hrd : rd_T145 (dn ++ a :: r) ((dn.length : Nat) : Int) = a := by
   unfold rd_T145
   rw [Int.toNat_natCast]
   simp
 rw [hrd] at hx0 hx1 hx2 hx3 hx4 hl0 hi0 hl1 hi1
 rw [Int.toNat_natCast] at hx0 hx1 hx2 hx3 hx4
 exact ⟨ad, A1, c1, A2, c2, rfl, hx0, hx1, hx2, hx3, hx4, hl0, hi0, hl1, hi1⟩
theorem copyChgs_c (l : List S145) (hlen : l.length ≤ 1000000) (hok : ∀ e, e ∈ l → okEnt e.f3.f0 e.f3.f1) (A : Option Addr) (c : Nat) (W : World) (hC : Kd.C k145 W A l.length l) (hc : l.length ≤ c) :
   Calls Tryz.prog 113 #[.slice A l.length c] W (RetCs l W) := by
 have HR0 := Aside0.mk hC
 have HC0 := Aside0.mk hc
 have HOK := Aside0.mk hok
 have HLEN := Aside0.mk hlen
 have hB := Below.refl W.heap.size W
 clear hC hc hok hlen
 go_enter Tryz.func113, Tryz.ntmps113
 go_wp2
 go_loopw [3, 9] (fun s3 s9 wr => ∃ (dn rs : List S145), s9 = .int .i64 dn.length ∧ Aside0 (dn ++ rs = l) ∧ Aside0 (Kd.S mChg 145 wr W.heap.size (fun _ => True) s3 dn) ∧ Aside0 (Below W.heap.size W wr)) (fun _ s9 _ => l.length - (intOf s9).toNat)
 case atStart => exact ⟨[], l, rfl, ⟨rfl⟩, ⟨S_empty mChg 145 W⟩, ⟨below_alloc (Below.refl _ _) _⟩⟩
 case round =>
   obtain ⟨dn, rs, rfl, HX, HSR, HBR⟩ := hrel
   cases rs with
   | nil =>
     have hx := HX.out
     rw [List.append_nil] at hx
     subst hx
     have hlt : ¬ dn.length < dn.length := Nat.lt_irrefl _
     obtain ⟨A3, c3, rfl⟩ := Kd.S_slice HSR.out
     go_wp2
     go_ret
     exact ⟨A3, c3, rfl, HSR.out, HBR.out⟩
   | cons a r =>
     have hx := HX.out
     have hlx : l.length = dn.length + (r.length + 1) := by rw [← hx]; simp
     have hlt : dn.length < l.length := by omega
     have hC2 := Kd.C_below HR0.out HBR.out
     rw [← hx] at hC2
     obtain ⟨ad, A1, c1, A2, c2, rfl, hx0, hx1, hx2, hx3, hx4, hl0, hi0, hl1, hi1⟩ := at_chg hC2 (by simp)
     have hoka : okEnt a.f3.f0 a.f3.f1 := HOK.out a (by rw [← hx]; simp)
     obtain ⟨A3, c3, rfl⟩ := Kd.S_slice HSR.out
     obtain ⟨w5, hw5⟩ : ∃ w5, wr.alloc (.cells #[.int .i64 a.f0, .int .i64 a.f1, .string a.f2, .slice A1 a.f3.f0.length c1, .slice A2 a.f3.f1.length c2] 145) = w5 := ⟨_, rfl⟩
     have hb5 : Below wr.heap.size wr w5 := by rw [← hw5]; exact below_alloc (Below.refl _ _) _
     have hs5 : w5.heap.size = wr.heap.size + 1 := by rw [← hw5]; simp
     have hn5 : w5.heap[wr.heap.size]? = some (.cells #[.int .i64 a.f0, .int .i64 a.f1, .string a.f2, .slice A1 a.f3.f0.length c1, .slice A2 a.f3.f1.length c2] 145 (0, 0)) := by rw [← hw5]; exact heap_alloc_new wr _
     have q0 := blk_cell hn5 0
     have q1 := blk_cell hn5 1
     have q2 := blk_cell hn5 2
     have q3 := blk_cell hn5 3
     have q4 := blk_cell hn5 4
     have HCALL := Aside0.mk (copied_c a.f3.f0 a.f3.f1 hoka A1 c1 A2 c2 w5 (Kd.C_below hi0 hb5) hl0 (Kd.C_below hi1 hb5) hl1)
     have HN5 := Aside0.mk hn5
     have HX2 := Aside0.mk hx
     have HLX := Aside0.mk hlx
     have HB5 := Aside0.mk hb5
     have HS5 := Aside0.mk hs5
     have HWI := Aside0.mk (show wrap64 ((dn.length : Int) + 1) = (dn.length : Int) + 1 from wsucc (by omega) (by have := HLEN.out; omega))
     clear hx hlx hC2 hl0 hi0 hl1 hi1 hoka hb5 hn5 hs5
     go_wp2_with (first | (go_at_call 172; refine HCALL.out.mono ?_; rintro e w6 ⟨A6, c6, B6, b6, rfl, hR6, hS6, hb6⟩; have HM6 := Aside0.mk (chg_made (x := a) (base := W.heap.size) hR6 hS6 (Nat.le_trans HBR.out.size HB5.out.size)); have HB56 := Aside0.mk hb6; have hn6 := blk_below HN5.out hb6; have r0 := blk_cell hn6 0; have r1 := blk_cell hn6 1; have r2 := blk_cell hn6 2; have r3 := blk_cell hn6 3; have r4 := blk_cell hn6 4; have y3 := blk_frozen hn6 3; have y4 := blk_frozen hn6 4; clear hR6 hS6 hb6 hn6) | ((with_reducible refine gate_builtin (b := .append) (xs := #[.tmp 17, .tmp 19]) rfl ?_); at_builtin; refine Kd.S_append mChg (w0 := W) W.heap.size rfl (.tmp 17) (.tmp 19) 65 145 (.agg #[(.int .i64 0), (.int .i64 0), (.string ⟨#[]⟩), (.slice none 0 0), (.slice none 0 0)]) 80 rfl Tryz.underlying65 info145 rfl (by decide) (by omega) _ dn a [.int .i64 a.f0, .int .i64 a.f1, .string a.f2, .slice A6 a.f3.f0.length c6, .slice B6 a.f3.f1.length b6] (fun _ => True) (fun k => w5.heap.size ≤ k ∧ k < w6.heap.size) rfl ?aX ?aM ?aO ?aF ?aR ?aB ?aS ?aL ?_; (case aX => show Value.slice (some ⟨w6.heap.size, 0, none⟩) 1 1 = Value.slice (some ⟨_, 0, none⟩) 1 1; simp); (case aF => exact fun _ _ => trivial); (case aM => exact Kd.M_far (Kd.M_far HM6.out (p := ⟨wr.heap.size, 3, none⟩) (fun k hk => by have h1_ := HS5.out; have h2_ := hk.1; show k ≠ wr.heap.size; omega) _) (p := ⟨wr.heap.size, 4, none⟩) (fun k hk => by have h1_ := HS5.out; have h2_ := hk.1; show k ≠ wr.heap.size; omega) _); (case aO => exact fun k hk => ⟨trivial, fun he => by have h1_ := Kd.S_lt HSR.out k he.symm; have h2_ := HB5.out.size; omega⟩); (case aR => exact Kd.S_mono (Kd.S_far (Kd.S_far (Kd.S_old HSR.out (below_step HB5.out HB56.out)) (p := ⟨wr.heap.size, 3, none⟩) (fun k hk => by have h2_ := hk.2; show k ≠ wr.heap.size; omega) _) (p := ⟨wr.heap.size, 4, none⟩) (fun k hk => by have h2_ := hk.2; show k ≠ wr.heap.size; omega) _) (fun k hk => ⟨trivial, fun h => by have h2_ := HB5.out.size; have h3_ := hk.2; omega⟩)); (case aB => exact belows2 (below_step HBR.out (below_step HB5.out HB56.out)) HBR.out.size _ _ _ _); (case aS => exact (belows2 (below_step HBR.out (below_step HB5.out HB56.out)) HBR.out.size _ _ _ _).size); (case aL => have h1_ := HLX.out; have h2_ := HLEN.out; omega); intro v7 w7 hS7 hb7 hg7 hx7; have HS7 := Aside0.mk hS7; have HB7 := Aside0.mk hb7; clear hS7 hb7 hg7 hx7))
     refine ⟨⟨dn ++ [a], r, ?_, ⟨?_⟩, HS7, HB7⟩, ?_⟩
     · try rw [HWI.out]
       simp
     · rw [List.append_assoc]
       exact HX2.out
     · have := HLX.out
       try rw [HWI.out]
       simp [intOf]
       omega
end Go.Proofs.YtmkpgddfoaglpaaGreatDoor.PG
