/-
  Latest: the program's, walked by hand, and the reference's: both come to lastV. Conditions: the lengths' bounds.
-/
import Derived.Test.YtfikhgiiccbbfaaLAP2
import Derived.Test.YtfikhgiiccbbfaaLACopyChgs
import Derived.Test.YtfikhgiiccbbfaaLACloslicesContainsFuncChange
namespace Go.Proofs.Ytfikhgiiccbbfaa.PH
set_option linter.unusedVariables false
set_option linter.unusedSimpArgs false
open Go.RowKit Go.Proofs.YtfikhgiiccbbfaaW.PrintWords Go.Proofs.YtfikhgiiccbbfaaW.PrintLast Go.Proofs.YtfikhgiiccbbfaaW.PrintMore Go.Proofs.Ytfikhgiiccbbfaa.Gn Go.Proofs.Ytfikhgiiccbbfaa
attribute [local go_sem] max2_int min2_int max_two min_two max_three min_three max_four min_four World.cell?_drew World.frozen?_drew

/-- Elements that lead to what lies in an elder world. -/
def pin {α : Type} (W0 : World) (d : Kd α) : Kd α where
  sz := d.sz
  E := []
  K := fun _ x cs => d.K W0 x cs
  M := fun _ _ _ x cs => d.K W0 x cs
  K_len := fun h => d.K_len h
  K_one := fun h => d.K_one h
  K_below := fun _ h => h
  K_of_M := fun h => h
  M_mono := fun _ h => h
  M_bound := fun h => h
  M_move := fun _ h => h
  M_lower := fun _ h => h
theorem pin_C {α : Type} {W0 W : World} {d : Kd α} {A : Option Addr} {n : Nat} {xs : List α} (h : Kd.C (pin W0 d) W A n xs) (hb : Below W0.heap.size W0 W) : d.C W A n xs := ReadsRow.imp_ h (Below.refl _ _) (fun _ _ hp => d.K_below hb hp)
def dnSame (a y : S100) : Bool := y.f2.toList == a.f2.toList
def lastV : List S100 → List S100
  | [] => []
  | a :: r => if r.any (dnSame a) = true then lastV r else a :: lastV r
theorem lastV_nil : lastV [] = [] := rfl
theorem lastV_cons (a : S100) (r : List S100) : lastV (a :: r) = if r.any (dnSame a) = true then lastV r else a :: lastV r := rfl
theorem lastV_mem : ∀ (l : List S100) {e : S100}, e ∈ lastV l → e ∈ l
  | [], _, h => by simp [lastV] at h
  | a :: r, e, h => by
    unfold lastV at h
    split at h
    · exact List.mem_cons_of_mem _ (lastV_mem r h)
    · rcases List.mem_cons.1 h with rfl | h
      · exact List.mem_cons_self
      · exact List.mem_cons_of_mem _ (lastV_mem r h)
theorem lastV_len : ∀ l : List S100, (lastV l).length ≤ l.length
  | [] => Nat.le_refl _
  | a :: r => by
    have := lastV_len r
    unfold lastV
    split
    · simp; omega
    · simp; omega
def latestV (l : List S100) : List S100 := if l.length ≤ 40 then lastV l else []
theorem enters_88 : ∀ args w, (callFunc 88 args).run Try.prog w = .ok (.enter 88 args) w := enters_of Try.func88 (by kernel_rfl) rfl
set_option maxHeartbeats 1000000 in
theorem latest_clo (b : Nat) (nm : ByteArray) (x : S100) (cs : List Value) (W : World) (hE : W.cell? ⟨b, 2, none⟩ = some (.string nm)) (hK : Kd.K k100 W x cs) :
    Calls Try.prog 88 #[.agg cs.toArray, .pointer (some ⟨b, 0, none⟩)] W fun e w' => e = .returned (.bool (x.f2.toList == nm.toList)) ∧ Below W.heap.size W w' := by
  obtain ⟨A3, c3, A4, c4, rfl, _⟩ := k100_open hK
  have hb1 : Below W.heap.size W (W.alloc (.cells #[.int .i64 x.f0, .int .i64 x.f1, .string x.f2, .slice A3 x.f3.f0.length c3, .slice A4 x.f3.f1.length c4] 100)) := below_alloc (Below.refl _ _) _
  have hE2 := pw_cell_below hb1 hE
  clear hK hE
  go_enter Try.func88, Try.ntmps88
  go_wp2
  go_ret
  exact ⟨rfl, hb1⟩
theorem any_c (b : Nat) (a : S100) (l : List S100) (A : Option Addr) (c : Nat) (W : World) (hC : Kd.C k100 W A l.length l) (hE : W.cell? ⟨b, 2, none⟩ = some (.string a.f2)) :
    Calls Try.prog 87 #[.slice A l.length c, .func (.func 88) #[] #[.pointer (some ⟨b, 0, none⟩)]] W fun e w' => e = .returned (.bool (l.any (dnSame a))) ∧ Below W.heap.size W w' :=
  slices_ContainsFunc_Change.any_ 88 #[.pointer (some ⟨b, 0, none⟩)] (fun W' => W'.cell? ⟨b, 2, none⟩ = some (.string a.f2)) (dnSame a) (fun W W' hb hE => pw_cell_below hb hE) (fun W' x cs hE hK => latest_clo b a.f2 x cs W' hE hK) enters_88 A c l W hC hE
set_option maxHeartbeats 4000000 in
set_option maxRecDepth 100000 in
theorem latest_c (l : List S100) (hlen : l.length ≤ 40) (hok : ∀ e, e ∈ l → okEnt e.f3.f0 e.f3.f1) (A : Option Addr) (c : Nat) (W : World) (hC : Kd.C k100 W A l.length l) (hc : l.length ≤ c) :
    Calls Try.prog 73 #[.slice A l.length c] W (RetCs (lastV l) W) := by
  have HR0 := Aside0.mk hC
  have HC0 := Aside0.mk hc
  have HLEN := Aside0.mk hlen
  have HCP := Aside0.mk (fun A3 c3 V (h0 : Kd.C k100 V A3 (lastV l).length (lastV l)) (h1 : (lastV l).length ≤ c3) => copyChgs_c (lastV l) (by have := lastV_len l; omega) (fun e he => hok e (lastV_mem l he)) A3 c3 V h0 h1)
  have hB := Below.refl W.heap.size W
  clear hC hc hok hlen
  go_enter Try.func73, Try.ntmps73
  go_wp2
  go_loopw [3, 9] (fun s3 s9 wr => ∃ (dn rs acc : List S100), s9 = .int .i64 dn.length ∧ Aside0 (dn ++ rs = l) ∧ Aside0 (acc ++ lastV rs = lastV l) ∧ Aside0 (Kd.R (pin W k100) 100 wr W.heap.size (fun _ => True) s3 acc) ∧ Aside0 (Below W.heap.size W wr)) (fun _ s9 _ => l.length - (intOf s9).toNat)
  case atStart => exact ⟨[], l, [], rfl, ⟨rfl⟩, ⟨rfl⟩, ⟨R_empty (pin W k100) 100 W⟩, ⟨below_alloc (Below.refl _ _) _⟩⟩
  case round =>
    obtain ⟨dn, rs, acc, rfl, HX, HA, HSR, HBR⟩ := hrel
    cases rs with
    | nil =>
      have hx := HX.out
      rw [List.append_nil] at hx
      have ha := HA.out
      rw [lastV_nil, List.append_nil] at ha
      have hlt : ¬ dn.length < l.length := by rw [hx]; exact Nat.lt_irrefl _
      obtain ⟨A3, c3, rfl, h1, h2⟩ := Kd.R_reads HSR.out
      have hcall := HCP.out A3 c3 wr (by rw [← ha]; exact pin_C h2 HBR.out) (by rw [← ha]; exact h1)
      rw [← ha] at hcall
      have HA2 := Aside0.mk ha
      clear hx ha h1 h2
      go_wp2_with (first | (go_at_call 89; refine hcall.mono ?_; rintro e w7 ⟨A7, c7, rfl, hS7, hb7⟩; have HS7 := Aside0.mk hS7; clear hS7))
      go_ret
      rw [← HA2.out]
      exact ⟨A7, c7, rfl, Kd.S_lower HS7.out HBR.out.size, below_step HBR.out hb7⟩
    | cons a r =>
      have hx := HX.out
      have hlx : l.length = dn.length + (r.length + 1) := by rw [← hx]; simp
      have hlt : dn.length < l.length := by omega
      have hC2 : Kd.C k100 W A l.length (dn ++ a :: r) := by rw [hx]; exact HR0.out
      obtain ⟨ad, A1, c1, A2, c2, rfl, hx0, hx1, hx2, hx3, hx4, hl0, hi0, hl1, hi1⟩ := at_chg hC2 (by omega)
      have hKa := k100_mk W a hl0 hi0 hl1 hi1
      replace hx0 := pw_cell_below HBR.out hx0
      replace hx1 := pw_cell_below HBR.out hx1
      replace hx2 := pw_cell_below HBR.out hx2
      replace hx3 := pw_cell_below HBR.out hx3
      replace hx4 := pw_cell_below HBR.out hx4
      obtain ⟨A3, c3, rfl⟩ := Kd.R_slice HSR.out
      obtain ⟨w5, hw5⟩ : ∃ w5, wr.alloc (.cells #[.int .i64 a.f0, .int .i64 a.f1, .string a.f2, .slice A1 a.f3.f0.length c1, .slice A2 a.f3.f1.length c2] 100) = w5 := ⟨_, rfl⟩
      have hb5 : Below wr.heap.size wr w5 := by rw [← hw5]; exact below_alloc (Below.refl _ _) _
      have hn5 : w5.heap[wr.heap.size]? = some (.cells #[.int .i64 a.f0, .int .i64 a.f1, .string a.f2, .slice A1 a.f3.f0.length c1, .slice A2 a.f3.f1.length c2] 100 (0, 0)) := by rw [← hw5]; exact heap_alloc_new wr _
      have hwi : wrap64 ((dn.length : Int) + 1) = (dn.length : Int) + 1 := wsucc (by omega) (by have := HLEN.out; omega)
      obtain ⟨i0, hi0_, _, hsz, _⟩ := info_parts info100
      have hcut := cut_from (P := Try.prog) 57 100 .i64 Try.underlying57 hi0_ 5 hsz (some ad) l.length c ((dn.length : Int) + 1) (by omega) (by omega)
      have hdr := Kd.C_drop (m := dn.length + 1) (c := c) HR0.out (by omega) HC0.out
      have hdl : l.drop (dn.length + 1) = r := by rw [← hx]; simp
      rw [hdl] at hdr
      have hq1 : ((dn.length : Int) + 1).toNat = dn.length + 1 := by omega
      have hq2 : l.length - (dn.length + 1) = r.length := by omega
      rw [hq1, hq2] at hcut
      replace hdr : Kd.C k100 W (if c = dn.length + 1 then some ad else (some ad).map (·.add ((dn.length + 1) * 5))) r.length r := hdr
      generalize (if c = dn.length + 1 then some ad else (some ad).map (·.add ((dn.length + 1) * 5))) = A9 at hcut hdr
      generalize c - (dn.length + 1) = c9 at hcut
      have hany := any_c wr.heap.size a r A9 c9 w5 (Kd.C_below hdr (below_step HBR.out hb5)) (blk_cell hn5 2)
      have x1 : (0 ≤ (dn.length : Int) + 1) = True := eq_true (by omega)
      have x2 : ((dn.length : Int) + 1 ≤ (l.length : Int)) = True := eq_true (by omega)
      have q0 := blk_cell hn5 0
      have q1 := blk_cell hn5 1
      have q2 := blk_cell hn5 2
      have q3 := blk_cell hn5 3
      have q4 := blk_cell hn5 4
      have HN5 := Aside0.mk hn5
      have HKA := Aside0.mk hKa
      have HX2 := Aside0.mk hx
      have HLX := Aside0.mk hlx
      have HB5 := Aside0.mk hb5
      have ha := HA.out
      rw [lastV_cons] at ha
      have hlt2 : dn.length < l.length := hlt
      clear hx hlx hC2 hl0 hi0 hl1 hi1 hKa hb5 hn5 hi0_ hsz hdr hdl hq1 hq2
      cases hb : r.any (dnSame a) with
      | true =>
        rw [hb] at hany ha
        rw [if_pos rfl] at ha
        have HA2 := Aside0.mk ha
        clear ha hb
        go_wp2_with (first | (go_at_call 87; refine hany.mono ?_; rintro e w6 ⟨rfl, hb6⟩; have HB6 := Aside0.mk (below_step HB5.out hb6); clear hb6))
        refine ⟨⟨dn ++ [a], r, acc, ?_, ⟨?_⟩, HA2, ⟨Kd.R_below HSR.out HB6.out⟩, ⟨below_step HBR.out HB6.out⟩⟩, ?_⟩
        · try rw [hwi]
          simp
        · rw [List.append_assoc]
          exact HX2.out
        · have := HLX.out
          try rw [hwi]
          simp [intOf]
          omega
      | false =>
        rw [hb] at hany ha
        rw [if_neg Bool.false_ne_true] at ha
        have HA2 := Aside0.mk ha
        clear ha hb
        go_wp2_with (first | (go_at_call 87; refine hany.mono ?_; rintro e w6 ⟨rfl, hb6⟩; have HB6 := Aside0.mk (below_step HB5.out hb6); have hn6 := blk_below HN5.out hb6; have r0 := blk_cell hn6 0; have r1 := blk_cell hn6 1; have r2 := blk_cell hn6 2; have r3 := blk_cell hn6 3; have r4 := blk_cell hn6 4; clear hb6 hn6) | ((with_reducible refine gate_builtin (b := .append) (xs := #[.tmp 21, .tmp 23]) rfl ?_); at_builtin; refine Kd.R_append (pin W k100) (w0 := W) W.heap.size rfl (.tmp 21) (.tmp 23) 57 100 (.agg #[(.int .i64 0), (.int .i64 0), (.string ⟨#[]⟩), (.slice none 0 0), (.slice none 0 0)]) 80 rfl Try.underlying57 info100 rfl (show 0 < 5 by decide) (by omega) _ acc a [.int .i64 a.f0, .int .i64 a.f1, .string a.f2, .slice A1 a.f3.f0.length c1, .slice A2 a.f3.f1.length c2] (fun _ => True) (fun _ => False) rfl rfl HKA.out (fun _ h => h.elim) (fun _ _ => trivial) (Kd.R_below HSR.out HB6.out) (below_step HBR.out HB6.out) (below_step HBR.out HB6.out).size ?aL ?_; (case aL => have h1_ := congrArg List.length HA2.out; have h2_ := lastV_len l; have h3_ := HLEN.out; simp only [List.length_append, List.length_cons] at h1_; omega); intro v7 w7 hS7 hb7 hg7 hx7; have HS7 := Aside0.mk hS7; have HB7 := Aside0.mk hb7; clear hS7 hb7 hg7 hx7))
        refine ⟨⟨dn ++ [a], r, acc ++ [a], ?_, ⟨?_⟩, ⟨?_⟩, HS7, HB7⟩, ?_⟩
        · try rw [hwi]
          simp
        · rw [List.append_assoc]
          exact HX2.out
        · rw [List.append_assoc]
          exact HA2.out
        · have := HLX.out
          try rw [hwi]
          simp [intOf]
          omega
theorem latestP_c (l : List S100) (hok : ∀ e, e ∈ l → okEnt e.f3.f0 e.f3.f1) (A : Option Addr) (c : Nat) (W : World) (hC : Kd.C k100 W A l.length l) (hc : l.length ≤ c) :
    Calls Try.prog 33 #[.slice A l.length c] W (RetCs (latestV l) W) := by
  have hnil : RetCs [] W (.returned (.slice none 0 0)) W := ⟨none, 0, rfl, Kd.S_nil _ _ _ _ _, Below.refl _ _⟩
  by_cases c1 : (l.length : Int) > 40
  · have d0 : decide (40 < (l.length : Int)) = true := decide_eq_true c1
    have d1 : decide (40 < l.length) = true := decide_eq_true (by omega)
    have hp : latestV l = [] := by unfold latestV; rw [if_neg (by omega)]
    rw [hp]
    have HN := Aside0.mk hnil
    clear c1 hC hc hok hp hnil
    go_enter Try.func33, Try.ntmps33
    go_wp2
    go_ret
    exact HN.out
  · have d0 : decide (40 < (l.length : Int)) = false := decide_eq_false c1
    have d1 : decide (40 < l.length) = false := decide_eq_false (by omega)
    have hp : latestV l = lastV l := by unfold latestV; rw [if_pos (by omega)]
    rw [hp]
    have hcall := latest_c l (by omega) hok A c W hC hc
    clear c1 hC hc hok hp hnil
    go_enter Try.func33, Try.ntmps33
    go_wp2_with (first | (go_at_call 73; refine hcall.mono ?_; rintro e w7 ⟨A7, c7, rfl, hS7, hb7⟩; have HS7 := Aside0.mk hS7; clear hS7))
    go_ret
    exact ⟨A7, c7, rfl, HS7.out, hb7⟩
end Go.Proofs.Ytfikhgiiccbbfaa.PH
