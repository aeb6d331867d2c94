/-
  A copy of []Entry, all rows apart (laws.toEntryS, walked by hand). Condition: what the argument fits.
-/
import Derived.Test.YtfikhgiiccbbfaaPOP2
import Derived.Test.YtfikhgiiccbbfaaPOEntC
namespace Go.Proofs.Ytfikhgiiccbbfaa.PH
set_option linter.unusedVariables false
set_option linter.unusedSimpArgs false
open Go.RowKit Go.Proofs.YtfikhgiiccbbfaaW.PrintWords Go.Proofs.YtfikhgiiccbbfaaW.PrintLast Go.Proofs.YtfikhgiiccbbfaaW.PrintMore Go.Proofs.Ytfikhgiiccbbfaa.Gn Go.Proofs.Ytfikhgiiccbbfaa
attribute [local go_sem] max2_int min2_int max_two min_two max_three min_three max_four min_four World.cell?_drew World.frozen?_drew

set_option maxHeartbeats 4000000 in
set_option maxRecDepth 100000 in
theorem toEnts_c (x : List S84) (w : Ft.fit47 x) (A : Option Addr) (c : Nat) (W : World) (hC : Kd.C k84 W A x.length x) (hc : x.length ≤ c) :
    Calls Try.prog 25 #[.slice A x.length c] W (RetEs (x.map conv_Entry) W) := by
  have hlen : x.length * 48 ≤ 140737488351232 := w.1
  have HR0 := Aside0.mk hC
  have HC0 := Aside0.mk hc
  have HW := Aside0.mk w.2
  have HLEN := Aside0.mk hlen
  have hn0 : (0 : Int) ≤ (x.length : Int) := by omega
  have hn1 : (x.length : Int).toNat * 48 ≤ 281474976710656 := by omega
  have hB := Below.refl W.heap.size W
  clear hC hc w hlen
  go_enter Try.func25, Try.ntmps25
  go_wp2_with (first | ((with_reducible refine gate_dst (N := 7) rfl ?_); refine Kd.S_make mEnt _ 89 rfl (N := 7) rfl 49 _ _ rfl (x.length : Int) rfl rfl Try.underlying49 (.agg #[(.slice none 0 0), (.slice none 0 0)]) 48 info89 rfl (by decide) (by omega) z89 (ok := fun _ => True) (okp := fun _ => True) mEnt_nil (fun _ hk => hk) trivial hn0 hn1 hB (Nat.le_refl _) ?_; intro v3 w3 hS hb hg_ hnew_; have HS3 := Aside0.mk hS; have HB3 := Aside0.mk hb; clear hS hb hg_ hnew_))
  go_loopw [4] (fun s4 wr => ∃ (dn rs : List S84), s4 = .int .i64 dn.length ∧ Aside0 (dn ++ rs = x) ∧ Aside0 (Kd.S mEnt 89 wr W.heap.size (fun _ => True) v3 (dn.map conv_Entry ++ List.replicate rs.length z89)) ∧ Aside0 (Below W.heap.size W wr)) (fun s4 _ => x.length - (intOf s4).toNat)
  case atStart => exact ⟨[], x, rfl, ⟨rfl⟩, ⟨by have h := HS3.out; rw [Int.toNat_natCast] at h; exact h⟩, HB3⟩
  case round =>
    obtain ⟨dn, rs, rfl, HX, HSR, HBR⟩ := hrel
    cases rs with
    | nil =>
      have hx := HX.out
      rw [List.append_nil] at hx
      subst hx
      have hlt : ¬ dn.length < dn.length := Nat.lt_irrefl _
      obtain ⟨A3, c3, rfl⟩ := Kd.S_slice HSR.out
      go_wp2
      go_ret
      have h := HSR.out
      simp only [List.length_nil, List.replicate_zero, List.append_nil] at h ⊢
      exact ⟨A3, c3, rfl, h, HBR.out⟩
    | cons a r =>
      have hx := HX.out
      have hlx : x.length = dn.length + (r.length + 1) := by rw [← hx]; simp
      have hlt : dn.length < x.length := by omega
      have hltI : ((dn.length : Nat) : Int) < (x.length : Int) := by omega
      have h0I : (0 : Int) ≤ ((dn.length : Nat) : Int) := Int.natCast_nonneg _
      have hrd : x.getD ((dn.length : Nat) : Int).toNat z84 = a := by rw [← hx]; exact rd_mid dn a r _
      obtain ⟨ad, A1, c1, A2, c2, rfl, hx0, hx1, hl0, hi0, hl1, hi1⟩ := at_T84 (Kd.C_below HR0.out HBR.out) ((dn.length : Nat) : Int) h0I hltI
      rw [show rd_T84 x ((dn.length : Nat) : Int) = a from hrd] at hx0 hx1 hl0 hi0 hl1 hi1
      rw [Int.toNat_natCast] at hx0 hx1
      have hsr : Kd.S mEnt 89 wr W.heap.size (fun _ => True) v3 (dn.map conv_Entry ++ z89 :: List.replicate r.length z89) := HSR.out
      obtain ⟨g, cap, hv, hbg, q1_, q2_⟩ := Kd.S_form hsr (by rw [List.length_append, List.length_cons]; omega)
      have hln : (dn.map conv_Entry ++ z89 :: List.replicate r.length z89).length = x.length := by rw [hlx]; simp
      rw [hln] at hv
      subst hv
      have hfit : Ft.fit84 a := HW.out a (by rw [← hx]; simp)
      have HCALL := Aside0.mk (toEntry_c a hfit A1 c1 A2 c2 wr hi0 hl0 hi1 hl1)
      have HSR2 := Aside0.mk hsr
      have HX2 := Aside0.mk hx
      have HG := Aside0.mk hbg
      have HLX := Aside0.mk hlx
      have HWI := Aside0.mk (show wrap64 ((dn.length : Int) + 1) = (dn.length : Int) + 1 from wsucc (by omega) (by have := HLEN.out; omega))
      clear hx hlx hrd hl0 hi0 hl1 hi1 hsr hbg q1_ q2_ hln hfit
      go_wp2_with (first | (go_at_call 62; refine HCALL.out.mono ?_; rintro e w2 ⟨A4, c4, B4, b4, rfl, hR4, hS4, hb4⟩; obtain ⟨u0, u1, y0, y1, y2, y3, hput⟩ := ent_put HSR2.out hb4 (ent_made (base := W.heap.size) hR4 hS4 HBR.out.size); rw [List.length_map] at y0 y1 y2 y3 hput; have HPUT := Aside0.mk hput; have HB4 := Aside0.mk (below_step HBR.out hb4); clear hR4 hS4 hb4 hput))
      refine ⟨⟨dn ++ [a], r, ?_, ⟨?_⟩, ⟨?_⟩, ⟨?_⟩⟩, ?_⟩
      · try rw [HWI.out]
        simp
      · rw [List.append_assoc]
        exact HX2.out
      · rw [List.map_append, List.append_assoc]
        exact HPUT.out
      · exact belows2 HB4.out HG.out _ _ _ _
      · have := HLX.out
        try rw [HWI.out]
        simp [intOf]
        omega
end Go.Proofs.Ytfikhgiiccbbfaa.PH
