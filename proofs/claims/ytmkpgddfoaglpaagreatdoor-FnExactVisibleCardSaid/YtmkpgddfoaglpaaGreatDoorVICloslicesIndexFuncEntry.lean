/-
 slices_IndexFunc_Entry: what it comes to for whatever function value tells a test. Conditions: what is asked of the function value (hcall).
-/
import Derived.Shelf.Abstract
import Derived.Test.YtmkpgddfoaglpaaGreatDoorVIP1
import Derived.Test.YtmkpgddfoaglpaaGreatDoorVIGen
namespace Go.Proofs.YtmkpgddfoaglpaaGreatDoor.PG
open Go.RowKit Go.Proofs.YtmkpgddfoaglpaaGreatDoorW.PrintWords Go.Proofs.YtmkpgddfoaglpaaGreatDoorW.PrintLast Go.Proofs.YtmkpgddfoaglpaaGreatDoorW.PrintMore Go.Proofs.YtmkpgddfoaglpaaGreatDoor.Gn
attribute [local go_sem] max2_int min2_int max_two min_two max_three min_three max_four min_four
set_option linter.unusedVariables false
set_option linter.unusedSimpArgs false
set_option maxHeartbeats 4000000 in
set_option maxRecDepth 100000 in
theorem slices_IndexFunc_Entry.any_in (l : List (S44)) (g : Nat) (lb : Array Value) (E : World → Prop) (p : S44 → Bool) (hE : ∀ W W', Below W.heap.size W W' → E W → E W')
   (hcall : ∀ (W : World) (x : S44) (cs : List Value), x ∈ l → E W → Kd.K k44 W x cs → Calls Tryz.prog g (#[.agg cs.toArray] ++ lb) W fun e w' => e = .returned (.bool (p x)) ∧ Below W.heap.size W w')
   (eg : ∀ args w, (callFunc g args).run Tryz.prog w = .ok (.enter g args) w)
   (A : Option Addr) (c : Nat) (w : World) (hr : Kd.C k44 w A l.length l) (he : E w) :
   Calls Tryz.prog 168 #[.slice A l.length c, .func (.func g) #[] lb] w fun e w' => e = .returned (.int .i64 (idx p l)) ∧ Below w.heap.size w w' := by
 have hmx := Kd.C_max hr
 have HR := Aside0.mk hr
 have HEE := Aside0.mk he
 have HE := Aside0.mk hE
 have HCALL := Aside0.mk hcall
 clear hr he hE hcall
 go_enter Tryz.func168, Tryz.ntmps168
 go_wp2
 go_loopw [8] (fun i wr => ∃ k : Nat, k ≤ l.length ∧ i = .int .i64 k ∧ Aside0 (∀ j (hj : j < l.length), j < k → p (l[j]'hj) = false) ∧ Aside0 (Below w.heap.size w wr)) (fun i _ => l.length - (intOf i).toNat)
 case atStart => exact ⟨0, Nat.zero_le _, rfl, ⟨fun j hj h => absurd h (Nat.not_lt_zero _)⟩, ⟨Below.refl _ _⟩⟩
 case round =>
   obtain ⟨k, hk, rfl, HP, HB⟩ := hrel
   by_cases hlt : k < l.length
   · obtain ⟨ad, cs, hA, hcl, hK, hcc⟩ := Kd.C_get (Kd.C_below HR.out HB.out) z44 (k : Int) (by omega) (by omega)
     rw [Int.toNat_natCast, getD_at hlt] at hK
     obtain ⟨x, hx⟩ : ∃ x, l[k]'hlt = x := ⟨_, rfl⟩
     have HX := Aside0.mk hx
     rw [hx] at hK
     have HK := Aside0.mk hK
     obtain ⟨B0, b0, B1, b1, rfl, lb0, gb0, lb1, gb1⟩ := k44_open hK
     subst hA
     have hc0 : ∀ j u, ([.slice B0 (x.f0).length b0, .slice B1 (x.f1).length b1] : List Value)[j]? = some u → wr.cell? (ad.add (k * 2 + j)) = some u := by
       intro j u hu
       have := hcc j u hu
       rwa [Int.toNat_natCast] at this
     have f0 : wr.cell? (ad.add (k * 2)) = some (.slice B0 (x.f0).length b0) := hc0 0 _ rfl
     have f1 : wr.cell? ⟨(ad.add (k * 2)).block, (ad.add (k * 2)).off + 1, none⟩ = some (.slice B1 (x.f1).length b1) := by rw [← add_field _ _ 1 (by omega)]; exact hc0 1 _ rfl
     clear lb0 gb0 lb1 gb1
     clear hc0 hcc hcl hK hx
     have hcall := HCALL.out wr x _ (by rw [← HX.out]; exact List.getElem_mem hlt) (HE.out _ _ HB.out HEE.out) HK.out
     cases hq : p x with
     | true =>
       rw [hq] at hcall
       have HQ := Aside0.mk hq
       clear hq
       go_wp2_with (go_at_fn g; refine hcall.mono ?_; rintro e w' ⟨rfl, hb'⟩)
       go_ret
       exact ⟨by rw [idx_hit hlt (by rw [HX.out]; exact HQ.out) HP.out]; rfl, below_then HB.out HB.out.size hb'⟩
     | false =>
       rw [hq] at hcall
       have HQ := Aside0.mk hq
       clear hq
       go_wp2_with (go_at_fn g; refine hcall.mono ?_; rintro e w' ⟨rfl, hb'⟩)
       go_roundw
       case rel => exact ⟨k + 1, by omega, by go_num, ⟨fun j hj hjk => by
         rcases Nat.lt_succ_iff_lt_or_eq.1 hjk with h | rfl
         · exact HP.out j hj h
         · rw [HX.out]; exact HQ.out⟩, ⟨below_then HB.out HB.out.size hb'⟩⟩
       case measure => simp [intOf]; omega
   · obtain rfl : k = l.length := by omega
     go_wp2
     go_ret
     exact ⟨by rw [idx_none HP.out]; rfl, HB.out⟩
end Go.Proofs.YtmkpgddfoaglpaaGreatDoor.PG
