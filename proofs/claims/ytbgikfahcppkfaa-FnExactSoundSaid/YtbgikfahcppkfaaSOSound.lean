/-
  The program's Sound, walked: a copy of the row, without those whose code is not right or whose login comes twice. Conditions: the logins' sizes, the row's length.
-/
import Derived.Test.YtbgikfahcppkfaaSODoubt
import Derived.Test.YtbgikfahcppkfaaSOHasMem
import Derived.Test.YtbgikfahcppkfaaSODelWant
import Derived.Test.YtbgikfahcppkfaaSOCloneWant
namespace Go.Proofs.Ytbgikfahcppkfaa.PG
set_option linter.unusedVariables false
set_option linter.unusedSimpArgs false
open Go.RowKit Go.Proofs.YtbgikfahcppkfaaW.PrintWords Go.Proofs.YtbgikfahcppkfaaW.PrintLast Go.Proofs.YtbgikfahcppkfaaW.PrintMore Go.Proofs.Ytbgikfahcppkfaa.Gn
attribute [local go_sem] max2_int min2_int max_two min_two max_three min_three max_four min_four World.cell?_drew World.frozen?_drew
theorem enters_58 : ∀ args w, (callFunc 58 args).run Try.prog w = .ok (.enter 58 args) w := enters_of Try.func58 (by kernel_rfl) rfl
/-- The accounts that Sound leaves out. -/
def unsP (q : List ByteArray) (x : S77) : Bool := !decide (x.f4 = 0) || decide (x.f1 ∈ q)
set_option maxHeartbeats 1000000 in
theorem uns_clo (b : Nat) (q : List ByteArray) (hq : q.length ≤ 1000000) (A : Option Addr) (n c : Nat) (hn : n = q.length) (hc : n ≤ c) (x : S77) (W : World) (hE : W.cell? ⟨b, 0, none⟩ = some (.slice A n c)) (hQ : Kd.C Kd.string W A n q) :
    Calls Try.prog 58 #[.agg #[.string x.f0, .string x.f1, .string x.f2, .string x.f3, .int .i64 x.f4], .pointer (some ⟨b, 0, none⟩)] W fun e w' => e = .returned (.bool (unsP q x)) ∧ Below W.heap.size W w' := by
  have hB : b < W.heap.size := World.block_lt_of_cell? W _ hE
  have hne : b ≠ W.heap.size := by omega
  subst hn
  obtain ⟨q0, q1, q2, q3, q4⟩ := x
  obtain ⟨k, hk⟩ := (impl_has q q1 hq).rounds
  have HH := Aside0.mk (fun (V : World) (hb : Below W.heap.size W V) => slices_Contains_string.calls k A c q q1 _ V (Kd.C_below hQ hb) hc hk)
  clear hQ hk
  unfold unsP
  dsimp only
  generalize decide (q1 ∈ q) = m at HH ⊢
  by_cases h4 : q4 = 0
  · subst h4
    go_enter Try.func58, Try.ntmps58
    go_wp2_with (go_at_call 59; refine (HH.out _ (below_alloc (Below.refl _ _) _)).mono ?_; rintro e w1 ⟨rfl, hb1⟩; have HB1 := Aside0.mk hb1.below; clear hb1)
    go_ret
    exact ⟨rfl, below_step (below_alloc (Below.refl _ W) _) HB1.out⟩
  · have h5 : (q4 != 0) = true := by simp [h4]
    have h6 : decide (q4 = 0) = false := decide_eq_false h4
    rw [h6]
    clear h6
    go_enter Try.func58, Try.ntmps58
    go_wp2
    go_ret
    exact ⟨rfl, below_alloc (Below.refl _ W) _⟩
/-- What Sound answers. -/
def soundV (l : List S77) : List S77 := l.filter fun x => !unsP (doubtV l) x
set_option maxHeartbeats 4000000 in
set_option maxRecDepth 100000 in
theorem sound_calls (A : Option Addr) (c : Nat) (l : List S77) (w : World) (hr : Kd.C k77 w A l.length l) (hc : l.length ≤ c) (h20 : l.length ≤ 20) (hsz : ∀ x, x ∈ l → x.f1.size ≤ 9223372036854775807) :
    Calls Try.prog 31 #[.slice A l.length c] w fun e w' => ∃ v, e = .returned v ∧ Kd.R k77 77 w' w.heap.size (fun _ => True) v (soundV l) ∧ Below w.heap.size w w' := by
  have hlen : ¬ ((l.length : Int) > 20) := by omega
  have hdo := doubt_calls A c l w hr hc h20 hsz
  have hql := doubtV_len l
  unfold soundV
  generalize doubtV l = q at hdo hql ⊢
  have HR := Aside0.mk hr
  have HC := Aside0.mk hc
  have HL := Aside0.mk h20
  have HQL := Aside0.mk (show q.length ≤ 1000000 by omega)
  clear hr hc hsz h20 hql
  have HCL := Aside0.mk (fun (V : World) (hb : Below w.heap.size w V) => clone_Want A c l V (Kd.C_below HR.out hb) HC.out (by have := HL.out; omega))
  have HDEL := Aside0.mk (fun (b : Nat) (A1 : Option Addr) (n1 c1 : Nat) (w1 : World) (hn : n1 = q.length) (hcc : n1 ≤ c1) (hE : w1.cell? ⟨b, 0, none⟩ = some (.slice A1 n1 c1)) (hQ : Kd.C Kd.string w1 A1 n1 q) (A : Option Addr) (c : Nat) (V : World) (hR : Kd.R k77 77 V w1.heap.size (fun _ => True) (.slice A l.length c) l) (hb : Below w1.heap.size w1 V) =>
      delf_Want k77 rfl z77 58 #[.pointer (some ⟨b, 0, none⟩)] (unsP q) w1.heap.size w1 (fun _ => True) (fun W x cs hb hK => by
        obtain rfl := k77_open hK
        exact uns_clo b q HQL.out A1 n1 c1 hn hcc x W (pw_cell_below hb hE) (Kd.C_below hQ hb)) enters_58 A c l V hR hb hb.size)
  generalize (l.filter fun x => !unsP q x) = ys at HDEL ⊢
  go_enter Try.func31, Try.ntmps31
  go_wp2_with (first | (go_at_call 24; go_loud (refine hdo.mono ?_; rintro e w2 ⟨v, rfl, hR, hb2⟩; obtain ⟨A2, c2, rfl⟩ := Kd.R_slice hR; have HR2 := Aside0.mk hR; have HB2 := Aside0.mk hb2; have HE2 := Aside0.mk (by simp : (w2.alloc (.cells #[.slice A2 q.length c2] 40)).cell? ⟨w2.heap.size, 0, none⟩ = some (.slice A2 q.length c2)); clear hR hb2)) | (go_at_call 57; go_loud (refine (HCL.out (w2.alloc (.cells #[.slice A2 q.length c2] 40)) (below_alloc HB2.out _)).mono ?_; rintro e w4 ⟨v, rfl, hR, hb4⟩; obtain ⟨A4, c4, rfl⟩ := Kd.R_slice hR; have HR4 := Aside0.mk hR; have HB4 := Aside0.mk hb4; clear hR hb4)) | (go_at_call 56; go_loud (refine (HDEL.out w2.heap.size A2 q.length c2 (w2.alloc (.cells #[.slice A2 q.length c2] 40)) rfl (Kd.R_reads' HR2.out).2.1 HE2.out (Kd.C_alloc (Kd.R_reads' HR2.out).2.2 _) A4 c4 w4 HR4.out HB4.out).mono ?_); rintro e w5 ⟨c5, rfl, hR, hb5, hk5⟩; have HR5 := Aside0.mk hR; have HB5 := Aside0.mk hb5; clear hR hb5 hk5))
  go_ret
  exact ⟨_, rfl, Kd.R_lower HR5.out (by have := HB2.out.size; simp; omega), below_step (below_alloc HB2.out _) HB5.out⟩

set_option maxHeartbeats 1000000 in
set_option maxRecDepth 100000 in
theorem sound_long (A : Option Addr) (c : Nat) (l : List S77) (w : World) (h20 : ¬ l.length ≤ 20) :
    Calls Try.prog 31 #[.slice A l.length c] w fun e w' => ∃ v, e = .returned v ∧ Kd.R k77 77 w' w.heap.size (fun _ => True) v [] ∧ Below w.heap.size w w' := by
  have hlen : (l.length : Int) > 20 := by omega
  clear h20
  go_enter Try.func31, Try.ntmps31
  go_wp2
  go_ret
  exact ⟨_, rfl, Kd.R_nil _ _ _ _ _, Below.refl _ _⟩
def soundAll (l : List S77) : List S77 := if l.length ≤ 20 then soundV l else []
/-- The program's Sound, where the walk speaks. -/
def impl_Sound.f (l0 : List S77) : Option (List S77) := if sizesB l0 = true then some (soundAll l0) else none
theorem impl_Sound.calls (A0 : Option Addr) (c0 : Nat) (l0 : List S77) (r : List S77) (w : World) (hr0 : Kd.C k77 w A0 l0.length l0) (hc0 : l0.length ≤ c0) (h : impl_Sound.f l0 = some r) :
    Calls Try.prog 31 #[.slice A0 l0.length c0] w fun e w' => ∃ v0_ : Value, e = .returned (v0_) ∧ Kd.R k77 77 w' w.heap.size (fun _ => True) v0_ r ∧ Below w.heap.size w w' := by
  unfold impl_Sound.f at h
  by_cases hs : sizesB l0 = true
  · rw [if_pos hs] at h
    obtain rfl := Option.some.inj h
    unfold soundAll
    by_cases h20 : l0.length ≤ 20
    · rw [if_pos h20]
      exact sound_calls A0 c0 l0 w hr0 hc0 h20 (fun x hx => by simpa using List.all_eq_true.1 hs x hx)
    · rw [if_neg h20]
      exact sound_long A0 c0 l0 w h20
  · rw [if_neg hs] at h
    cases h
end Go.Proofs.Ytbgikfahcppkfaa.PG
