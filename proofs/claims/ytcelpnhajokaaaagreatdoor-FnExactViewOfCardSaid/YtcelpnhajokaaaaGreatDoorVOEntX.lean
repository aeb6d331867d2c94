/-
 Entries by value and EntryOut, as the laws use them: contracts without rounds over one kind (mEnt): copies, marks, comparison. Conditions: what the arguments fit; the marks' numbers stay small.
-/
import Derived.Test.YtcelpnhajokaaaaGreatDoorVOEntC
import Derived.Test.YtcelpnhajokaaaaGreatDoorVOEntM
import Derived.Test.YtcelpnhajokaaaaGreatDoorVOP1
import Derived.Test.YtcelpnhajokaaaaGreatDoorVOP6
import Derived.Test.YtcelpnhajokaaaaGreatDoorVOP2
import Derived.Test.YtcelpnhajokaaaaGreatDoorVOMarkString
namespace Go.Proofs.YtcelpnhajokaaaaGreatDoor.PG
set_option linter.unusedVariables false
set_option linter.unusedSimpArgs false
open Go.RowKit Go.Proofs.YtcelpnhajokaaaaGreatDoorW.PrintWords Go.Proofs.YtcelpnhajokaaaaGreatDoorW.PrintLast Go.Proofs.YtcelpnhajokaaaaGreatDoorW.PrintMore Go.Proofs.YtcelpnhajokaaaaGreatDoor.Gn Go.Proofs.YtcelpnhajokaaaaGreatDoor
attribute [local go_sem] max2_int min2_int max_two min_two max_three min_three max_four min_four World.cell?_drew World.frozen?_drew
abbrev EM (V : World) (base : Nat) (ok : Nat → Prop) (y : S46) (A : Option Addr) (n c : Nat) (B : Option Addr) (m b : Nat) : Prop := mEnt.M V base ok y [.slice A n c, .slice B m b]
theorem EM_C {V : World} {base : Nat} {ok : Nat → Prop} {y : S46} {A : Option Addr} {n c : Nat} {B : Option Addr} {m b : Nat} (h : EM V base ok y A n c B m b) : n = y.f0.length ∧ m = y.f1.length ∧ n ≤ c ∧ Kd.C k161 V A n y.f0 ∧ m ≤ b ∧ Kd.C k165 V B m y.f1 := by
 obtain ⟨v0, v1, o0, o1, e, a0, a1, a2, g0, g1⟩ := mEnt_openM h
 injection e with e0 e
 injection e with e1 _
 subst e0 e1
 obtain ⟨h0, h1, h2⟩ := Kd.R_reads' g0
 obtain ⟨h3, h4, h5⟩ := Kd.S_reads' g1
 exact ⟨h0, h3, h1, by rw [h0]; exact h2, h4, by rw [h3]; exact h5⟩
theorem EM_keep {V V' : World} {base : Nat} {ok : Nat → Prop} {y : S46} {A : Option Addr} {n c : Nat} {B : Option Addr} {m b : Nat} (h : EM V base ok y A n c B m b) (hb : Below V.heap.size V V') : EM V' base ok y A n c B m b := mEnt.M_below h hb
theorem EM_kept {V V' : World} {S : Nat → Prop} {base : Nat} {ok : Nat → Prop} {y : S46} {A : Option Addr} {n c : Nat} {B : Option Addr} {m b : Nat} (h : EM V base ok y A n c B m b) (hk : Kept V V' S) (hne : ∀ k, ok k → ¬ S k) : EM V' base ok y A n c B m b := mEnt.M_kept h hk hne
theorem EM_of {V V' : World} {B0 : Nat} {x : List S161} {y : List S165} {A : Option Addr} {n c : Nat} {B : Option Addr} {m b : Nat} (hR : Kd.R k161 161 V' V.heap.size (fun _ => True) (.slice A n c) x) (hS : Kd.S k165 165 V' V.heap.size (fun _ => True) (.slice B m b) y) (hle : B0 ≤ V.heap.size) : EM V' B0 (fun k => V.heap.size ≤ k ∧ k < V'.heap.size) ⟨x, y⟩ A n c B m b := ent_made hR hS hle
def RetEO (r : List S161 × List S165 × Int) (W : World) (e : Ending) (w' : World) : Prop := ∃ A c B b, e = .returned (.agg #[.slice A r.1.length c, .slice B r.2.1.length b, .int .i64 r.2.2]) ∧ EM w' W.heap.size (fun k => W.heap.size ≤ k ∧ k < w'.heap.size) ⟨r.1, r.2.1⟩ A r.1.length c B r.2.1.length b ∧ Below W.heap.size W w'
def RetEM (y : S46) (W : World) (e : Ending) (w' : World) : Prop := ∃ A c B b, e = .returned (.agg #[.slice A y.f0.length c, .slice B y.f1.length b]) ∧ EM w' W.heap.size (fun k => W.heap.size ≤ k ∧ k < w'.heap.size) y A y.f0.length c B y.f1.length b ∧ Below W.heap.size W w'
theorem toEntry_m (x : S37) (w : Ft.fit37 x) (A : Option Addr) (c : Nat) (B : Option Addr) (b : Nat) (W : World) (hC : Kd.C k170 W A x.f0.length x.f0) (hc : x.f0.length ≤ c) (hD : Kd.C k172 W B x.f1.length x.f1) (hd : x.f1.length ≤ b) :
   Calls Tryz.prog 19 #[.agg #[.slice A x.f0.length c, .slice B x.f1.length b]] W (RetEM (conv_Entry x) W) := by
 refine (toEntry_c x w A c B b W hC hc hD hd).mono ?_
 rintro e w' ⟨A', c', B', b', rfl, hR, hS, hb⟩
 exact ⟨A', c', B', b', rfl, EM_of hR hS (Nat.le_refl _), hb⟩
theorem szEntry_m (x : List S170) (y : List S172) (acc r : Int) (hr : Ev (fun k => laws_szEntry.f k x y acc) r) (A : Option Addr) (c : Nat) (B : Option Addr) (b : Nat) (W : World) (hC : Kd.C k170 W A x.length x) (hc : x.length ≤ c) (hD : Kd.C k172 W B y.length y) (hd : y.length ≤ b) :
   Calls Tryz.prog 16 #[.agg #[.slice A x.length c, .slice B y.length b], .int .i64 acc] W (RetI r W) := by
 obtain ⟨k, hk⟩ := ev_at hr
 exact laws_szEntry.calls k A c x B b y acc r W hC hc hD hd hk
theorem eqEntry_m (y : S46) (h : lens_Entry y) (n m : Nat) (A : Option Addr) (c : Nat) (B : Option Addr) (b : Nat) (A' : Option Addr) (c' : Nat) (B' : Option Addr) (b' : Nat) (W : World) {base base' : Nat} {ok ok' : Nat → Prop} (h0 : EM W base ok y A n c B m b) (h1 : EM W base' ok' y A' n c' B' m b') :
   Calls Tryz.prog 22 #[.agg #[.slice A n c, .slice B m b], .agg #[.slice A' n c', .slice B' m b']] W (RetB true W) := by
 obtain ⟨k, hk⟩ := ev_at (eq_Entry y h)
 obtain ⟨rfl, rfl, p1, p2, p3, p4⟩ := EM_C h0
 obtain ⟨_, _, q1, q2, q3, q4⟩ := EM_C h1
 exact laws_eqEntry.calls k A c y.f0 B b y.f1 A' c' y.f0 B' b' y.f1 true W p2 p1 p4 p3 q2 q1 q4 q3 hk
theorem eqEntryOut_m (y : S46) (h : lens_Entry y) (n m : Nat) (z : Int) (A : Option Addr) (c : Nat) (B : Option Addr) (b : Nat) (A' : Option Addr) (c' : Nat) (B' : Option Addr) (b' : Nat) (W : World) {base base' : Nat} {ok ok' : Nat → Prop} (h0 : EM W base ok y A n c B m b) (h1 : EM W base' ok' y A' n c' B' m b') :
   Calls Tryz.prog 27 #[.agg #[.slice A n c, .slice B m b, .int .i64 z], .agg #[.slice A' n c', .slice B' m b', .int .i64 z]] W (RetB true W) := by
 obtain ⟨k, hk⟩ := ev_at (show Ev (fun k => laws_eqEntryOut.f k y.f0 y.f1 z y.f0 y.f1 z) true from Ev_bind (eq_Entry y h) (Ev_some fun k => by rw [if_pos rfl, if_pos rfl]))
 obtain ⟨rfl, rfl, p1, p2, p3, p4⟩ := EM_C h0
 obtain ⟨_, _, q1, q2, q3, q4⟩ := EM_C h1
 exact laws_eqEntryOut.calls k A c y.f0 B b y.f1 z A' c' y.f0 B' b' y.f1 z true W p2 p1 p4 p3 q2 q1 q4 q3 hk
def RetMarkEM (w0 : World) (ok : Nat → Prop) (A : Option Addr) (n c : Nat) (B : Option Addr) (m b : Nat) (y : S46) (x : Int) (w : World) (en : Ending) (w' : World) : Prop :=
 en = .returned (.int .i64 x) ∧ EM w' w0.heap.size ok y A n c B m b ∧ Below w0.heap.size w0 w' ∧ Kept w w' ok
theorem markEntry_m (w0 : World) (ok : Nat → Prop) (y : S46) (n m : Nat) (A : Option Addr) (c : Nat) (B : Option Addr) (b : Nat) (x : Int) (w : World) (hB : Below w0.heap.size w0 w) (hM : EM w w0.heap.size ok y A n c B m b) (hd : n ≤ 1048576) (hl : m ≤ 1048576) (h0 : 0 ≤ x) (hx : x + n_Ent y ≤ 4000000000000000000) :
   Calls Tryz.prog 30 #[.agg #[.slice A n c, .slice B m b], .int .i64 x] w (RetMarkEM w0 ok A n c B m b (mk_Ent x y) (x + n_Ent y) w) := by
 obtain ⟨rfl, rfl, _⟩ := EM_C hM
 obtain ⟨v0, v1, o0, o1, e, a0, a1, a2, g0, g1⟩ := mEnt_openM hM
 injection e with e0 e
 injection e with e1 _
 subst e0 e1
 refine (markEntry_c w0 o0 o1 a2 A c B b y.f0 y.f1 x w hB g0 g1 hd hl h0 hx).mono ?_
 rintro e w' ⟨rfl, hR, hS, hb, hk⟩
 exact ⟨rfl, mEnt_mkM (x := mk_Ent x y) a0 a1 a2 hR hS, hb, hk.mono (fun k hk => hk.elim (a0 k) (a1 k))⟩
set_option maxHeartbeats 4000000 in
set_option maxRecDepth 100000 in
theorem markEntryOut_m (w0 : World) (ok : Nat → Prop) (y : S46) (n m : Nat) (z : Int) (A : Option Addr) (c : Nat) (B : Option Addr) (b : Nat) (x : Int) (w : World) (hB : Below w0.heap.size w0 w) (hM : EM w w0.heap.size ok y A n c B m b) (hlt : ∀ k, ok k → k < w.heap.size) (hd : n ≤ 1048576) (hl : m ≤ 1048576) (h0 : 0 ≤ x) (hx : x + n_Ent y ≤ 4000000000000000000) :
   Calls Tryz.prog 31 #[.agg #[.slice A n c, .slice B m b, .int .i64 z], .int .i64 x] w (RetMarkEM w0 ok A n c B m b (mk_Ent x y) (x + n_Ent y) w) := by
 obtain ⟨w1, hw1⟩ : ∃ w1, w.alloc (.cells #[.slice A n c, .slice B m b, .int .i64 z] 54) = w1 := ⟨_, rfl⟩
 have hb1 : Below w.heap.size w w1 := by rw [← hw1]; exact below_alloc (Below.refl _ _) _
 have hn1 : w1.heap[w.heap.size]? = some (.cells #[.slice A n c, .slice B m b, .int .i64 z] 54 (0, 0)) := by rw [← hw1]; exact heap_alloc_new w _
 have q0 : w1.cell? ⟨w.heap.size, 0, none⟩ = some (.slice A n c) := (blk_cell hn1 0).trans rfl
 have q1 : w1.cell? ⟨w.heap.size, 1, none⟩ = some (.slice B m b) := (blk_cell hn1 1).trans rfl
 have hc := markEntry_m w0 ok y n m A c B b x w1 (below_step hB hb1) (EM_keep hM hb1) hd hl h0 hx
 have HB1 := Aside0.mk hb1
 clear hb1 hn1 hB hM hd hl h0 hx hlt
 generalize x + (n_Ent y : Int) = x2 at hc ⊢
 go_enter Tryz.func31, Tryz.ntmps31
 go_wp2_with (go_at_call 30; refine hc.mono ?_; rintro e w2 ⟨rfl, hM2, hb2, hk2⟩; have HM2 := Aside0.mk hM2; have HB2 := Aside0.mk hb2; have HK2 := Aside0.mk hk2; clear hM2 hb2 hk2)
 go_ret
 exact ⟨rfl, HM2.out, HB2.out, (Kept.of_below HB1.out _).then_ HK2.out (fun k hk => .inl hk)⟩
theorem heldEntry_e (y : S46) (x : Int) (hd : y.f0.length ≤ 1048576) (hl : y.f1.length ≤ 1048576) (h0 : 0 ≤ x) (hx : x + n_Ent y ≤ 4000000000000000000) : Ev (fun k => laws_heldEntry.f k (mk_Ent x y).f0 (mk_Ent x y).f1 x) (x + n_Ent y) := by
 have hal := nAs_len y.f1
 have hx2 : x + (2 * y.f0.length + nAs y.f1 : Nat) ≤ 4000000000000000000 := hx
 have hs0 := held_Rdn y.f0.length x (by omega) h0 (by omega)
 have hs1 := held_Attrs y.f1 [] (x + 2 * y.f0.length) (by simp; omega) (by omega) (by omega)
 have e4 : (x + 2 * y.f0.length + nAs y.f1 : Int) = x + n_Ent y := by simp only [n_Ent]; omega
 unfold laws_heldEntry.f
 refine Ev_bind hs0 (Ev.congr (fun k => if_neg (by omega)) ?_)
 refine Ev_bind (show Ev (fun k => laws_heldAttrS.f k (mkAs (x + 2 * y.f0.length) y.f1) (x + 2 * y.f0.length)) _ from hs1) ?_
 rw [e4]
 exact Ev_some fun k => if_neg (by omega)
theorem heldEntryOut_m (y : S46) (n m : Nat) (z : Int) (A : Option Addr) (c : Nat) (B : Option Addr) (b : Nat) (x : Int) (W : World) {base : Nat} {ok : Nat → Prop} (hM : EM W base ok (mk_Ent x y) A n c B m b) (hd : n ≤ 1048576) (hl : m ≤ 1048576) (h0 : 0 ≤ x) (hx : x + n_Ent y ≤ 4000000000000000000) :
   Calls Tryz.prog 32 #[.agg #[.slice A n c, .slice B m b, .int .i64 z], .int .i64 x] W (RetI (x + n_Ent y) W) := by
 obtain ⟨rfl, rfl, p1, p2, p3, p4⟩ := EM_C hM
 have e0 : (mk_Ent x y).f0.length = y.f0.length := mkL_length _ _ _ _
 have e1 : (mk_Ent x y).f1.length = y.f1.length := mkAs_len _ _
 obtain ⟨k, hk⟩ := ev_at (show Ev (fun k => laws_heldEntryOut.f k (mk_Ent x y).f0 (mk_Ent x y).f1 z x) (x + n_Ent y) from Ev_bind (heldEntry_e y x (by rw [← e0]; exact hd) (by rw [← e1]; exact hl) h0 hx) (Ev_some fun k => if_neg (by omega)))
 exact laws_heldEntryOut.calls k A c _ B b _ z x _ W p2 p1 p4 p3 hk
end Go.Proofs.YtcelpnhajokaaaaGreatDoor.PG
/-
 Rules and access control lists: the program's isRule and AclRight, walked, and the reference's. Conditions: the lengths' bounds.
-/
namespace Go.Proofs.YtcelpnhajokaaaaGreatDoor.PG
open Go.RowKit Go.Proofs.YtcelpnhajokaaaaGreatDoorW.PrintWords Go.Proofs.YtcelpnhajokaaaaGreatDoorW.PrintLast Go.Proofs.YtcelpnhajokaaaaGreatDoorW.PrintMore Go.Proofs.YtcelpnhajokaaaaGreatDoor.Gn Go.Proofs.YtcelpnhajokaaaaGreatDoor.Sem
attribute [local go_sem] max2_int min2_int max_two min_two max_three min_three max_four min_four
set_option linter.unusedVariables false
set_option linter.unusedSimpArgs false
def restB (x : S116) : Bool := dnB x.f1 && (decide (x.f2.length ≤ 8) && (namesB x.f2 && (decide (1 ≤ x.f3) && decide (x.f3 ≤ 4))))
def ruleB (x : S116) : Bool := (x.f0.toList == ([42] : List UInt8) || nameB x.f0) && restB x
theorem impl_rule (x : S116) (h2 : x.f2.length ≤ 9223372036854775807) : Ev (fun k => impl_isRule.f k x.f0 x.f1 x.f2 x.f3 x.f4) (ruleB x) := by
 have rest : Ev (fun k => ((impl_DnRight.f x.f1).bind fun t => (if t = true then (if (x.f2.length : Int) ≤ 8 then ((impl_areNames.f k x.f2).bind fun t => (if t = true then ((impl_isRight.f x.f3).bind fun t => (some t)) else (some false))) else (some false)) else (some false)))) (restB x) := by
   refine Ev_bind (Ev_some fun k => rfl) ?_
   unfold restB
   cases dnB x.f1 with
   | false => exact Ev_some fun k => by simp
   | true =>
     simp only [if_true, Bool.true_and]
     by_cases h8 : (x.f2.length : Int) ≤ 8
     · rw [decide_eq_true (show x.f2.length ≤ 8 by omega), Bool.true_and]
       refine Ev.congr (fun k => if_pos h8) (Ev_bind (impl_names x.f2 h2) ?_)
       cases namesB x.f2 with
       | false => exact Ev_some fun k => by simp
       | true =>
         simp only [if_true, Bool.true_and]
         exact Ev_some fun k => by unfold impl_isRight.f; rw [between_eq]; rfl
     · rw [decide_eq_false (show ¬ x.f2.length ≤ 8 by omega), Bool.false_and]
       exact Ev_some fun k => if_neg h8
 unfold impl_isRule.f ruleB
 by_cases hs : x.f0.toList = ([42] : List UInt8)
 · rw [beq_iff_eq.2 hs, Bool.true_or, Bool.true_and]
   exact Ev.congr (fun k => if_pos hs) rest
 · rw [beq_eq_false_iff_ne.2 hs, Bool.false_or]
   refine Ev.congr (fun k => if_neg hs) (Ev_bind (Ev_some fun k => impl_name x.f0) ?_)
   cases nameB x.f0 with
   | false => exact Ev_some fun k => by simp
   | true =>
     simp only [if_true, Bool.true_and]
     exact rest
theorem spec_rule (x : S116) (h1 : x.f1.length ≤ 9223372036854775807) (h2 : x.f2.length ≤ 9223372036854775807) : Ev (fun k => spec_l06Rule.f k x.f0 x.f1 x.f2 x.f3 x.f4) (ruleB x) := by
 have rest : Ev (fun k => ((spec_DnRight.f k x.f1).bind fun t => (if t = true then (if (x.f2.length : Int) ≤ 8 then ((spec_l04Names.f k x.f2).bind fun t => (if t = true then ((spec_l02Is.f x.f3 1 4).bind fun t => (some t)) else (some false))) else (some false)) else (some false)))) (restB x) := by
   refine Ev_bind (spec_dn x.f1 h1) ?_
   unfold restB
   cases dnB x.f1 with
   | false => exact Ev_some fun k => by simp
   | true =>
     simp only [if_true, Bool.true_and]
     by_cases h8 : (x.f2.length : Int) ≤ 8
     · rw [decide_eq_true (show x.f2.length ≤ 8 by omega), Bool.true_and]
       refine Ev.congr (fun k => if_pos h8) (Ev_bind (spec_names x.f2 h2) ?_)
       cases namesB x.f2 with
       | false => exact Ev_some fun k => by simp
       | true =>
         simp only [if_true, Bool.true_and]
         exact Ev_some fun k => by rw [l02Is_eq]; rfl
     · rw [decide_eq_false (show ¬ x.f2.length ≤ 8 by omega), Bool.false_and]
       exact Ev_some fun k => if_neg h8
 unfold spec_l06Rule.f ruleB
 by_cases hs : x.f0.toList = ([42] : List UInt8)
 · rw [beq_iff_eq.2 hs, Bool.true_or, Bool.true_and]
   exact Ev.congr (fun k => if_pos hs) rest
 · rw [beq_eq_false_iff_ne.2 hs, Bool.false_or]
   refine Ev.congr (fun k => if_neg hs) (Ev_bind (spec_name x.f0) ?_)
   cases nameB x.f0 with
   | false => exact Ev_some fun k => by simp
   | true =>
     simp only [if_true, Bool.true_and]
     exact rest
def aclB (l : List S116) : Bool := decide (l.length ≤ 10) && l.all ruleB
theorem enters_162 : ∀ args w, (callFunc 162 args).run Tryz.prog w = .ok (.enter 162 args) w := enters_of Tryz.func162 (by kernel_rfl) rfl
set_option maxHeartbeats 1000000 in
theorem acl_clo (x : S116) (cs : List Value) (W : World) (hK : Kd.K k116 W x cs) :
   Calls Tryz.prog 162 #[.agg cs.toArray] W fun e w' => e = .returned (.bool (!ruleB x)) ∧ Below W.heap.size W w' := by
 obtain ⟨A1, c1, A2, c2, rfl, l1, g1, l2, g2⟩ := k116_open hK
 obtain ⟨k, hk⟩ := (impl_rule x (Kd.C_max g2)).rounds
 have HK := Aside0.mk hk
 have hb := (Below.refl W.heap.size W).alloc (Nat.le_refl _) (.cells #[.string x.f0, .slice A1 x.f1.length c1, .slice A2 x.f2.length c2, .int .i64 x.f3, .bool x.f4] 116)
 have H0 := Aside0.mk (Kd.C_below g1 hb)
 have H1 := Aside0.mk (Kd.C_below g2 hb)
 have L0 := Aside0.mk l1
 have L1 := Aside0.mk l2
 generalize ruleB x = b at HK ⊢
 clear hk g1 g2 l1 l2 hb hK
 go_enter Tryz.func162, Tryz.ntmps162
 go_wp2_with (go_at_call 163; refine (impl_isRule.calls k x.f0 A1 c1 x.f1 A2 c2 x.f2 x.f3 x.f4 b _ H0.out L0.out H1.out L1.out HK.out).mono ?_; rintro e w' ⟨rfl, hb'⟩)
 go_ret
 exact ⟨rfl, below_then ((Below.refl _ W).alloc (Nat.le_refl _) _) (by simp) hb'⟩
def impl_AclRight.f (l0 : List S116) : Option Bool := some (aclB l0)
set_option maxHeartbeats 2000000 in
set_option maxRecDepth 100000 in
theorem impl_AclRight.calls (A0 : Option Addr) (c0 : Nat) (l0 : List S116) (r : Bool) (w : World) (hr0 : Kd.C k116 w A0 l0.length l0) (hc0 : l0.length ≤ c0) (h : impl_AclRight.f l0 = some r) :
   Calls Tryz.prog 83 #[.slice A0 l0.length c0] w fun e w' => e = .returned (.bool r) ∧ Below w.heap.size w w' := by
 obtain rfl := Option.some.inj h
 clear h
 have hall : (!(l0.any fun x => !ruleB x)) = l0.all ruleB := by rw [List.all_eq_not_any_not]
 have hcon := slices_ContainsFunc_Rule.any_ 162 #[] (fun _ => True) (fun x => !ruleB x) (fun _ _ _ h => h)
   (fun W x cs _ hK => acl_clo x cs W hK) enters_162 A0 c0 l0 w hr0 trivial
 unfold aclB
 rw [← hall]
 generalize (l0.any fun x => !ruleB x) = b at hcon
 clear hall hr0
 by_cases hq : (l0.length : Int) ≤ 10
 · have d1 : decide ((l0.length : Int) ≤ 10) = true := decide_eq_true hq
   have d2 : decide (l0.length ≤ 10) = true := decide_eq_true (by omega)
   rw [d2]
   clear hq
   go_enter Tryz.func83, Tryz.ntmps83
   go_wp2_with (go_at_call 161; refine hcon.mono ?_; rintro e w' ⟨rfl, hb'⟩)
   go_ret
   exact ⟨by rw [Bool.true_and]; rfl, hb'⟩
 · have d1 : decide ((l0.length : Int) ≤ 10) = false := decide_eq_false hq
   have d2 : decide (l0.length ≤ 10) = false := decide_eq_false (by omega)
   rw [d2]
   clear hq
   go_enter Tryz.func83, Tryz.ntmps83
   go_wp2
   go_ret
   exact ⟨by rw [Bool.false_and]; rfl, Below.refl _ _⟩
theorem spec_acl (l : List S116) (hl : l.length ≤ 9223372036854775807) (hv : ∀ x, x ∈ l → x.f1.length ≤ 9223372036854775807 ∧ x.f2.length ≤ 9223372036854775807) : Ev (fun k => spec_AclRight.f k l) (aclB l) := by
 have key : ∀ (rs dn : List S116), dn ++ rs = l → Ev (fun k => spec_AclRight.l0 k l (dn.length : Int)) (rs.all ruleB && decide (l.length ≤ 10)) := by
   intro rs
   induction rs with
   | nil =>
     intro dn hp
     rw [List.append_nil] at hp
     refine Ev_one fun k => ?_
     rw [spec_AclRight.l0, if_neg (by rw [hp]; omega)]
     simp only [List.all_nil, Bool.true_and]
     congr 1
     rw [decide_eq_decide]
     omega
   | cons a r ih =>
     intro dn hp
     have hlen : l.length = dn.length + (r.length + 1) := by rw [← hp]; simp
     have hrd : rd_T116 l (dn.length : Int) = a := by
       rw [← hp]
       unfold rd_T116
       rw [Int.toNat_natCast]
       simp
     have h1 := ih (dn ++ [a]) (by rw [← hp]; simp)
     have ha := hv a (by rw [← hp]; simp)
     refine Ev.step (fun k => by rw [spec_AclRight.l0, if_pos (show (dn.length : Int) < (l.length : Int) by omega), if_pos (show 0 ≤ (dn.length : Int) by omega), hrd]) ?_
     refine Ev_bind (spec_rule a ha.1 ha.2) ?_
     rw [List.all_cons]
     cases ruleB a with
     | false => exact Ev_some fun k => by simp
     | true =>
       simp only [if_true, Bool.true_and]
       rw [show wrap64 ((dn.length : Int) + 1) = ((dn ++ [a]).length : Int) from by rw [wsucc (by omega) (by omega)]; simp]
       exact h1
 have h := key l [] rfl
 unfold aclB
 rw [Bool.and_comm]
 exact h
end Go.Proofs.YtcelpnhajokaaaaGreatDoor.PG
