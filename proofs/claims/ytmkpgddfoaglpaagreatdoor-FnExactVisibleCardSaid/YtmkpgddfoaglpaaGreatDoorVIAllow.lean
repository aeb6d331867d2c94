/-
 What the first rule that applies says: the program's allowed, walked, and the reference's l06Allowed. Conditions: valid rules, a valid DN.
-/
import Derived.Test.YtmkpgddfoaglpaaGreatDoorVILawSt
import Derived.Test.YtmkpgddfoaglpaaGreatDoorVIHasMem
import Derived.Test.YtmkpgddfoaglpaaGreatDoorVIEntC
import Derived.Test.YtmkpgddfoaglpaaGreatDoorVIFits
import Derived.Test.YtmkpgddfoaglpaaGreatDoorVIP7
import Derived.Test.YtmkpgddfoaglpaaGreatDoorVIP3
namespace Go.Proofs.YtmkpgddfoaglpaaGreatDoor.PG
open Go.RowKit Go.Proofs.YtmkpgddfoaglpaaGreatDoorW.PrintWords Go.Proofs.YtmkpgddfoaglpaaGreatDoorW.PrintLast Go.Proofs.YtmkpgddfoaglpaaGreatDoorW.PrintMore Go.Proofs.YtmkpgddfoaglpaaGreatDoor.Gn Go.Proofs.YtmkpgddfoaglpaaGreatDoor.Sem
attribute [local go_sem] max2_int min2_int max_two min_two max_three min_three max_four min_four
set_option linter.unusedVariables false
set_option linter.unusedSimpArgs false
theorem dn_len {l : List S151} (h : dnB l = true) : l.length ≤ 6 := by
 unfold dnB at h
 simp only [Bool.and_eq_true, decide_eq_true_eq] at h
 exact h.1
def underB (dn base : List S151) : Bool := decide (base.length ≤ dn.length) && ((keyB (dn.drop (dn.length - base.length))).toList == (keyB base).toList)
theorem impl_under {dn base : List S151} (h : dnB dn = true) (h' : dnB base = true) : impl_dnUnder.f dn base = some (underB dn base) := by
 have h1 := dn_len h
 have h2 := dn_len h'
 unfold impl_dnUnder.f underB
 by_cases hl : base.length ≤ dn.length
 · have ew : wrap64 ((dn.length : Int) - (base.length : Int)) = ((dn.length - base.length : Nat) : Int) := by rw [w_id (by omega) (by omega)]; omega
   rw [if_pos (by omega), ew, if_pos (by omega), if_pos (by omega), Int.toNat_natCast, decide_eq_true hl, Bool.true_and]
   unfold impl_dnSame.f impl_dnKey.f
   rw [if_pos (by rw [List.length_drop]; omega), if_pos (keyOk_drop (keyOk_dn h) _), if_pos (keyOk_dn h')]
   rfl
 · rw [if_neg (by omega), decide_eq_false hl, Bool.false_and]
theorem spec_under {dn base : List S151} (h : dnB dn = true) (h' : dnB base = true) : Ev (fun k => spec_DnUnder.f k dn base) (underB dn base) := by
 have h1 := dn_len h
 have h2 := dn_len h'
 unfold spec_DnUnder.f underB
 refine Ev.congr (fun k => by rw [if_neg (by omega), if_neg (by omega)]) ?_
 refine Ev_bind (spec_dn dn (by omega)) ?_
 rw [h]
 refine Ev.congr (fun k => if_pos rfl) (Ev_bind (spec_dn base (by omega)) ?_)
 rw [h']
 refine Ev.congr (fun k => if_pos rfl) ?_
 by_cases hl : base.length ≤ dn.length
 · have ew : wrap64 ((dn.length : Int) - (base.length : Int)) = ((dn.length - base.length : Nat) : Int) := by rw [w_id (by omega) (by omega)]; omega
   rw [decide_eq_false (show ¬ (base.length : Int) > dn.length by omega), decide_eq_true hl, Bool.true_and]
   refine Ev.step (fun k => by simp only [spec_DnUnder.j0]; rw [if_neg (by decide), ew, if_pos (by omega), if_pos (by omega), Int.toNat_natCast]) ?_
   exact Ev_bind (spec_key (keyOk_drop (keyOk_dn h) _)) (Ev_bind (spec_key (keyOk_dn h')) (Ev.now _))
 · rw [decide_eq_true (show (base.length : Int) > dn.length by omega), decide_eq_false hl, Bool.false_and]
   exact Ev_one fun k => by simp only [spec_DnUnder.j0]; rw [if_pos trivial]
theorem rule_dn {x : S108} (h : ruleB x = true) : dnB x.f1 = true ∧ x.f2.length ≤ 8 := by
 unfold ruleB restB at h
 simp only [Bool.and_eq_true, decide_eq_true_eq] at h
 exact ⟨h.2.1, h.2.2.1⟩
def appB (who : ByteArray) (dn : List S151) (attr : ByteArray) (right : Int) (x : S108) : Bool :=
 (x.f0.toList == ([42] : List UInt8) || x.f0.toList == who.toList) && (underB dn x.f1 && (x.f3 == right && (decide ((x.f2.length : Int) = 0) || decide (attr ∈ x.f2))))
def allowR (p : S108 → Bool) : List S108 → Bool
 | [] => false
 | x :: l => if p x then x.f4 else allowR p l
theorem allowR_none {p : S108 → Bool} : ∀ {l : List S108}, (∀ x, x ∈ l → p x = false) → allowR p l = false
 | [], _ => rfl
 | x :: l, h => by
   unfold allowR
   rw [if_neg (by rw [h x (List.mem_cons_self ..)]; decide), allowR_none (fun y hy => h y (List.mem_cons_of_mem _ hy))]
theorem allowR_at {p : S108 → Bool} {a : S108} {r : List S108} (ha : p a = true) : ∀ {dn : List S108}, (∀ x, x ∈ dn → p x = false) → allowR p (dn ++ a :: r) = a.f4
 | [], _ => by simp [allowR, ha]
 | x :: l, h => by
   rw [List.cons_append]
   unfold allowR
   rw [if_neg (by rw [h x (List.mem_cons_self ..)]; decide), allowR_at ha (fun y hy => h y (List.mem_cons_of_mem _ hy))]
theorem enters_257 : ∀ args w, (callFunc 257 args).run Tryz.prog w = .ok (.enter 257 args) w := enters_of Tryz.func257 (by kernel_rfl) rfl
set_option maxHeartbeats 4000000 in
set_option maxRecDepth 100000 in
theorem allow_clo (b0 b1 b2 b3 : Nat) (who attr : ByteArray) (right : Int) (dn : List S151) (hdn : dnB dn = true) (A : Option Addr) (c : Nat) (hc : dn.length ≤ c) (x : S108) (hx : ruleB x = true) (cs : List Value) (W : World) (hK : Kd.K k108 W x cs)
   (h0 : W.cell? ⟨b0, 0, none⟩ = some (.string who)) (h1 : W.cell? ⟨b1, 0, none⟩ = some (.slice A dn.length c)) (h2 : W.cell? ⟨b2, 0, none⟩ = some (.int .i64 right)) (h3 : W.cell? ⟨b3, 0, none⟩ = some (.string attr)) (hD : Kd.C k151 W A dn.length dn) :
   Calls Tryz.prog 257 #[.agg cs.toArray, .pointer (some ⟨b0, 0, none⟩), .pointer (some ⟨b1, 0, none⟩), .pointer (some ⟨b2, 0, none⟩), .pointer (some ⟨b3, 0, none⟩)] W fun e w' => e = .returned (.bool (appB who dn attr right x)) ∧ Below W.heap.size W w' := by
 obtain ⟨A1, c1, A2, c2, rfl, l1, g1, l2, g2⟩ := k108_open hK
 have hu := impl_under hdn (rule_dn hx).1
 obtain ⟨k, hm⟩ := (impl_has x.f2 attr (by have := (rule_dn hx).2; omega)).rounds
 have HU := Aside0.mk (fun (V : World) (hb : Below W.heap.size W V) => impl_dnUnder.calls A c dn A1 c1 x.f1 _ V (Kd.C_below hD hb) hc (Kd.C_below g1 hb) l1 hu)
 have HM := Aside0.mk (fun (V : World) (hb : Below W.heap.size W V) => slices_Contains_string.calls k A2 c2 x.f2 attr _ V (Kd.C_below g2 hb) l2 hm)
 unfold appB
 generalize underB dn x.f1 = u at HU ⊢
 generalize decide (attr ∈ x.f2) = m at HM ⊢
 clear hK hu hm hD hdn hx hc g1 g2 l1 l2
 obtain ⟨W1, hW1⟩ : ∃ W1, W.alloc (.cells #[.string x.f0, .slice A1 x.f1.length c1, .slice A2 x.f2.length c2, .int .i64 x.f3, .bool x.f4] 108) = W1 := ⟨_, rfl⟩
 have hB1 : Below W.heap.size W W1 := by rw [← hW1]; exact below_alloc (Below.refl _ _) _
 have y0 : W1.cell? ⟨W.heap.size, 0, none⟩ = some (.string x.f0) := by rw [← hW1]; simp
 have y1 : W1.cell? ⟨W.heap.size, 1, none⟩ = some (.slice A1 x.f1.length c1) := by rw [← hW1]; simp
 have y2 : W1.cell? ⟨W.heap.size, 2, none⟩ = some (.slice A2 x.f2.length c2) := by rw [← hW1]; simp
 have y3 : W1.cell? ⟨W.heap.size, 3, none⟩ = some (.int .i64 x.f3) := by rw [← hW1]; simp
 have q0 := pw_cell_below hB1 h0
 have q1 := pw_cell_below hB1 h1
 have q2 := pw_cell_below hB1 h2
 have q3 := pw_cell_below hB1 h3
 have HB := Aside0.mk hB1
 clear hB1 h0 h1 h2 h3
 go_enter Tryz.func257, Tryz.ntmps257
 go_wp2_with (first | (go_at_call 258; go_loud (refine (HU.out _ HB.out).mono ?_; rintro e w2 ⟨rfl, hb2⟩; have z2 := pw_cell_below hb2 y2; have z3 := pw_cell_below hb2 y3; have r2 := pw_cell_below hb2 q2; have r3 := pw_cell_below hb2 q3; have HB2 := Aside0.mk (below_step HB.out hb2); clear hb2 HB; have HB := HB2; clear HB2)) | (go_at_call 202; go_loud (refine (HM.out _ HB.out).mono ?_; rintro e w3 ⟨rfl, hb3'⟩; have hb3 := hb3'.below; have HB3 := Aside0.mk (below_step HB.out hb3); clear hb3 hb3' HB; have HB := HB3; clear HB3)))
 all_goals (go_ret; refine ⟨congrArg Ending.returned (congrArg Value.bool ?_), HB.out⟩; simp [*])
def allowB (l : List S108) (who : ByteArray) (dn : List S151) (attr : ByteArray) (right : Int) : Bool := allowR (appB who dn attr right) l
theorem allowR_idx (p : S108 → Bool) (l : List S108) : (idx p l = -1 ∧ allowR p l = false) ∨ ∃ k : Nat, ∃ hk : k < l.length, idx p l = (k : Int) ∧ allowR p l = (l[k]'hk).f4 := by
 rcases idx_cases p l with ⟨h1, h2⟩ | ⟨k, hk, h1, h2, h3⟩
 · exact .inl ⟨h1, allowR_none h2⟩
 · refine .inr ⟨k, hk, h1, ?_⟩
   have e : l = l.take k ++ l[k] :: l.drop (k + 1) := by rw [← List.drop_eq_getElem_cons hk, List.take_append_drop]
   have h4 := allowR_at (r := l.drop (k + 1)) h2 (dn := l.take k) (fun x hx => by
     obtain ⟨j, hj, rfl⟩ := List.getElem_of_mem hx
     rw [List.length_take] at hj
     rw [List.getElem_take]
     exact h3 j (by omega) (by omega))
   rw [← e] at h4
   exact h4
set_option maxHeartbeats 4000000 in
set_option maxRecDepth 100000 in
theorem allowed_c (l : List S108) (hl : ∀ x, x ∈ l → ruleB x = true) (who attr : ByteArray) (right : Int) (dn : List S151) (hdn : dnB dn = true) (A0 : Option Addr) (c0 : Nat) (A : Option Addr) (c : Nat) (W : World)
   (hr : Kd.C k108 W A0 l.length l) (hc0 : l.length ≤ c0) (hD : Kd.C k151 W A dn.length dn) (hc : dn.length ≤ c) :
   Calls Tryz.prog 171 #[.slice A0 l.length c0, .string who, .slice A dn.length c, .string attr, .int .i64 right] W (RetB (allowB l who dn attr right) W) := by
 have hmx := Kd.C_max hr
 obtain ⟨W1, hW1⟩ : ∃ W1, (((W.alloc (.cells #[.string who] 9)).alloc (.cells #[.slice A dn.length c] 41)).alloc (.cells #[.string attr] 9)).alloc (.cells #[.int .i64 right] 2) = W1 := ⟨_, rfl⟩
 have hB1 : Below W.heap.size W W1 := by rw [← hW1]; exact below_alloc (below_alloc (below_alloc (below_alloc (Below.refl _ _) _) _) _) _
 have new : ∀ (V : World) (v : Value) (t : TypeId), (V.alloc (.cells #[v] t)).cell? ⟨V.heap.size, 0, none⟩ = some v := fun V v t => by simp
 have up : ∀ (V : World) (o : Obj) (a : Addr) (v : Value), V.cell? a = some v → (V.alloc o).cell? a = some v := fun V o a v h => pw_cell_below (below_alloc (Below.refl _ _) _) h
 have y0 : W1.cell? ⟨W.heap.size, 0, none⟩ = some (.string who) := by rw [← hW1]; exact up _ _ _ _ (up _ _ _ _ (up _ _ _ _ (new _ _ _)))
 have y1 : W1.cell? ⟨W.heap.size + 1, 0, none⟩ = some (.slice A dn.length c) := by rw [← hW1]; have := new (W.alloc (.cells #[.string who] 9)) (.slice A dn.length c) 41; rw [World.size_alloc] at this; exact up _ _ _ _ (up _ _ _ _ this)
 have y2 : W1.cell? ⟨W.heap.size + 2, 0, none⟩ = some (.string attr) := by rw [← hW1]; have := new ((W.alloc (.cells #[.string who] 9)).alloc (.cells #[.slice A dn.length c] 41)) (.string attr) 9; rw [World.size_alloc, World.size_alloc] at this; exact up _ _ _ _ this
 have y3 : W1.cell? ⟨W.heap.size + 3, 0, none⟩ = some (.int .i64 right) := by rw [← hW1]; have := new (((W.alloc (.cells #[.string who] 9)).alloc (.cells #[.slice A dn.length c] 41)).alloc (.cells #[.string attr] 9)) (.int .i64 right) 2; rw [World.size_alloc, World.size_alloc, World.size_alloc] at this; exact this
 clear new up
 have HC := Aside0.mk (slices_IndexFunc_Rule.any_in l 257 #[.pointer (some ⟨W.heap.size, 0, none⟩), .pointer (some ⟨W.heap.size + 1, 0, none⟩), .pointer (some ⟨W.heap.size + 3, 0, none⟩), .pointer (some ⟨W.heap.size + 2, 0, none⟩)]
   (fun V => V.cell? ⟨W.heap.size, 0, none⟩ = some (.string who) ∧ V.cell? ⟨W.heap.size + 1, 0, none⟩ = some (.slice A dn.length c) ∧ V.cell? ⟨W.heap.size + 3, 0, none⟩ = some (.int .i64 right) ∧ V.cell? ⟨W.heap.size + 2, 0, none⟩ = some (.string attr) ∧ Kd.C k151 V A dn.length dn)
   (appB who dn attr right) (fun V V' hb h => ⟨pw_cell_below hb h.1, pw_cell_below hb h.2.1, pw_cell_below hb h.2.2.1, pw_cell_below hb h.2.2.2.1, Kd.C_below h.2.2.2.2 hb⟩)
   (fun V x cs hx h hK => allow_clo _ _ _ _ who attr right dn hdn A c hc x (hl x hx) cs V hK h.1 h.2.1 h.2.2.1 h.2.2.2.1 h.2.2.2.2)
   enters_257 A0 c0 W1 (Kd.C_below hr hB1) ⟨y0, y1, y3, y2, Kd.C_below hD hB1⟩)
 unfold RetB allowB
 have HB := Aside0.mk hB1
 clear y0 y1 y2 y3 hB1
 rcases allowR_idx (appB who dn attr right) l with ⟨h1, h2⟩ | ⟨k, hk, h1, h2⟩
 · rw [h2]
   rw [h1] at HC
   clear h1 h2 hr hD hl
   go_enter Tryz.func171, Tryz.ntmps171
   go_wp2_with (go_at_call 242; go_loud (refine HC.out.mono ?_; rintro e w2 ⟨rfl, hb2⟩; have HB2 := Aside0.mk (below_step HB.out hb2); clear hb2))
   go_ret
   exact ⟨rfl, HB2.out⟩
 · rw [h2]
   rw [h1] at HC
   obtain ⟨ad, A1, c1, A2, c2, rfl, -, -, -, -, f4, -, -, -⟩ := at_T108 hr (k : Int) (by omega) (by omega)
   have hrd : rd_T108 l (k : Int) = l[k]'hk := by
     unfold rd_T108
     rw [Int.toNat_natCast, getD_at hk]
   rw [hrd, Int.toNat_natCast] at f4
   have HF := Aside0.mk (fun (V : World) (hb : Below W.heap.size W V) => pw_cell_below hb f4)
   generalize (l[k]'hk).f4 = b at HF ⊢
   clear h1 h2 hr hD hl f4 hrd
   go_enter Tryz.func171, Tryz.ntmps171
   go_wp2_with (go_at_call 242; go_loud (refine HC.out.mono ?_; rintro e w2 ⟨rfl, hb2⟩; have g4 := HF.out _ (below_step HB.out hb2); have HB2 := Aside0.mk (below_step HB.out hb2); clear hb2))
   go_ret
   exact ⟨by simp, HB2.out⟩
end Go.Proofs.YtmkpgddfoaglpaaGreatDoor.PG
