/-
 The program's Visible, walked by hand, and the reference's: both come to visV. Conditions: the lengths' bounds.
-/
import Derived.Test.YtmkpgddfoaglpaaGreatDoorVIViewO
import Derived.Test.YtmkpgddfoaglpaaGreatDoorVIFits
import Derived.Test.YtmkpgddfoaglpaaGreatDoorVIEntX
import Derived.Test.YtmkpgddfoaglpaaGreatDoorVIHasMem
import Derived.Test.YtmkpgddfoaglpaaGreatDoorVIP3
import Derived.Test.YtmkpgddfoaglpaaGreatDoorVIP6
import Derived.Test.YtmkpgddfoaglpaaGreatDoorVIP4
namespace Go.Proofs.YtmkpgddfoaglpaaGreatDoor.PG
set_option linter.unusedVariables false
set_option linter.unusedSimpArgs false
open Go.RowKit Go.Proofs.YtmkpgddfoaglpaaGreatDoorW.PrintWords Go.Proofs.YtmkpgddfoaglpaaGreatDoorW.PrintLast Go.Proofs.YtmkpgddfoaglpaaGreatDoorW.PrintMore Go.Proofs.YtmkpgddfoaglpaaGreatDoor.Gn Go.Proofs.YtmkpgddfoaglpaaGreatDoor.Sem Go.Proofs.YtmkpgddfoaglpaaGreatDoor
attribute [local go_sem] max2_int min2_int max_two min_two max_three min_three max_four min_four World.cell?_drew World.frozen?_drew
theorem S_emptyV {α : Type} (d : Kd α) (e : Nat) (W : World) : Kd.S d e (W.alloc (.cells #[] e)) W.heap.size (fun _ => True) (.slice (some ⟨W.heap.size, 0, none⟩) 0 0) ([] : List α) := ⟨fun _ => 0, R_empty (Kd.tag (fun _ => 0) d) e W⟩
theorem at_entV {w : World} {A : Option Addr} {n : Nat} {dn r : List S44} {a : S44} (h : Kd.C k44 w A n (dn ++ a :: r)) (hn : dn.length < n) : ∃ ad A0 c0 A1 c1, A = some ad ∧ w.cell? (ad.add (dn.length * 2)) = some (.slice A0 a.f0.length c0) ∧ w.cell? ⟨(ad.add (dn.length * 2)).block, (ad.add (dn.length * 2)).off + 1, none⟩ = some (.slice A1 a.f1.length c1) ∧ a.f0.length ≤ c0 ∧ Kd.C k151 w A0 a.f0.length a.f0 ∧ a.f1.length ≤ c1 ∧ Kd.C k201 w A1 a.f1.length a.f1 := by
 obtain ⟨ad, A1, c1, A2, c2, rfl, hx0, hx1, hl0, hi0, hl1, hi1⟩ := at_T44 h ((dn.length : Nat) : Int) (Int.natCast_nonneg _) (by omega)
 have hrd : rd_T44 (dn ++ a :: r) ((dn.length : Nat) : Int) = a := by
   unfold rd_T44
   rw [Int.toNat_natCast]
   simp
 rw [hrd] at hx0 hx1 hl0 hi0 hl1 hi1
 rw [Int.toNat_natCast] at hx0 hx1
 exact ⟨ad, A1, c1, A2, c2, rfl, hx0, hx1, hl0, hi0, hl1, hi1⟩
def visL (l : List S108) (who : ByteArray) : List S44 → List S44
 | [] => []
 | e :: r => if (viewV l who e.f0 e.f1).2.2 = true then ⟨(viewV l who e.f0 e.f1).1, (viewV l who e.f0 e.f1).2.1⟩ :: visL l who r else visL l who r
theorem visL_nil (l : List S108) (who : ByteArray) : visL l who [] = [] := rfl
theorem visL_yes {l : List S108} {who : ByteArray} {e : S44} {r : List S44} (h : (viewV l who e.f0 e.f1).2.2 = true) : visL l who (e :: r) = ⟨(viewV l who e.f0 e.f1).1, (viewV l who e.f0 e.f1).2.1⟩ :: visL l who r := if_pos h
theorem visL_no {l : List S108} {who : ByteArray} {e : S44} {r : List S44} (h : ¬ (viewV l who e.f0 e.f1).2.2 = true) : visL l who (e :: r) = visL l who r := if_neg h
theorem visL_len (l : List S108) (who : ByteArray) : ∀ es : List S44, (visL l who es).length ≤ es.length
 | [] => Nat.le_refl _
 | e :: r => by
   have := visL_len l who r
   by_cases h : (viewV l who e.f0 e.f1).2.2 = true
   · rw [visL_yes h]; simp only [List.length_cons]; omega
   · rw [visL_no h]; simp only [List.length_cons]; omega
def VisOf (o e : S44) : Prop := (o.f0 = e.f0 ∨ o.f0 = []) ∧ o.f1.length ≤ e.f1.length ∧ ∀ a, a ∈ o.f1 → a ∈ e.f1
theorem viewV_sub (l : List S108) (who : ByteArray) (e : S44) : VisOf ⟨(viewV l who e.f0 e.f1).1, (viewV l who e.f0 e.f1).2.1⟩ e := by
 unfold viewV VisOf
 split
 · exact ⟨.inl rfl, List.length_filter_le _ _, fun a ha => (List.mem_filter.1 ha).1⟩
 · exact ⟨.inr rfl, Nat.zero_le _, fun a ha => by cases ha⟩
theorem visL_mem (l : List S108) (who : ByteArray) : ∀ (es : List S44) {o : S44}, o ∈ visL l who es → ∃ e, e ∈ es ∧ VisOf o e
 | [], _, h => by cases h
 | e :: r, o, h => by
   by_cases hq : (viewV l who e.f0 e.f1).2.2 = true
   · rw [visL_yes hq] at h
     rcases List.mem_cons.1 h with rfl | h
     · exact ⟨e, List.mem_cons_self .., viewV_sub l who e⟩
     · obtain ⟨x, hx, hv⟩ := visL_mem l who r h
       exact ⟨x, List.mem_cons_of_mem _ hx, hv⟩
   · rw [visL_no hq] at h
     obtain ⟨x, hx, hv⟩ := visL_mem l who r h
     exact ⟨x, List.mem_cons_of_mem _ hx, hv⟩
def entOk (e : S44) : Bool := entryB e.f0 e.f1
def visV (l : List S108) (who : ByteArray) (es : List S44) : List S44 := if (es.length : Int) > 400 then [] else if (aclB l && (nameB who && es.all entOk)) = true then visL l who es else []
theorem enters_76 : ∀ args w, (callFunc 76 args).run Tryz.prog w = .ok (.enter 76 args) w := enters_of Tryz.func76 (by kernel_rfl) rfl
set_option maxHeartbeats 1000000 in
theorem visible_clo (x : S44) (cs : List Value) (W : World) (hK : Kd.K k44 W x cs) :
   Calls Tryz.prog 76 #[.agg cs.toArray] W fun e w' => e = .returned (.bool (!entOk x)) ∧ Below W.heap.size W w' := by
 obtain ⟨A0, c0, A1, c1, rfl, l0, h0, l1, h1⟩ := k44_open hK
 obtain ⟨k, hk⟩ := (impl_entry x.f0 x.f1).rounds
 have HK := Aside0.mk hk
 have hb := (Below.refl W.heap.size W).alloc (Nat.le_refl _) (.cells #[.slice A0 x.f0.length c0, .slice A1 x.f1.length c1] 44)
 have H0 := Aside0.mk (Kd.C_below h0 hb)
 have H1 := Aside0.mk (Kd.C_below h1 hb)
 have L0 := Aside0.mk l0
 have L1 := Aside0.mk l1
 show Calls Tryz.prog 76 _ W fun e w' => e = .returned (.bool (!entryB x.f0 x.f1)) ∧ Below W.heap.size W w'
 generalize entryB x.f0 x.f1 = b at HK
 clear hk h0 h1 l0 l1 hb hK
 go_enter Tryz.func76, Tryz.ntmps76
 go_wp2_with (go_at_call 77; refine (impl_EntryRight.calls k A0 c0 x.f0 A1 c1 x.f1 b _ H0.out L0.out H1.out L1.out HK.out).mono ?_; rintro e w' ⟨rfl, hb'⟩)
 go_ret
 exact ⟨rfl, below_then ((Below.refl _ W).alloc (Nat.le_refl _) _) (by simp) hb'⟩
set_option maxHeartbeats 8000000 in
set_option maxRecDepth 100000 in
theorem visible_c (l : List S108) (who : ByteArray) (es : List S44) (hok : ∀ e, e ∈ es → okEnt e.f0 e.f1) (A0 : Option Addr) (c0 : Nat) (A : Option Addr) (c : Nat) (W : World) (hr : Kd.C k108 W A0 l.length l) (hc0 : l.length ≤ c0) (hC : Kd.C k44 W A es.length es) (hc : es.length ≤ c) :
   Calls Tryz.prog 17 #[.slice A0 l.length c0, .string who, .slice A es.length c] W (RetEs (visV l who es) W) := by
 have HM := Aside0.mk (fun (V : World) (hb : Below W.heap.size W V) => impl_isMany_Entry.calls A c es _ V (Kd.C_below hC hb) hc rfl)
 have HA := Aside0.mk (fun (V : World) (hb : Below W.heap.size W V) => impl_AclRight.calls A0 c0 l _ V (Kd.C_below hr hb) hc0 rfl)
 have HN := Aside0.mk (fun (V : World) (hb : Below W.heap.size W V) => impl_NameRight.calls who _ V (impl_name who))
 have HE := Aside0.mk (fun (V : World) (hb : Below W.heap.size W V) => slices_ContainsFunc_Entry.any_ 76 #[] (fun _ => True) (fun x => !entOk x) (fun _ _ _ h => h) (fun W x cs _ hK => visible_clo x cs W hK) enters_76 A c es V (Kd.C_below hC hb) trivial)
 have hall : es.all entOk = !(es.any fun x => !entOk x) := by rw [List.all_eq_not_any_not]
 have hB := Below.refl W.heap.size W
 have HB := Aside0.mk hB
 have bad : ∀ (P : Prop) [Decidable P], ¬ P → True := fun _ _ _ => trivial
 clear bad hB
 unfold visV
 rw [hall]
 by_cases hlong : (es.length : Int) > 400
 · rw [if_pos hlong]
   have hd : decide ((es.length : Int) > 400) = true := decide_eq_true hlong
   clear hr hC hall
   go_enter Tryz.func17, Tryz.ntmps17
   go_wp2_with (go_at_call 72; refine (HM.out _ HB.out).mono ?_; rintro e w1 ⟨rfl, hb1⟩; have hb1 := hb1.below)
   go_ret
   exact ⟨none, 0, rfl, Kd.S_nil _ _ _ _ _, hb1⟩
 rw [if_neg hlong]
 have hd : decide ((es.length : Int) > 400) = false := decide_eq_false hlong
 rcases (Bool.eq_false_or_eq_true (aclB l)).symm with ha | ha
 · rw [ha] at HA ⊢
   rw [if_neg (by simp)]
   clear hr hC hok hall hlong
   go_enter Tryz.func17, Tryz.ntmps17
   go_wp2_with (first | (go_at_call 72; refine (HM.out _ HB.out).mono ?_; rintro e w1 ⟨rfl, hb1'⟩; have hb1 := Aside0.mk hb1'.below; clear hb1') | (go_at_call 73; refine (HA.out _ hb1.out).mono ?_; rintro e w2 ⟨rfl, hb2'⟩; have hb2 := Aside0.mk (below_step hb1.out hb2'); clear hb2'))
   go_ret
   exact ⟨none, 0, rfl, Kd.S_nil _ _ _ _ _, hb2.out⟩
 rcases (Bool.eq_false_or_eq_true (nameB who)).symm with hn | hn
 · rw [hn] at HN ⊢
   rw [ha] at HA ⊢
   rw [if_neg (by simp)]
   clear hr hC hok hall hlong
   go_enter Tryz.func17, Tryz.ntmps17
   go_wp2_with (first | (go_at_call 72; refine (HM.out _ HB.out).mono ?_; rintro e w1 ⟨rfl, hb1'⟩; have hb1 := Aside0.mk hb1'.below; clear hb1') | (go_at_call 73; refine (HA.out _ hb1.out).mono ?_; rintro e w2 ⟨rfl, hb2'⟩; have hb2 := Aside0.mk (below_step hb1.out hb2'); clear hb2') | (go_at_call 74; refine (HN.out _ hb2.out).mono ?_; rintro e w3 ⟨rfl, hb3'⟩; have hb3 := Aside0.mk (below_step hb2.out hb3'); clear hb3'))
   go_ret
   exact ⟨none, 0, rfl, Kd.S_nil _ _ _ _ _, hb3.out⟩
 rcases Bool.eq_false_or_eq_true (es.any fun x => !entOk x) with hq | hq
 · rw [hq] at HE ⊢
   rw [ha] at HA ⊢
   rw [hn] at HN ⊢
   rw [if_neg (by simp)]
   clear hr hC hok hall hlong
   go_enter Tryz.func17, Tryz.ntmps17
   go_wp2_with (first | (go_at_call 72; refine (HM.out _ HB.out).mono ?_; rintro e w1 ⟨rfl, hb1'⟩; have hb1 := Aside0.mk hb1'.below; clear hb1') | (go_at_call 73; refine (HA.out _ hb1.out).mono ?_; rintro e w2 ⟨rfl, hb2'⟩; have hb2 := Aside0.mk (below_step hb1.out hb2'); clear hb2') | (go_at_call 74; refine (HN.out _ hb2.out).mono ?_; rintro e w3 ⟨rfl, hb3'⟩; have hb3 := Aside0.mk (below_step hb2.out hb3'); clear hb3') | (go_at_call 75; refine (HE.out _ hb3.out).mono ?_; rintro e w4 ⟨rfl, hb4'⟩; have hb4 := Aside0.mk (below_step hb3.out hb4'); clear hb4'))
   go_ret
   exact ⟨none, 0, rfl, Kd.S_nil _ _ _ _ _, hb4.out⟩
 rw [hq] at HE hall ⊢
 rw [if_pos (by rw [ha, hn]; rfl)]
 have hvo : ∀ e, e ∈ es → viewOk l e.f0 e.f1 = true := fun e he => viewOk_of ha (List.all_eq_true.1 hall e he) (hok e he)
 have hlim : es.length ≤ 400 := by omega
 have HR0 := Aside0.mk hC
 have HRL := Aside0.mk hr
 have HC0 := Aside0.mk hc
 have HCL := Aside0.mk hc0
 have HLEN := Aside0.mk hlim
 have HVO := Aside0.mk hvo
 rw [ha] at HA
 rw [hn] at HN
 clear hC hc hr hc0 hlong hall hok hlim hvo ha hn hq
 go_enter Tryz.func17, Tryz.ntmps17
 go_wp2_with (first | (go_at_call 72; refine (HM.out _ HB.out).mono ?_; rintro e w1 ⟨rfl, hb1'⟩; have hb1 := Aside0.mk hb1'.below; clear hb1') | (go_at_call 73; refine (HA.out _ hb1.out).mono ?_; rintro e w2 ⟨rfl, hb2'⟩; have hb2 := Aside0.mk (below_step hb1.out hb2'); clear hb2') | (go_at_call 74; refine (HN.out _ hb2.out).mono ?_; rintro e w3 ⟨rfl, hb3'⟩; have hb3 := Aside0.mk (below_step hb2.out hb3'); clear hb3') | (go_at_call 75; refine (HE.out _ hb3.out).mono ?_; rintro e w4 ⟨rfl, hb4'⟩; have hb4 := Aside0.mk (below_step hb3.out hb4'); clear hb4'))
 go_loopw [7, 31] (fun s7 s31 wr => ∃ (dn rs acc : List S44), s31 = .int .i64 dn.length ∧ Aside0 (dn ++ rs = es) ∧ Aside0 (acc ++ visL l who rs = visL l who es) ∧ Aside0 (acc.length ≤ dn.length) ∧ Aside0 (Kd.S mEnt 44 wr W.heap.size (fun _ => True) s7 acc) ∧ Aside0 (Below W.heap.size W wr)) (fun _ s31 _ => es.length - (intOf s31).toNat)
 case atStart => exact ⟨[], es, [], rfl, ⟨rfl⟩, ⟨rfl⟩, ⟨Nat.le_refl _⟩, ⟨Kd.S_lower (S_emptyV mEnt 44 w4) hb4.out.size⟩, ⟨below_alloc hb4.out _⟩⟩
 case round =>
   obtain ⟨dn, rs, acc, rfl, HX, HA2, HAL, HSR, HBR⟩ := hrel
   cases rs with
   | nil =>
     have hx := HX.out
     rw [List.append_nil] at hx
     have ha := HA2.out
     rw [visL_nil, List.append_nil] at ha
     have hlt : ¬ dn.length < es.length := by rw [hx]; exact Nat.lt_irrefl _
     obtain ⟨A3, c3, rfl⟩ := Kd.S_slice HSR.out
     have HAE := Aside0.mk ha
     clear hx ha
     go_wp2
     go_ret
     rw [← HAE.out]
     exact ⟨A3, c3, rfl, HSR.out, HBR.out⟩
   | cons a r =>
     have hx := HX.out
     have hlx : es.length = dn.length + (r.length + 1) := by rw [← hx]; simp
     have hlt : dn.length < es.length := by omega
     have hC2 := Kd.C_below HR0.out HBR.out
     rw [← hx] at hC2
     obtain ⟨ad, A1, c1, A2, c2, rfl, hx0, hx1, hl0, hi0, hl1, hi1⟩ := at_entV hC2 (by simp)
     have hva : impl_view.f l who a.f0 a.f1 = some (viewV l who a.f0 a.f1) := if_pos (HVO.out a (by rw [← hx]; simp))
     obtain ⟨A3, c3, rfl⟩ := Kd.S_slice HSR.out
     obtain ⟨w5, hw5⟩ : ∃ w5, wr.alloc (.cells #[.slice A1 a.f0.length c1, .slice A2 a.f1.length c2] 44) = w5 := ⟨_, rfl⟩
     have hb5 : Below wr.heap.size wr w5 := by rw [← hw5]; exact below_alloc (Below.refl _ _) _
     have hn5 : w5.heap[wr.heap.size]? = some (.cells #[.slice A1 a.f0.length c1, .slice A2 a.f1.length c2] 44 (0, 0)) := by rw [← hw5]; exact heap_alloc_new wr _
     have q0 := blk_cell hn5 0
     have q1 := blk_cell hn5 1
     have HWI := Aside0.mk (show wrap64 ((dn.length : Int) + 1) = (dn.length : Int) + 1 from wsucc (by omega) (by have := HLEN.out; omega))
     have HX2 := Aside0.mk hx
     have HLX := Aside0.mk hlx
     have HB5 := Aside0.mk hb5
     obtain ⟨⟨o0, o1, ob⟩, ho⟩ : ∃ o, viewV l who a.f0 a.f1 = o := ⟨_, rfl⟩
     rw [ho] at hva
     have HCALL := Aside0.mk (impl_view.calls A0 c0 l who A1 c1 a.f0 A2 c2 a.f1 o0 o1 ob w5 (Kd.C_below (Kd.C_below HRL.out HBR.out) hb5) HCL.out (Kd.C_below hi0 hb5) hl0 (Kd.C_below hi1 hb5) hl1 hva)
     have HO := Aside0.mk ho
     clear hx hlx hC2 hl0 hi0 hl1 hi1 hva hb5 hn5 ho
     cases ob with
     | false =>
       have hno : visL l who (a :: r) = visL l who r := visL_no (by rw [HO.out]; exact Bool.false_ne_true)
       have HNO := Aside0.mk hno
       clear hno
       go_wp2_with (first | (go_at_call 78; refine HCALL.out.mono ?_; rintro e w6 ⟨v6, u6, rfl, hR6, hS6, hb6⟩; obtain ⟨A6, c6, rfl⟩ := Kd.R_slice hR6; obtain ⟨B6, b6, rfl⟩ := Kd.S_slice hS6; have HB56 := Aside0.mk hb6; clear hR6 hS6 hb6))
       refine ⟨⟨dn ++ [a], r, acc, ?_, ⟨?_⟩, ⟨?_⟩, ⟨?_⟩, ⟨Kd.S_mono (Kd.S_below HSR.out (below_alloc (below_step HB5.out HB56.out) _)) (fun _ h => h)⟩, ⟨below_step HBR.out (below_alloc (below_step HB5.out HB56.out) _)⟩⟩, ?_⟩
       · try rw [HWI.out]
         simp
       · rw [List.append_assoc]
         exact HX2.out
       · have := HA2.out
         rw [HNO.out] at this
         exact this
       · have := HAL.out
         simp only [List.length_append, List.length_cons, List.length_nil]
         omega
       · have := HLX.out
         try rw [HWI.out]
         simp [intOf]
         omega
     | true =>
       have hyes : visL l who (a :: r) = ⟨o0, o1⟩ :: visL l who r := by rw [visL_yes (by rw [HO.out]), HO.out]
       have HYES := Aside0.mk hyes
       clear hyes
       go_wp2_with (first | (go_at_call 78; refine HCALL.out.mono ?_; rintro e w6 ⟨v6, u6, rfl, hR6, hS6, hb6⟩; obtain ⟨A6, c6, rfl⟩ := Kd.R_slice hR6; obtain ⟨B6, b6, rfl⟩ := Kd.S_slice hS6; have HM6 := Aside0.mk (ent_made (base := W.heap.size) hR6 hS6 (Nat.le_trans HBR.out.size HB5.out.size)); have HB56 := Aside0.mk hb6; clear hR6 hS6 hb6) | ((with_reducible refine gate_builtin (b := .append) (xs := #[.tmp 43, .tmp 45]) rfl ?_); at_builtin; go_loud (refine Kd.S_append mEnt (w0 := W) W.heap.size rfl (.tmp 43) (.tmp 45) 26 44 (.agg #[(.slice none 0 0), (.slice none 0 0)]) 48 rfl Tryz.underlying26 info44 rfl (by decide) (by omega) _ acc ⟨o0, o1⟩ [.slice A6 o0.length c6, .slice B6 o1.length b6] (fun _ => True) (fun k => w5.heap.size ≤ k ∧ k < w6.heap.size) rfl ?aX (EM_keep HM6.out (below_alloc (Below.refl _ w6) _)) ?aO (fun _ _ => trivial) ?aR ?aB ?aS ?aL ?_; (case aX => show Value.slice (some ⟨w6.heap.size + 1, 0, none⟩) 1 1 = _; simp); (case aO => exact fun k hk => ⟨trivial, fun he => by have h1_ := Kd.S_lt HSR.out k he.symm; have h2_ := HB5.out.size; omega⟩); (case aR => exact Kd.S_mono (Kd.S_old HSR.out (below_alloc (below_step HB5.out HB56.out) _)) (fun k hk => ⟨trivial, fun h => by have h2_ := HB5.out.size; have h3_ := hk.2; omega⟩)); (case aB => exact below_step HBR.out (below_alloc (below_step HB5.out HB56.out) _)); (case aS => exact (below_step HBR.out (below_alloc (below_step HB5.out HB56.out) _)).size); (case aL => have h1_ := HLX.out; have h2_ := HLEN.out; have h3_ := HAL.out; omega); intro v7 w7 hS7 hb7 hg7 hx7; have HS7 := Aside0.mk hS7; have HB7 := Aside0.mk hb7; clear hS7 hb7 hg7 hx7)))
       refine ⟨⟨dn ++ [a], r, acc ++ [⟨o0, o1⟩], ?_, ⟨?_⟩, ⟨?_⟩, ⟨?_⟩, HS7, HB7⟩, ?_⟩
       · try rw [HWI.out]
         simp
       · rw [List.append_assoc]
         exact HX2.out
       · have := HA2.out
         rw [HYES.out] at this
         rw [List.append_assoc, List.singleton_append]
         exact this
       · have := HAL.out
         simp only [List.length_append, List.length_cons, List.length_nil]
         omega
       · have := HLX.out
         try rw [HWI.out]
         simp [intOf]
         omega
end Go.Proofs.YtmkpgddfoaglpaaGreatDoor.PG
