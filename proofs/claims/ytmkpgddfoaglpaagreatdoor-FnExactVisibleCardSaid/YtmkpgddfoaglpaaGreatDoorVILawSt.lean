/-
 What a law's walk keeps from step to step: two boxes and a result that is the law's own. No condition.
-/
import Derived.Test.YtmkpgddfoaglpaaGreatDoorVIEntX
import Derived.Test.YtmkpgddfoaglpaaGreatDoorVIKey
import Derived.Test.YtmkpgddfoaglpaaGreatDoorVIP3
namespace Go.Proofs.YtmkpgddfoaglpaaGreatDoor.PG
open Go.RowKit Go.Proofs.YtmkpgddfoaglpaaGreatDoorW.PrintWords Go.Proofs.YtmkpgddfoaglpaaGreatDoorW.PrintLast Go.Proofs.YtmkpgddfoaglpaaGreatDoorW.PrintMore Go.Proofs.YtmkpgddfoaglpaaGreatDoor.Gn Go.Proofs.YtmkpgddfoaglpaaGreatDoor
set_option linter.unusedVariables false
set_option linter.unusedSimpArgs false
structure LSt (Vb : World) (p10 : Nat) (t10 : TypeId) (z10 : Array Value) (p11 : Nat) (t11 : TypeId) (z11 : Array Value) (ok : Nat → Prop) (y : S44) (A : Option Addr) (n c : Nat) (B : Option Addr) (m b : Nat) (V : World) : Prop where
 hb : Below Vb.heap.size Vb V
 k10 : V.heap[p10]? = some (.cells z10 t10 (0, 0))
 k11 : V.heap[p11]? = some (.cells z11 t11 (0, 0))
 em : EM V Vb.heap.size ok y A n c B m b
section
variable {Vb : World} {p10 : Nat} {t10 : TypeId} {z10 : Array Value} {p11 : Nat} {t11 : TypeId} {z11 : Array Value} {ok : Nat → Prop} {y : S44} {A : Option Addr} {n c : Nat} {B : Option Addr} {m b : Nat} {V V' : World}
end
abbrev okV (lo hi : Nat) : Nat → Prop := fun k => lo ≤ k ∧ k < hi
theorem S_rangeV {α : Type} {d : Kd α} {e : Nat} {V V' : World} {B : Nat} {v : Value} {xs : List α} (h : Kd.S d e V' V.heap.size (fun _ => True) v xs) (hle : B ≤ V.heap.size) : Kd.S d e V' B (okV V.heap.size V'.heap.size) v xs := Kd.S_lower (Kd.S_mono (Kd.S_bound h) (fun k hk => ⟨hk.2.1, hk.2.2.1⟩)) hle
theorem S_CV {α : Type} {d : Kd α} {e : Nat} {V : World} {base : Nat} {ok : Nat → Prop} {A : Option Addr} {n c : Nat} {xs : List α} (h : Kd.S d e V base ok (.slice A n c) xs) : n ≤ c ∧ d.C V A n xs := by
 obtain ⟨h0, h1, h2⟩ := Kd.S_reads' h
 exact ⟨h1, by rw [h0]; exact h2⟩
theorem nAs_leV (m : Nat) : ∀ l : List S201, (∀ a, a ∈ l → a.f1.length ≤ m) → nAs l ≤ l.length * (m + 1)
 | [], _ => Nat.zero_le _
 | a :: r, h => by
   have h1 := nAs_leV m r (fun b hb => h b (List.mem_cons_of_mem _ hb))
   have h2 := h a List.mem_cons_self
   unfold nAs n_Attr
   rw [List.length_cons, Nat.succ_mul]
   omega
end Go.Proofs.YtmkpgddfoaglpaaGreatDoor.PG
/-
 A DN's key: the program's dnKey and the reference's l02Key both come to keyB. Conditions: the sizes of names and norms, the length.
-/
namespace Go.Proofs.YtmkpgddfoaglpaaGreatDoor.PG
open Go.RowKit Go.Shelf Go.Proofs.YtmkpgddfoaglpaaGreatDoorW.PrintWords Go.Proofs.YtmkpgddfoaglpaaGreatDoorW.PrintLast Go.Proofs.YtmkpgddfoaglpaaGreatDoorW.PrintMore Go.Proofs.YtmkpgddfoaglpaaGreatDoor.Gn Go.Proofs.YtmkpgddfoaglpaaGreatDoor.Sem
set_option linter.unusedVariables false
set_option linter.unusedSimpArgs false
def keyB (l : List S151) : ByteArray := l.reverse.foldl (fun s x => s ++ partB x) ⟨#[]⟩
def keyOk (l : List S151) : Bool := decide (l.length ≤ 1000000) && l.all fun x => decide (x.f0.size ≤ 1000)
theorem name_size {s : ByteArray} (h : nameB s = true) : s.size ≤ 20 := by
 unfold nameB at h
 simp only [Bool.and_eq_true, decide_eq_true_eq] at h
 exact h.2.1
theorem keyOk_dn {l : List S151} (h : dnB l = true) : keyOk l = true := by
 unfold dnB at h
 simp only [Bool.and_eq_true, decide_eq_true_eq, List.all_eq_true] at h
 unfold keyOk
 simp only [Bool.and_eq_true, decide_eq_true_eq, List.all_eq_true]
 refine ⟨by omega, fun x hx => ?_⟩
 have := h.2 x hx
 unfold rdnB at this
 have := name_size (Bool.and_eq_true _ _ ▸ this : nameB x.f0 = true ∧ _).1
 omega
theorem keyOk_drop {l : List S151} (h : keyOk l = true) (n : Nat) : keyOk (l.drop n) = true := by
 unfold keyOk at h ⊢
 simp only [Bool.and_eq_true, decide_eq_true_eq, List.all_eq_true] at h ⊢
 exact ⟨by rw [List.length_drop]; omega, fun x hx => h.2 x (List.mem_of_mem_drop hx)⟩
theorem keyW_back (rs : List RdnB) (zr : RdnB) : keyW (upto (backAt rs zr) rs.length) = keyB (rs.map Subtype.val) := by
 have e : (upto (backAt rs zr) rs.length).map (fun x => x.2.1) = (rs.map Subtype.val).reverse := by
   apply List.ext_getElem
   · simp [upto]
   · intro j h1 h2
     have hj : j < rs.length := by simpa [upto] using h1
     have h3 : rs.length - 1 - j < rs.length := by omega
     simp only [upto, backAt, List.map_map, List.getElem_map, List.getElem_range, Function.comp_apply, List.getElem_reverse, List.length_map]
     rw [getD_at h3]
 unfold keyW keyB
 rw [← e, List.foldl_map]
def impl_dnKey.f (l0 : List S151) : Option ByteArray := if keyOk l0 = true then some (keyB l0) else none
theorem impl_dnKey.calls (A0 : Option Addr) (c0 : Nat) (l0 : List S151) (r : ByteArray) (w : World) (hr0 : Kd.C k151 w A0 l0.length l0) (hc0 : l0.length ≤ c0) (h : impl_dnKey.f l0 = some r) :
   Calls Tryz.prog 321 #[.slice A0 l0.length c0] w fun e w' => e = .returned (.string r) ∧ Below w.heap.size w w' := by
 unfold impl_dnKey.f at h
 split at h
 · rename_i hk
   obtain rfl := Option.some.inj h
   unfold keyOk at hk
   simp only [Bool.and_eq_true, decide_eq_true_eq, List.all_eq_true] at hk
   obtain ⟨rs, rfl⟩ : ∃ rs : List RdnB, rs.map Subtype.val = l0 := ⟨l0.attach.map (fun x => ⟨x.1, hk.2 x.1 x.2, by have := normB_size x.1.f1; omega⟩), by rw [List.map_map]; exact List.attach_map_subtype_val l0⟩
   have zr : RdnB := ⟨z151, by decide, by have := normB_size (z151).f1; omega⟩
   rw [← keyW_back rs zr]
   rw [List.length_map] at hr0 hk ⊢
   refine (callsIn_wide (n := 6)).1 ?_
   exact dnKey_in Fence.wide 6 trivial trivial trivial trivial (fun l n a0 w _ => CallsIn.inRound l (callsIn_wide.2 (by obtain ⟨k, hk⟩ := (impl_norm a0).rounds; exact impl_Norm.calls k a0 _ w hk))) rfl (Nat.le_refl _) A0 c0 rs zr w hr0 (by omega)
 · cases h
theorem keyB_snoc (l : List S151) (x : S151) : keyB (x :: l) = keyB l ++ partB x := by simp [keyB]
theorem partB_sz (x : S151) (h : x.f0.size ≤ 1000) : (partB x).size ≤ 2002 := partB_size ⟨x, h, by have := normB_size x.f1; omega⟩
theorem keyB_size : ∀ (l : List S151), (∀ x, x ∈ l → x.f0.size ≤ 1000) → (keyB l).size ≤ 2002 * l.length
 | [], _ => by show (⟨#[]⟩ : ByteArray).size ≤ _; decide
 | x :: l, h => by
   have ih := keyB_size l (fun y hy => h y (List.mem_cons_of_mem _ hy))
   have := partB_sz x (h x (List.mem_cons_self ..))
   rw [keyB_snoc, ByteArray.size_append, List.length_cons]
   omega
theorem spec_key_l (l : List S151) (hl : l.length ≤ 1000000) (h : ∀ x, x ∈ l → x.f0.size ≤ 1000) : ∀ (m : Nat), m ≤ l.length → Ev (fun k => spec_l02Key.l0 k l (keyB (l.drop m)) ((m : Int) - 1)) (keyB l)
 | 0, _ => Ev_one fun k => by simp only [spec_l02Key.l0]; rw [if_neg (by omega), List.drop_zero]
 | m + 1, hm => by
   have ih := spec_key_l l hl h m (by omega)
   have hlt : m < l.length := by omega
   have hrd : rd_T151 l (((m + 1 : Nat) : Int) - 1) = l[m] := by
     unfold rd_T151
     rw [show ((((m + 1 : Nat) : Int) - 1).toNat) = m by omega, getD_at hlt]
   have hd : l.drop m = l[m] :: l.drop (m + 1) := List.drop_eq_getElem_cons hlt
   have hx := h l[m] (List.getElem_mem hlt)
   have hs := keyB_size (l.drop (m + 1)) (fun x hx => h x (List.mem_of_mem_drop hx))
   have hn := normB_size (l[m]).f1
   rw [List.length_drop] at hs
   have ew : wrap64 ((((m + 1 : Nat) : Int) - 1) - 1) = (m : Int) - 1 := by rw [w_id (by omega) (by omega)]; omega
   have e1 : (⟨#[1]⟩ : ByteArray).size = 1 := rfl
   have e2 : (⟨#[61]⟩ : ByteArray).size = 1 := rfl
   have ek : ((((keyB (l.drop (m + 1)) ++ (⟨#[1]⟩ : ByteArray)) ++ (l[m]).f0) ++ (⟨#[61]⟩ : ByteArray)) ++ normB (l[m]).f1) = keyB (l.drop m) := by
     rw [hd, keyB_snoc]
     unfold partB
     simp only [ByteArray.append_assoc]
   refine Ev.step (fun k => by
     simp only [spec_l02Key.l0]
     rw [if_pos (by omega), if_pos (by omega), if_pos (by omega), if_pos (by omega), hrd, if_pos (by rw [ByteArray.size_append]; omega), if_pos (by rw [ByteArray.size_append, ByteArray.size_append]; omega), ew]) ?_
   refine Ev_bind (spec_norm _) ?_
   refine Ev.congr (fun k => if_pos (by rw [ByteArray.size_append, ByteArray.size_append, ByteArray.size_append]; omega)) ?_
   rw [ek]
   exact ih
theorem spec_key {l : List S151} (h : keyOk l = true) : Ev (fun k => spec_l02Key.f k l) (keyB l) := by
 unfold keyOk at h
 simp only [Bool.and_eq_true, decide_eq_true_eq, List.all_eq_true] at h
 have := spec_key_l l h.1 h.2 l.length (Nat.le_refl _)
 rw [List.drop_length] at this
 unfold spec_l02Key.f
 rw [w_id (by omega) (by omega)]
 exact this
end Go.Proofs.YtmkpgddfoaglpaaGreatDoor.PG
