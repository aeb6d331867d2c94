/-
  The reference's RowById and RowByLogin, and the program's, come to the row at the same place. No condition.
-/
import Derived.Test.YtpocoeghobdfiaaDoorRIP2
import Derived.Test.YtpocoeghobdfiaaDoorRIP3
import Derived.Test.YtpocoeghobdfiaaDoorRITable
import Derived.Test.YtpocoeghobdfiaaDoorRIRowBy
namespace Go.Proofs.YtpocoeghobdfiaaDoor.PG
set_option linter.unusedSimpArgs false
set_option linter.unusedVariables false
open Go.RowKit Go.Proofs.YtpocoeghobdfiaaDoorW.PrintWords Go.Proofs.YtpocoeghobdfiaaDoorW.PrintLast Go.Proofs.YtpocoeghobdfiaaDoorW.PrintMore Go.Proofs.YtpocoeghobdfiaaDoor.Gn Go.Proofs.YtpocoeghobdfiaaDoor.Sem

abbrev RowT := Int × ByteArray × ByteArray × ByteArray × Bool × Int × Bool
def zeroT : RowT := (0, (⟨#[]⟩ : ByteArray), (⟨#[]⟩ : ByteArray), (⟨#[]⟩ : ByteArray), false, 0, false)
def tupT (x : S34) : RowT := (x.f0, x.f1, x.f2, x.f3, x.f4, x.f5, x.f6)
def pickT (l : List S34) (i : Int) : RowT := if i < 0 then zeroT else tupT (rd_T34 l i)

theorem rd_at (l : List S34) (k : Nat) (h : k < l.length) : rd_T34 l (k : Int) = l[k]'h := by
  unfold rd_T34
  rw [Int.toNat_natCast, getD_at h]
theorem at_pick (a b : Int) (l : List S34) (p : S34 → Bool) : impl_Table_at.f a b l (idx p l) = some ((pickT l (idx p l)).1, (pickT l (idx p l)).2.1, (pickT l (idx p l)).2.2.1, (pickT l (idx p l)).2.2.2.1, (pickT l (idx p l)).2.2.2.2.1, (pickT l (idx p l)).2.2.2.2.2.1, (pickT l (idx p l)).2.2.2.2.2.2, a, b) := by
  unfold impl_Table_at.f pickT
  rcases idx_cases p l with ⟨e, _⟩ | ⟨k, hk, e, _⟩
  · rw [e, if_pos (by omega), if_pos (by omega)]
    rfl
  · rw [e, if_neg (by omega), if_pos (by omega), if_pos (by omega), if_neg (by omega)]
    rfl
def byIdT (a b : Int) (l : List S34) (id : Int) : RowT := if tableB a b l = true then pickT l (idx (fun x => x.f0 == id) l) else zeroT
theorem impl_byId (a b : Int) (l : List S34) (id : Int) : Ev (fun k => impl_RowById.f k a b l id) (byIdT a b l id) := by
  unfold impl_RowById.f byIdT
  refine Ev_bind (impl_table a b l) ?_
  cases tableB a b l
  · exact Ev_some fun k => by simp [zeroT]
  · refine Ev_some fun k => ?_
    simp only [if_true, impl_Table_byId.f, Option.bind_some, at_pick]
theorem spec_byId (a b : Int) (l : List S34) (id : Int) (hl : l.length ≤ 1048576) : Ev (fun k => spec_RowById.f k a b l id) (byIdT a b l id) := by
  unfold spec_RowById.f byIdT
  have hmiss : Ev (fun k => spec_RowById.l0 k id (l.length : Int) a b l) zeroT := Ev_one fun k => by
    simp only [spec_RowById.l0]
    rw [if_neg (by omega)]
    rfl
  have hgo : ∀ i, i < l.length → tableB a b l = false ∨ ((rd_T34 l (i : Int)).f0 == id) = false → ∀ u, Ev (fun k => spec_RowById.l0 k id ((i + 1 : Nat) : Int) a b l) u → Ev (fun k => spec_RowById.l0 k id (i : Int) a b l) u := by
    intro i hi hc u hu
    have e0 : wrap64 ((i : Int) + 1) = ((i + 1 : Nat) : Int) := by rw [wsucc (by omega) (by omega)]; omega
    by_cases h1 : (rd_T34 l (i : Int)).f0 = id
    · refine Ev.step (fun k => by simp only [spec_RowById.l0]; rw [if_pos (by omega), if_pos (by omega), if_pos h1, e0]) (Ev_bind (spec_table a b l) ?_)
      rcases hc with h | h
      · rw [h]
        simpa using hu
      · simp [h1] at h
    · exact Ev.step (fun k => by simp only [spec_RowById.l0]; rw [if_pos (by omega), if_pos (by omega), if_neg h1, e0]) hu
  cases ht : tableB a b l
  · rw [if_neg (by simp)]
    exact skip_loop (fun k i => spec_RowById.l0 k id i a b l) l.length _ hmiss (fun i hi u hu => hgo i hi (.inl ht) u hu)
  · rw [if_pos rfl]
    rcases idx_cases (fun x : S34 => x.f0 == id) l with ⟨e, hn⟩ | ⟨k, hk, e, hp, hb⟩
    · rw [e]
      exact skip_loop (fun k i => spec_RowById.l0 k id i a b l) l.length _ hmiss (fun i hi u hu => hgo i hi (.inr (by rw [rd_at l i hi]; exact hn _ (List.getElem_mem _))) u hu)
    · rw [e]
      refine skip_loop (fun k i => spec_RowById.l0 k id i a b l) k _ ?_ (fun i hi u hu => hgo i (by omega) (.inr (by rw [rd_at l i (by omega)]; exact hb i (by omega) hi)) u hu)
      have h1 : (rd_T34 l (k : Int)).f0 = id := by rw [rd_at l k hk]; simpa using hp
      refine Ev.step (fun n => by simp only [spec_RowById.l0]; rw [if_pos (by omega), if_pos (by omega), if_pos h1]) (Ev_bind (spec_table a b l) ?_)
      rw [ht]
      unfold pickT
      rw [if_neg (by omega)]
      exact Ev_some fun n => by simp [tupT]

def longB (s : ByteArray) : Bool := decide ((s.size : Int) > 8000)
theorem impl_long1 (s : ByteArray) : Ev (fun k => impl_isLong.f k [s]) (longB s) := by
  unfold impl_isLong.f longB
  refine Ev_at 2 fun k => ?_
  simp only [impl_isLong.l0, List.length_cons, List.length_nil]
  have e : rdOf ByteArray.empty [s] 0 = s := rfl
  rw [if_pos (by omega), if_pos (by omega), if_pos (by omega), e]
  by_cases h : (s.size : Int) > 8000
  · rw [if_pos h, decide_eq_true h]
  · rw [if_neg h, decide_eq_false h]
    rw [show wrap64 (0 + 1) = (1 : Int) from by unfold wrap64; omega, if_neg (by omega)]
def byLoginT (a b : Int) (l : List S34) (s : ByteArray) : RowT := if longB s = true then zeroT else if tableB a b l = true then pickT l (idx (loginB s) l) else zeroT
theorem impl_byLogin (a b : Int) (l : List S34) (s : ByteArray) : Ev (fun k => impl_RowByLogin.f k a b l s) (byLoginT a b l s) := by
  unfold impl_RowByLogin.f byLoginT
  refine Ev_bind (impl_long1 s) ?_
  cases longB s
  · simp only [Bool.false_eq_true, if_false]
    refine Ev_bind (impl_table a b l) ?_
    cases tableB a b l
    · exact Ev_some fun k => by simp [zeroT]
    · refine Ev_some fun k => ?_
      simp only [if_true, impl_Table_byLogin.f, Option.bind_some, at_pick]
  · exact Ev_some fun k => by simp [zeroT]
theorem spec_login (a b : Int) (l : List S34) (s : ByteArray) (hl : l.length ≤ 1048576) : Ev (fun k => spec_l12Login.f k a b l s) (idx (loginB s) l) := by
  unfold spec_l12Login.f
  have hgo : ∀ i, i < l.length → loginB s (rd_T34 l (i : Int)) = false → ∀ u, Ev (fun k => spec_l12Login.l0 k s ((i + 1 : Nat) : Int) a b l) u → Ev (fun k => spec_l12Login.l0 k s (i : Int) a b l) u := by
    intro i hi hc u hu
    have e0 : wrap64 ((i : Int) + 1) = ((i + 1 : Nat) : Int) := by rw [wsucc (by omega) (by omega)]; omega
    unfold loginB at hc
    by_cases h1 : (rd_T34 l (i : Int)).f1.toList = s.toList
    · rw [h1, beq_self_eq_true, Bool.and_true] at hc
      have h6 : (rd_T34 l (i : Int)).f6 = true := by simpa using hc
      exact Ev.step (fun k => by simp only [spec_l12Login.l0]; rw [if_pos (by omega), if_pos (by omega), if_pos h1, if_pos h6, e0]) hu
    · exact Ev.step (fun k => by simp only [spec_l12Login.l0]; rw [if_pos (by omega), if_pos (by omega), if_neg h1, e0]) hu
  rcases idx_cases (loginB s) l with ⟨e, hn⟩ | ⟨k, hk, e, hp, hb⟩
  · rw [e]
    refine skip_loop (fun k i => spec_l12Login.l0 k s i a b l) l.length _ ?_ (fun i hi u hu => hgo i hi (by rw [rd_at l i hi]; exact hn _ (List.getElem_mem _)) u hu)
    exact Ev_one fun k => by simp only [spec_l12Login.l0]; rw [if_neg (by omega)]
  · rw [e]
    refine skip_loop (fun k i => spec_l12Login.l0 k s i a b l) k _ ?_ (fun i hi u hu => hgo i (by omega) (by rw [rd_at l i (by omega)]; exact hb i (by omega) hi) u hu)
    rw [← rd_at l k hk] at hp
    unfold loginB at hp
    rw [Bool.and_eq_true, beq_iff_eq] at hp
    obtain ⟨h6, h1⟩ := hp
    exact Ev_one fun n => by simp only [spec_l12Login.l0]; rw [if_pos (by omega), if_pos (by omega), if_pos h1, if_neg (by simpa using h6)]
theorem spec_byLogin (a b : Int) (l : List S34) (s : ByteArray) (hl : l.length ≤ 1048576) : Ev (fun k => spec_RowByLogin.f k a b l s) (byLoginT a b l s) := by
  unfold spec_RowByLogin.f byLoginT
  refine Ev_bind (spec_login a b l s hl) ?_
  by_cases h : (s.size : Int) > 8000
  · rw [show longB s = true from decide_eq_true h]
    show Ev _ zeroT
    exact Ev_some fun k => by rw [if_pos h]; rfl
  · rw [show longB s = false from decide_eq_false h]
    show Ev _ (if tableB a b l = true then pickT l (idx (loginB s) l) else zeroT)
    simp only [if_neg h]
    rcases idx_cases (loginB s) l with ⟨e, _⟩ | ⟨k, hk, e, _⟩
    · rw [e, show pickT l (-1) = zeroT from if_pos (by omega)]
      refine Ev_some fun k => ?_
      rw [if_pos (by omega)]
      split <;> rfl
    · rw [e]
      simp only [if_neg (show ¬ (k : Int) < 0 by omega)]
      refine Ev_bind (spec_table a b l) ?_
      cases tableB a b l
      · exact Ev_some fun k => by simp [zeroT]
      · refine Ev_some fun n => ?_
        rw [if_pos rfl, if_pos rfl, if_pos (by omega), if_pos (by omega)]
        unfold pickT
        rw [if_neg (by omega)]
        rfl
end Go.Proofs.YtpocoeghobdfiaaDoor.PG
