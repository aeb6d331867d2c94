/-
  Some bytes and a tag are drawn. Plain Lean over the printed functions.
-/
import Derived.Test.YtfikhgiiccbbfaaFBP3
import Derived.Test.YtfikhgiiccbbfaaFBDrawS
namespace Go.Proofs.Ytfikhgiiccbbfaa.PG
set_option linter.unusedVariables false
set_option linter.unusedSimpArgs false
open Go.RowKit Go.Proofs.YtfikhgiiccbbfaaW.PrintWords Go.Proofs.YtfikhgiiccbbfaaW.PrintLast Go.Proofs.YtfikhgiiccbbfaaW.PrintMore Go.Proofs.Ytfikhgiiccbbfaa.Gn

theorem rd_bounds {L : List Int} {lo hi : Int} (h : ∀ x, x ∈ L → lo ≤ x ∧ x ≤ hi) {i : Int} (h0 : 0 ≤ i) (h1 : i < (L.length : Int)) : lo ≤ rd L i ∧ rd L i ≤ hi := by
  obtain ⟨n, rfl⟩ := Int.eq_ofNat_of_zero_le h0
  have hn : n < L.length := by omega
  have e : rd L (n : Int) = L[n]'hn := by unfold rd; simp [List.getD_eq_getElem?_getD, hn]
  rw [e]
  exact h _ (List.getElem_mem hn)
theorem some_ok (b : List Int) (a x s : Int) (hb : b.length ≤ 1000000000) (ha : 0 ≤ a) (ha2 : a ≤ b.length) :
    ∃ o a' x', Ev (fun k => spec_l01Src_l09Some.f k b a x s) (o, a', x', s) ∧ o.size ≤ 1000000 ∧ 0 ≤ a' ∧ a' ≤ b.length := by
  obtain ⟨q, a1, x1, e1, p1, p2⟩ := one_ok b a x s 8 hb ha ha2 (by omega)
  unfold spec_l01Src_l09Some.f
  cases q with
  | true =>
    obtain ⟨r, a2, x2, e2, r0, r1, p3, p4⟩ := n_ok b a1 x1 s 7 hb p1 p2 (by omega)
    have r7 := r1 (by omega)
    have hbd : ∀ y, y ∈ ([127, 128, 255, 256, 3999, 4000, 4001] : List Int) → (127 : Int) ≤ y ∧ y ≤ 4001 := by decide
    have hr := rd_bounds hbd r0 (show r < (([127, 128, 255, 256, 3999, 4000, 4001] : List Int).length : Int) from r7)
    refine ⟨strOfNums (List.replicate (rd ([127, 128, 255, 256, 3999, 4000, 4001] : List Int) r : Int).toNat 0), a2, x2, Ev_some fun k => ?_, ?_, p3, p4⟩
    · rw [e1]
      simp only [Option.bind_some, if_true]
      rw [e2]
      simp only [Option.bind_some]
      rw [if_pos r0, if_pos (show r < (([127, 128, 255, 256, 3999, 4000, 4001] : List Int).length : Int) from r7), if_pos (by omega), if_pos (by omega)]
    · show (strOfNums _).data.size ≤ _
      simp only [strOfNums, List.size_toArray, List.length_map, List.length_replicate]
      omega
  | false =>
    obtain ⟨r, a2, x2, e2, r0, r1, p3, p4⟩ := n_ok b a1 x1 s 6 hb p1 p2 (by omega)
    have r6 := r1 (by omega)
    obtain ⟨o, a3, x3, e3, h3⟩ := bytes_ok b r (by omega) s hb r.toNat 0 [] a2 x2 (by omega) (by omega) (by simp) p3 p4 (by omega)
    refine ⟨o, a3, x3, ?_, h3⟩
    refine Ev.congr (fun k => by rw [e1]) (Ev_bind (Ev.now _) ?_)
    refine Ev.congr (fun k => if_neg Bool.false_ne_true) ?_
    refine Ev.congr (fun k => by rw [e2]) (Ev_bind (Ev.now _) ?_)
    exact Ev_bind (show Ev (fun k => spec_l01Src_bytes.f k b a2 x2 s r) (o, a3, x3, s) from e3) (Ev.now _)
end Go.Proofs.Ytfikhgiiccbbfaa.PG
