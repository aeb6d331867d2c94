/-
  The program's rowsSince, walked: the rows with a greater number, in order. Condition: the rows' size.
-/
import Derived.Test.YthapodlehfblgaaDoorRSP5
import Derived.Test.YthapodlehfblgaaDoorRSSortRow
import Derived.Test.YthapodlehfblgaaDoorRSDelRow
import Derived.Test.YthapodlehfblgaaDoorRSCloneRow
import Derived.Test.YthapodlehfblgaaDoorRSTable
namespace Go.Proofs.YthapodlehfblgaaDoor.PG
set_option linter.unusedVariables false
set_option linter.unusedSimpArgs false
open Go.RowKit Go.Proofs.YthapodlehfblgaaDoorW.PrintWords Go.Proofs.YthapodlehfblgaaDoorW.PrintLast Go.Proofs.YthapodlehfblgaaDoorW.PrintMore Go.Proofs.YthapodlehfblgaaDoor.Gn Go.Proofs.YthapodlehfblgaaDoor.Sem
attribute [local go_sem] max2_int min2_int max_two min_two max_three min_three max_four min_four World.cell?_drew World.frozen?_drew
theorem enters_87 : ∀ args w, (callFunc 87 args).run Tryd.prog w = .ok (.enter 87 args) w := enters_of Tryd.func87 (by kernel_rfl) rfl
def oldP (usn : Int) (x : S55) : Bool := decide (x.f5 ≤ usn)
set_option maxHeartbeats 1000000 in
theorem old_clo (b : Nat) (usn : Int) (x : S55) (W : World) (hE : W.cell? ⟨b, 0, none⟩ = some (.int .i64 usn)) :
    Calls Tryd.prog 87 #[.agg #[.int .i64 x.f0, .string x.f1, .string x.f2, .string x.f3, .bool x.f4, .int .i64 x.f5, .bool x.f6], .pointer (some ⟨b, 0, none⟩)] W fun e w' => e = .returned (.bool (oldP usn x)) ∧ Below W.heap.size W w' := by
  have hB : b < W.heap.size := World.block_lt_of_cell? W _ hE
  have hne : b ≠ W.heap.size := by omega
  obtain ⟨q0, q1, q2, q3, q4, q5, q6⟩ := x
  unfold oldP
  go_enter Tryd.func87, Tryd.ntmps87
  go_wp2
  go_ret
  exact ⟨rfl, below_alloc (Below.refl _ W) _⟩
def RetRows (base : Nat) (w : World) (l : List S55) (e : Ending) (w' : World) : Prop :=
  ∃ A c l', e = .returned (.slice A l'.length c) ∧ l'.Perm l ∧ l'.Pairwise (fun x y => x.f5 ≤ y.f5) ∧ Kd.R k55 55 w' base (fun _ => True) (.slice A l'.length c) l' ∧ Below base w w'
set_option maxHeartbeats 4000000 in
set_option maxRecDepth 100000 in
theorem rowsSince_calls (g0 : Nat) (usn : Int) (A : Option Addr) (c : Nat) (l : List S55) (w : World) (hr : Kd.C k55 w A l.length l) (hc : l.length ≤ c) (hl : l.length * 80 ≤ 140737488355328) (hg : w.cell? ⟨g0, 2, none⟩ = some (.slice A l.length c)) :
    Calls Tryd.prog 57 #[.pointer (some ⟨g0, 0, none⟩), .int .i64 usn] w (RetRows w.heap.size w (l.filter fun x => !oldP usn x)) := by
  obtain ⟨w1, hw1⟩ : ∃ w1, w.alloc (.cells #[.int .i64 usn] 2) = w1 := ⟨_, rfl⟩
  have hb1 : Below w.heap.size w w1 := by rw [← hw1]; exact below_alloc (Below.refl _ _) _
  have hn1 : w1.cell? ⟨w.heap.size, 0, none⟩ = some (.int .i64 usn) := by rw [← hw1]; simp
  have hs1 : w1.heap.size = w.heap.size + 1 := by rw [← hw1]; simp
  have HG := pw_cell_below hb1 hg
  have hcl := clone_Row A c l w1 (Kd.C_below hr hb1) hc hl
  have HN := Aside0.mk hn1
  have HB1 := Aside0.mk hb1
  have HS1 := Aside0.mk (show w.heap.size ≤ w1.heap.size by omega)
  have HL := Aside0.mk hl
  clear hr hc hl hg hb1 hn1 hs1
  have HDEL := Aside0.mk (fun (A : Option Addr) (c : Nat) (V : World) (hR : Kd.R k55 55 V w1.heap.size (fun _ => True) (.slice A l.length c) l) (hb : Below w1.heap.size w1 V) =>
      delf_Row k55 rfl z55 87 #[.pointer (some ⟨w.heap.size, 0, none⟩)] (oldP usn) w1.heap.size w1 (fun _ => True) (fun W x cs hb hK => by
        obtain rfl := k55_open hK
        exact old_clo w.heap.size usn x W (pw_cell_below hb HN.out)) enters_87 A c l V hR hb hb.size)
  have hflen : (l.filter fun x => !oldP usn x).length ≤ l.length := List.length_filter_le _ _
  generalize (l.filter fun x => !oldP usn x) = ys at HDEL hflen ⊢
  have HSRT := Aside0.mk (fun (A : Option Addr) (c : Nat) (V : World) (hR : Kd.R k55 55 V w1.heap.size (fun _ => True) (.slice A ys.length c) ys) => sort_rows A c ys V w1.heap.size (fun _ => True) hR (by have := HL.out; omega))
  clear hflen
  go_enter Tryd.func57, Tryd.ntmps57
  go_wp2_with (first | (go_at_call 86; refine hcl.mono ?_; rintro e w2 ⟨v, rfl, hR, hb2⟩; obtain ⟨A2, c2, rfl⟩ := Kd.R_slice hR; have HR2 := Aside0.mk hR; have HB2 := Aside0.mk hb2; clear hR hb2) | (go_at_call 85; refine (HDEL.out A2 c2 w2 HR2.out HB2.out).mono ?_; rintro e w3 ⟨c3, rfl, hR, hb3, hk3⟩; have HR3 := Aside0.mk hR; have HB3 := Aside0.mk hb3; clear hR hb3 hk3) | (go_at_call 88; refine (HSRT.out A2 c3 w3 HR3.out).mono ?_; rintro e w4 ⟨rfl, l', hp, hs, hR, hb4, hk4⟩; have HR4 := Aside0.mk hR; have HB4 := Aside0.mk hb4; have HP := Aside0.mk hp; have HS := Aside0.mk hs; clear hR hb4 hk4 hp hs))
  go_ret
  have hlen : l'.length = ys.length := HP.out.length_eq
  exact ⟨A2, c3, l', (by rw [hlen]; rfl), HP.out, HS.out, by rw [hlen]; exact Kd.R_lower HR4.out HS1.out, below_step HB1.out (HB3.out.trans HB4.out)⟩
end Go.Proofs.YthapodlehfblgaaDoor.PG
