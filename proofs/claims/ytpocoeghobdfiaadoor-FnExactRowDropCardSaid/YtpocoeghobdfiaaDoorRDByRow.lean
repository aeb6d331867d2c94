/-
  The methods byId and byLogin of the program's table come to the place of the first row that meets their test, and leave the table as it is. No condition.
-/
import Derived.Test.YtpocoeghobdfiaaDoorRDP3
import Derived.Test.YtpocoeghobdfiaaDoorRDCloslicesIndexFuncRow
namespace Go.Proofs.YtpocoeghobdfiaaDoor.PG
open Go.RowKit Go.Proofs.YtpocoeghobdfiaaDoorW.PrintWords Go.Proofs.YtpocoeghobdfiaaDoorW.PrintLast Go.Proofs.YtpocoeghobdfiaaDoorW.PrintMore Go.Proofs.YtpocoeghobdfiaaDoor.Gn
attribute [local go_sem] max2_int min2_int max_two min_two max_three min_three max_four min_four
set_option linter.unusedVariables false
set_option linter.unusedSimpArgs false

theorem enters_114 : ∀ args w, (callFunc 114 args).run Tryd.prog w = .ok (.enter 114 args) w := enters_of Tryd.func114 (by kernel_rfl) rfl
theorem enters_115 : ∀ args w, (callFunc 115 args).run Tryd.prog w = .ok (.enter 115 args) w := enters_of Tryd.func115 (by kernel_rfl) rfl

set_option maxHeartbeats 1000000 in
theorem byId_clo (b : Nat) (id : Int) (x : S34) (W : World) (hE : W.cell? ⟨b, 0, none⟩ = some (.int .i64 id)) :
    Calls Tryd.prog 114 #[.agg #[.int .i64 x.f0, .string x.f1, .string x.f2, .string x.f3, .bool x.f4, .int .i64 x.f5, .bool x.f6], .pointer (some ⟨b, 0, none⟩)] W fun e w' => e = .returned (.bool (x.f0 == id)) ∧ Below W.heap.size W w' := by
  have hB : b < W.heap.size := World.block_lt_of_cell? W _ hE
  have hne : b ≠ W.heap.size := by omega
  go_enter Tryd.func114, Tryd.ntmps114
  go_wp2
  go_ret
  exact ⟨rfl, (Below.refl _ W).alloc (Nat.le_refl _) _⟩

def loginB (login : ByteArray) (x : S34) : Bool := !x.f6 && (x.f1.toList == login.toList)
set_option maxHeartbeats 1000000 in
theorem byLogin_clo (b : Nat) (login : ByteArray) (x : S34) (W : World) (hE : W.cell? ⟨b, 0, none⟩ = some (.string login)) :
    Calls Tryd.prog 115 #[.agg #[.int .i64 x.f0, .string x.f1, .string x.f2, .string x.f3, .bool x.f4, .int .i64 x.f5, .bool x.f6], .pointer (some ⟨b, 0, none⟩)] W fun e w' => e = .returned (.bool (loginB login x)) ∧ Below W.heap.size W w' := by
  have hB : b < W.heap.size := World.block_lt_of_cell? W _ hE
  have hne : b ≠ W.heap.size := by omega
  obtain ⟨q0, q1, q2, q3, q4, q5, q6⟩ := x
  cases q6 <;>
  · go_enter Tryd.func115, Tryd.ntmps115
    go_wp2
    go_ret
    exact ⟨rfl, (Below.refl _ W).alloc (Nat.le_refl _) _⟩

def impl_Table_byId.f (s0_0 s0_1 : Int) (s0_2 : List S34) (a1 : Int) : Option (Int × Int × Int) := some (idx (fun x => x.f0 == a1) s0_2, s0_0, s0_1)
def impl_Table_byLogin.f (s0_0 s0_1 : Int) (s0_2 : List S34) (a1 : ByteArray) : Option (Int × Int × Int) := some (idx (loginB a1) s0_2, s0_0, s0_1)

theorem cell_of_blk {w : World} {g : Nat} {cs : Array Value} {t : TypeId} {j : Nat} {v : Value} (h : w.heap[g]? = some (.cells cs t (0, 0))) (hj : cs[j]? = some v) : w.cell? ⟨g, j, none⟩ = some v := by
  simp [World.cell?, h, hj]

set_option maxHeartbeats 1000000 in
theorem impl_Table_byId.calls (g : Nat) (s0_0 s0_1 : Int) (s0_2 : List S34) (a1 : Int) (r1 r2 r3 : Int) (w0 w : World) (hI : IsS38 w0 w g s0_0 s0_1 s0_2) (hB : Below w0.heap.size w0 w) (h : impl_Table_byId.f s0_0 s0_1 s0_2 a1 = some (r1, r2, r3)) :
    Calls Tryd.prog 62 #[.pointer (some ⟨g, 0, none⟩), .int .i64 a1] w fun e w' => e = .returned (.int .i64 r1) ∧ IsS38 w0 w' g r2 r3 s0_2 ∧ Below w0.heap.size w0 w' ∧ KeepBut w w' g none := by
  unfold impl_Table_byId.f at h
  simp only [Option.some.injEq, Prod.mk.injEq] at h
  obtain ⟨h1, rfl, rfl⟩ := h
  have HI := Aside0.mk hI
  have HB := Aside0.mk hB
  have hg : g < w.heap.size := hI.lt
  obtain ⟨A2, c2, hblk, hge, hC⟩ := hI
  have hf : w.cell? ⟨g, 2, none⟩ = some (.slice A2 s0_2.length c2) := cell_of_blk hblk rfl
  have hcon := slices_IndexFunc_Row.any_ 114 #[.pointer (some ⟨w.heap.size, 0, none⟩)] (fun W => W.cell? ⟨w.heap.size, 0, none⟩ = some (.int .i64 a1)) (fun x => x.f0 == a1)
    (fun W W' hb hE => pw_cell_below hb hE) (fun W x cs hE hK => by obtain rfl := k34_open hK; exact byId_clo _ a1 x W hE) enters_114 A2 c2 s0_2 (w.alloc (.cells #[.int .i64 a1] 2))
    (Kd.C_below hC (below_alloc HB.out _)) (cell_of_blk (heap_alloc_new w _) rfl)
  rw [h1] at hcon
  clear hblk hC hB hge h1
  have hne : g ≠ w.heap.size := by omega
  go_enter Tryd.func62, Tryd.ntmps62
  go_wp2_with (go_at_call 113; refine hcon.mono ?_; rintro e w' ⟨rfl, hb'⟩)
  go_ret
  have hb : Below w.heap.size w w' := below_then ((Below.refl _ w).alloc (Nat.le_refl _) _) (by simp) hb'
  exact ⟨rfl, HI.out.below hb, below_then HB.out HB.out.size hb, KeepBut.of_below hb g none⟩

set_option maxHeartbeats 1000000 in
theorem impl_Table_byLogin.calls (g : Nat) (s0_0 s0_1 : Int) (s0_2 : List S34) (a1 : ByteArray) (r1 r2 r3 : Int) (w0 w : World) (hI : IsS38 w0 w g s0_0 s0_1 s0_2) (hB : Below w0.heap.size w0 w) (h : impl_Table_byLogin.f s0_0 s0_1 s0_2 a1 = some (r1, r2, r3)) :
    Calls Tryd.prog 66 #[.pointer (some ⟨g, 0, none⟩), .string a1] w fun e w' => e = .returned (.int .i64 r1) ∧ IsS38 w0 w' g r2 r3 s0_2 ∧ Below w0.heap.size w0 w' ∧ KeepBut w w' g none := by
  unfold impl_Table_byLogin.f at h
  simp only [Option.some.injEq, Prod.mk.injEq] at h
  obtain ⟨h1, rfl, rfl⟩ := h
  have HI := Aside0.mk hI
  have HB := Aside0.mk hB
  have hg : g < w.heap.size := hI.lt
  obtain ⟨A2, c2, hblk, hge, hC⟩ := hI
  have hf : w.cell? ⟨g, 2, none⟩ = some (.slice A2 s0_2.length c2) := cell_of_blk hblk rfl
  have hcon := slices_IndexFunc_Row.any_ 115 #[.pointer (some ⟨w.heap.size, 0, none⟩)] (fun W => W.cell? ⟨w.heap.size, 0, none⟩ = some (.string a1)) (loginB a1)
    (fun W W' hb hE => pw_cell_below hb hE) (fun W x cs hE hK => by obtain rfl := k34_open hK; exact byLogin_clo _ a1 x W hE) enters_115 A2 c2 s0_2 (w.alloc (.cells #[.string a1] 9))
    (Kd.C_below hC (below_alloc HB.out _)) (cell_of_blk (heap_alloc_new w _) rfl)
  rw [h1] at hcon
  clear hblk hC hB hge h1
  have hne : g ≠ w.heap.size := by omega
  go_enter Tryd.func66, Tryd.ntmps66
  go_wp2_with (go_at_call 113; refine hcon.mono ?_; rintro e w' ⟨rfl, hb'⟩)
  go_ret
  have hb : Below w.heap.size w w' := below_then ((Below.refl _ w).alloc (Nat.le_refl _) _) (by simp) hb'
  exact ⟨rfl, HI.out.below hb, below_then HB.out HB.out.size hb, KeepBut.of_below hb g none⟩
end Go.Proofs.YtpocoeghobdfiaaDoor.PG
