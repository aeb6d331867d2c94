/-
  The walk of the program's evalNode. Condition: the entry's names rise.
-/
import Derived.Test.YtpocoeghobdfiaaGreatDoorFEP3
import Derived.Test.YtpocoeghobdfiaaGreatDoorFEEvalNode
namespace Go.Proofs.YtpocoeghobdfiaaGreatDoor.PG
open Go.RowKit Go.Proofs.YtpocoeghobdfiaaGreatDoorW.PrintWords Go.Proofs.YtpocoeghobdfiaaGreatDoorW.PrintLast Go.Proofs.YtpocoeghobdfiaaGreatDoorW.PrintMore Go.Proofs.YtpocoeghobdfiaaGreatDoor.Gn Go.Proofs.YtpocoeghobdfiaaGreatDoor.Sem
attribute [local go_sem] max2_int min2_int max_two min_two max_three min_three max_four min_four World.cell?_drew World.frozen?_drew
set_option linter.unusedVariables false
set_option linter.unusedSimpArgs false

theorem bcell {W w1 : World} (hb : Below W.heap.size W w1) : (∀ b o, b < W.heap.size → w1.cell? ⟨b, o, none⟩ = W.cell? ⟨b, o, none⟩) ∧ (∀ b o, b < W.heap.size → w1.frozen? ⟨b, o, none⟩ = W.frozen? ⟨b, o, none⟩) :=
  ⟨fun b o h => hb.cell (p := ⟨b, o, none⟩) h, fun b o h => hb.frozen (p := ⟨b, o, none⟩) h⟩
theorem bcell2 {W w1 : World} (N : Nat) (hb : Below W.heap.size W w1) : (∀ b o, N ≤ b → b < W.heap.size → w1.cell? ⟨b, o, none⟩ = W.cell? ⟨b, o, none⟩) ∧ (∀ b o, N ≤ b → b < W.heap.size → w1.frozen? ⟨b, o, none⟩ = W.frozen? ⟨b, o, none⟩) :=
  ⟨fun b o _ h => hb.cell (p := ⟨b, o, none⟩) h, fun b o _ h => hb.frozen (p := ⟨b, o, none⟩) h⟩
def RetInt (W : World) (n : Int) (e : Ending) (w' : World) : Prop := e = .returned (.int .i64 n) ∧ Below W.heap.size W w'
set_option maxHeartbeats 8000000 in
set_option maxRecDepth 100000 in
theorem evalNode_calls (x : S87) (g : Nat) (A0 : Option Addr) (n0 c0 : Nat) (A1 : Option Addr) (c1 : Nat) (l : List S115) (Ak : Option Addr) (ck : Nat) (known : List ByteArray) (W : World)
    (he : EntAt W g A0 n0 c0 A1 c1 l) (hs : Rises l) (hk : Kd.C Kd.string W Ak known.length known) (hck : known.length ≤ ck) :
    Calls Tryz.prog 86 #[.agg #[.int .i64 x.f0, .string x.f1, .string x.f2, .int .i64 x.f3], .pointer (some ⟨g, 0, none⟩), .slice Ak known.length ck] W (RetInt W (nodeV known l x)) := by
  obtain ⟨op, attr, value, many⟩ := x
  show Calls _ _ #[.agg #[.int .i64 op, .string attr, .string value, .int .i64 many], _, _] W (RetInt W (if hasName known attr then truthI ((valsOf attr l).any (fun v => nodeB op (normB value) (normB v))) else 2))
  obtain ⟨cells, hcells⟩ : ∃ cells, cells = #[Value.int .i64 op, .string attr, .string value, .int .i64 many] := ⟨_, rfl⟩
  have hb0 : Below W.heap.size W (W.alloc (.cells cells 87)) := below_alloc (Below.refl _ _) _
  have hx : (W.alloc (.cells cells 87)).cell? ⟨W.heap.size, 0, none⟩ = some (.int .i64 op) ∧ (W.alloc (.cells cells 87)).cell? ⟨W.heap.size, 1, none⟩ = some (.string attr) ∧ (W.alloc (.cells cells 87)).cell? ⟨W.heap.size, 2, none⟩ = some (.string value) := by
    subst hcells
    exact ⟨cell_blk (heap_alloc_new W _) rfl, cell_blk (heap_alloc_new W _) rfl, cell_blk (heap_alloc_new W _) rfl⟩
  have HV := Aside0.mk (fun (W' : World) (hb : Below (W.alloc (.cells cells 87)).heap.size (W.alloc (.cells cells 87)) W') => (show W'.cell? ⟨W.heap.size, 0, none⟩ = some (.int .i64 op) ∧ W'.cell? ⟨W.heap.size, 1, none⟩ = some (.string attr) ∧ W'.cell? ⟨W.heap.size, 2, none⟩ = some (.string value) from ⟨pw_cell_below hb hx.1, pw_cell_below hb hx.2.1, pw_cell_below hb hx.2.2⟩))
  have HB0 := Aside0.mk hb0
  have HVAL := Aside0.mk (fun (W' : World) (hb : Below (W.alloc (.cells cells 87)).heap.size (W.alloc (.cells cells 87)) W') => values_calls g A0 n0 c0 A1 c1 l attr (W.alloc (.cells cells 87)) W' (he.below hb0) hb hs)
  have HANY := Aside0.mk (fun (b7 : Nat) (A : Option Addr) (c : Nat) (W1 : World) (hb : Below (W.alloc (.cells cells 87)).heap.size (W.alloc (.cells cells 87)) W1) (h1 : W1.cell? ⟨W.heap.size, 0, none⟩ = some (.int .i64 op)) (h2 : W1.cell? ⟨b7, 0, none⟩ = some (.string (normB value))) (hr : Kd.C Kd.string (W.alloc (.cells cells 87)) A (valsOf attr l).length (valsOf attr l)) =>
    slices_ContainsFunc_string.any_ 123 #[.pointer (some ⟨W.heap.size, 0, none⟩), .pointer (some ⟨b7, 0, none⟩)] (fun W' => W'.cell? ⟨W.heap.size, 0, none⟩ = some (.int .i64 op) ∧ W'.cell? ⟨b7, 0, none⟩ = some (.string (normB value))) (fun v => nodeB op (normB value) (normB v))
      (fun W W' hb hE => ⟨pw_cell_below hb hE.1, pw_cell_below hb hE.2⟩) (fun W' x cs hE hK => by obtain rfl := (show cs = [.string x] from hK); exact node_clo _ _ op (normB value) x W' hE.1 hE.2) enters_123 A c (valsOf attr l) W1 (Kd.C_below hr hb) ⟨h1, h2⟩)
  have HCO := Aside0.mk (contains_calls Ak ck known attr (W.alloc (.cells cells 87)) (Kd.C_below hk hb0) hck)
  generalize hw1 : W.alloc (.cells cells 87) = w1 at HV HB0 HVAL HCO HANY
  subst hcells
  have hv0 := HV.out w1 (Below.refl _ _)
  obtain ⟨f0, f1, f2⟩ := hv0
  clear hx hb0 he hs hk hck
  cases hn : hasName known attr with
  | false =>
    rw [hn] at HCO
    rw [if_neg (by simp)]
    clear hn
    go_enter Tryz.func86, Tryz.ntmps86
    go_wp2_with (go_at_call 96; refine HCO.out.mono ?_; rintro e w2 ⟨rfl, hb2⟩)
    go_ret
    exact ⟨rfl, below_step HB0.out hb2⟩
  | true =>
    rw [hn] at HCO
    rw [if_pos rfl]
    clear hn
    have HNORM := Aside0.mk (fun (W : World) => norm_calls value W)
    generalize hany : (valsOf attr l).any (fun v => nodeB op (normB value) (normB v)) = b at HANY
    generalize hvs : valsOf attr l = vs at HVAL HANY
    generalize hnv : normB value = nv at HNORM HANY
    clear hvs hnv hany
    go_enter Tryz.func86, Tryz.ntmps86
    go_wp2_with (go_at_call 96; refine HCO.out.mono ?_; rintro e w2 ⟨rfl, hb2⟩)
    have hs2 : w1.heap.size ≤ w2.heap.size := hb2.size
    have hs1 : W.heap.size < w1.heap.size := by rw [← hw1]; simp
    obtain ⟨f0, f1, f2⟩ := HV.out w2 hb2
    have e2 : W.heap.size < w2.heap.size := World.block_lt_of_cell? w2 _ f0
    have n2 : W.heap.size ≠ w2.heap.size := Nat.ne_of_lt e2
    go_region_with (first | (go_at_call 98; refine (HNORM.out _).mono ?_; rintro e w3 ⟨rfl, hb3⟩; have hB3 := (show Below w1.heap.size w1 w3 by (refine below_step ?_ hb3; repeat (first | exact hb2 | exact hB4 | refine below_drew ?_ | refine pw_below_drewN ?_ _ | refine below_alloc ?_ _))); obtain ⟨g0, g1, g2⟩ := HV.out w3 hB3; have e3 : W.heap.size < w3.heap.size := World.block_lt_of_cell? w3 _ g0; have n3 : W.heap.size ≠ w3.heap.size := Nat.ne_of_lt e3; have hz3 : w1.heap.size ≤ w3.heap.size := hB3.size; (first | (have k3 := blk_below (heap_alloc_new w2.drew (.cells #[.string ⟨#[]⟩] 9)) hb3; have c3 := (show w3.cell? ⟨w2.heap.size, 0, none⟩ = some (.string ⟨#[]⟩) from blk_cell k3 0); have z3 := (show w3.frozen? ⟨w2.heap.size, 0, none⟩ = false from blk_frozen k3 0); have K3 := Aside0.mk k3; clear k3) | skip)) | (go_at_call 115; refine (HVAL.out _ (by repeat (first | exact hb2 | exact hB3 | refine below_drew ?_ | refine pw_below_drewN ?_ _ | refine below_alloc ?_ _))).mono ?_; rintro e w4 ⟨A, c, rfl, hl4, hC4, hb4⟩; have HC4 := Aside0.mk hC4; clear hC4; have hB4 := (show Below w1.heap.size w1 w4 by (refine below_step ?_ hb4; repeat (first | exact hb2 | exact hB3 | refine below_drew ?_ | refine pw_below_drewN ?_ _ | refine below_alloc ?_ _))); obtain ⟨g0, g1, g2⟩ := HV.out w4 hB4; (first | (have k4 := blk_below K3.out hb4; have c4 := (show w4.cell? ⟨w2.heap.size, 0, none⟩ = some (.string ⟨#[]⟩) from blk_cell k4 0); have z4 := (show w4.frozen? ⟨w2.heap.size, 0, none⟩ = false from blk_frozen k4 0); have K4 := Aside0.mk k4; clear k4) | (have k4 := blk_below (heap_alloc_new w3 (.cells #[.string ⟨#[]⟩] 9)) hb4; have c4 := (show w4.cell? ⟨w3.heap.size, 0, none⟩ = some (.string ⟨#[]⟩) from blk_cell k4 0); have z4 := (show w4.frozen? ⟨w3.heap.size, 0, none⟩ = false from blk_frozen k4 0); have K4 := Aside0.mk k4; clear k4) | skip)))
    all_goals go_wp2_with (first
      | (go_at_call 122; refine (HANY.out _ _ _ _ ?hb ?c1 ?c2 HC4.out).mono ?_; (case hb => (repeat (first | exact hB4 | refine below_alloc ?_ _ | refine below_set ?_ ?_)) <;> omega); (case c1 => first | exact pw_cell_below (below_alloc (Below.refl _ _) _) g0 | exact (cell_far n2 _).trans g0 | exact (cell_far n3 _).trans g0 | exact (cell_far (Nat.ne_of_lt (World.block_lt_of_cell? _ _ g0)) _).trans (pw_cell_below (below_alloc (Below.refl _ _) _) g0)); (case c2 => first | exact cell_blk (heap_alloc_new _ _) rfl | exact cell_blk (blk_set K4.out 0 _) rfl | exact cell_blk (blk_set (heap_alloc_new _ _) 0 _) rfl); rintro e w5 ⟨rfl, hb5⟩)
      | (go_at_call 121; refine (truth_calls _ _).mono ?_; rintro e w6 ⟨rfl, hb6⟩))
    all_goals (go_ret; exact ⟨rfl, below_step HB0.out (below_step (below_step (by (repeat (first | exact hB4 | refine below_alloc ?_ _ | refine below_set ?_ ?_)) <;> omega) hb5) hb6)⟩)
end Go.Proofs.YtpocoeghobdfiaaGreatDoor.PG
