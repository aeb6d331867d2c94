/-
 The program's dnKey, walked (a range over slices.Backward). Conditions: no attribute's name of over 1000 bytes, no more than 10^12 parts.
-/
import Derived.Test.YtmkpgddfoaglpaaGreatDoorVIMarkRdnC
import Derived.Test.YtmkpgddfoaglpaaGreatDoorVIQVisiblea
import Derived.Test.YtmkpgddfoaglpaaGreatDoorVIP2
namespace Go.Proofs.YtmkpgddfoaglpaaGreatDoor.PG
open Go.RowKit Go.Shelf Go.Proofs.YtmkpgddfoaglpaaGreatDoorW.PrintWords Go.Proofs.YtmkpgddfoaglpaaGreatDoorW.PrintLast Go.Proofs.YtmkpgddfoaglpaaGreatDoorW.PrintMore Go.Proofs.YtmkpgddfoaglpaaGreatDoor.Gn Go.Proofs.YtmkpgddfoaglpaaGreatDoor.Sem
attribute [local go_sem] Oper.semAt_some
set_option linter.unusedVariables false
set_option linter.unusedSimpArgs false
theorem normL_len (s : ByteArray) : ∀ (r i : Nat) (acc : List Int), (normL s i r acc).length ≤ acc.length + r
 | 0, _, acc => by simp [normL]
 | r + 1, i, acc => by have := normL_len s r (i + 1) (normStep acc (bt s (i : Int))); have := step_len acc (bt s (i : Int)); unfold normL; omega
theorem normB_size (s : ByteArray) : (normB s).size ≤ 100 := by
 unfold normB
 split
 · rename_i h
   rw [strOfNums_size]
   have := normL_len s s.size 0 []
   simp at this
   have h2 : (normEnd (normL s 0 s.size [])).length ≤ (normL s 0 s.size []).length := by
     unfold normEnd
     repeat' split
     all_goals simp
   omega
 · decide
def partB (x : S151) : ByteArray := (((⟨#[1]⟩ : ByteArray) ++ x.f0) ++ (⟨#[61]⟩ : ByteArray)) ++ normB x.f1
def keyW (pre : List (Nat × RdnB)) : ByteArray := pre.foldl (fun s x => s ++ partB x.2.1) ⟨#[]⟩
theorem keyW_snoc (pre : List (Nat × RdnB)) (x : Nat × RdnB) : keyW (pre ++ [x]) = keyW pre ++ partB x.2.1 := by simp [keyW]
theorem partB_size (x : RdnB) : (partB x.1).size ≤ 2002 := by
 have h1 := x.2.1
 have h2 := x.2.2
 unfold partB
 rw [ByteArray.size_append, ByteArray.size_append, ByteArray.size_append]
 have : (⟨#[1]⟩ : ByteArray).size = 1 := rfl
 have : (⟨#[61]⟩ : ByteArray).size = 1 := rfl
 omega
theorem keyW_size (pre : List (Nat × RdnB)) : (keyW pre).size ≤ 2002 * pre.length := by
 have : ∀ (pre : List (Nat × RdnB)) (s : ByteArray), (pre.foldl (fun s x => s ++ partB x.2.1) s).size ≤ s.size + 2002 * pre.length := by
   intro pre
   induction pre with
   | nil => intro s; simp
   | cons a r ih =>
     intro s
     have h := ih (s ++ partB a.2.1)
     have h2 := partB_size a.2
     rw [ByteArray.size_append] at h
     simp only [List.foldl_cons, List.length_cons]
     omega
 have h := this pre ⟨#[]⟩
 have e : (⟨#[]⟩ : ByteArray).size = 0 := rfl
 unfold keyW
 omega
attribute [-simp] ByteArray.size_append
attribute [-go_sem] Go.ByteArray.size_append'
set_option maxRecDepth 100000 in
set_option maxHeartbeats 4000000 in
theorem dnKey_in (F : Fence) (n : Nat) (h1' : F.fn 321) (h2 : F.fn 332) (h3 : F.fn 345) (h4 : F.fn 187) (hNorm : ∀ (l : Nat) (n : Nat) (a0 : ByteArray) (w : World), 1 ≤ n → CallsIn (F.inRound l) n Tryz.prog 187 #[.string a0] w fun e w' => e = .returned (.string (normB a0)) ∧ Below w.heap.size w w')
   (hro : F.round = none) (hn : 6 ≤ n) (A : Option Addr) (c : Nat) (rs : List RdnB) (zr : RdnB) (w : World) (hr : Kd.C k151 w A rs.length (rs.map Subtype.val)) (hlen : rs.length ≤ 1000000000000) :
   CallsIn F n Tryz.prog 321 #[.slice A rs.length c] w fun e W' => e = .returned (.string (keyW (upto (backAt rs zr) rs.length))) ∧ Below w.heap.size w W' := by
 have h1 : 1 ≤ n := by omega
 refine callsIn_of_wp_marks Tryz.func321 rfl h1' ?_ hro
 simp only [Tryz.ntmps321, List.size_toArray, List.length_cons, List.length_nil, Nat.reduceAdd, Nat.reduceSub, Array.replicate_succ, Array.replicate_zero, List.push_toArray, List.append_toArray, List.nil_append, List.cons_append]
 gi_wp2_with (gi_at_call 332; refine (back_in F (n - 1) h2 hro _ _ _ _).mono ?_; rintro e w' ⟨rfl, rfl⟩)
 have bO := (Boxed.new w 9 (.string ⟨#[]⟩)).alloc (.cells #[.slice A rs.length c] 41)
 have bB := Boxed.new (w.alloc (.cells #[.string ⟨#[]⟩] 9)) 41 (.slice A rs.length c)
 simp only [World.size_alloc] at bB
 have hB0 : Below w.heap.size w ((w.alloc (.cells #[.string ⟨#[]⟩] 9)).alloc (.cells #[.slice A rs.length c] 41)) := ((Below.refl _ w).alloc (Nat.le_refl _) _).alloc (by simp) _
 have hsz : ((w.alloc (.cells #[.string ⟨#[]⟩] 9)).alloc (.cells #[.slice A rs.length c] 41)).heap.size = w.heap.size + 2 := by simp
 obtain ⟨W0, hW0⟩ : ∃ W0, (w.alloc (.cells #[.string ⟨#[]⟩] 9)).alloc (.cells #[.slice A rs.length c] 41) = W0 := ⟨_, rfl⟩
 rw [hW0] at bO bB hB0 hsz ⊢
 clear hW0
 refine wpIn_rangeFunc_ownH hro h1 (gf := 345) (lb := #[.pointer (some ⟨w.heap.size + 1, 0, none⟩)]) rfl h3 (enters_of Tryz.func345 (by kernel_rfl) rfl)
   (back_stops F (n - 1) h3 hro (by omega) (w.heap.size + 1) A c rs zr w hr W0 hB0 bB) (fun a b => BackK.t a b) (BackK.b (by omega)) (Below.refl _ _) (fun _ => rfl)
   (fun pre W => (Boxed W w.heap.size 9 (.string (keyW pre)) ∧ Boxed W (w.heap.size + 1) 41 (.slice A rs.length c)) ∧ Below w.heap.size w W)
   (fun _ _ _ => False)
   (OwnFrom.and (OwnFrom.and (Own.from (boxed_own _ _ _) _) (Own.from (boxed_own _ _ _) _)) (ownFrom_below (Nat.le_refl _) (by omega)))
   (fun _ _ _ _ _ hs _ _ => hs)
   ⟨⟨bO, bB⟩, hB0⟩
   (fun x a' W => ∃ Bx, w.heap.size + 1 < Bx ∧ W.heap[Bx]? = some (.cells #[.string x.2.1.f0, .string x.2.1.f1] 151 (0, 0)) ∧ a' = { tmps := #[.slice A rs.length c, undef, .string ⟨#[]⟩, .pointer (some ⟨w.heap.size, 0, none⟩), undef, .pointer (some ⟨Bx, 0, none⟩), .slice A rs.length c, .func (.func 345) #[] #[.pointer (some ⟨w.heap.size + 1, 0, none⟩)], .int .i64 (x.1 : Int), .agg #[.string x.2.1.f0, .string x.2.1.f1], undef, undef, undef, undef, undef, undef, undef, undef, undef, undef, undef], defers := [] })
   (fun x a' _ X Y row hs hg hr => by
     obtain ⟨Bx, h1, h2, h3⟩ := hs
     refine ⟨Bx, h1, (hg.block Bx (Array.getElem?_eq_some_iff.1 h2).1 (fun e => ?_)).trans h2, h3⟩
     obtain ⟨_, o, ho, hc⟩ := hr Bx e.symm
     rw [h2] at ho; cases ho; cases hc)
   ?assign ?body ?done ?stop
 case assign =>
   rintro l pre x W K ⟨⟨bO1, bB1⟩, hB1⟩ hK
   unfold backEnc
   gi_wp2
   have hlt := bB1.lt
   exact hK _ _ ((KeepsOthers.alloc _ _).from _) ⟨(Below.refl _ W).alloc hB1.size _, fun t v h => h.alloc _⟩ ⟨⟨bO1.alloc _, bB1.alloc _⟩, hB1.alloc hB1.size _⟩ ⟨W.heap.size, hlt, World.alloc_heap_new W _, rfl⟩
 case body =>
   rintro l pre x a' W hl ⟨r, hr⟩ ⟨⟨bO1, bB1⟩, hB1⟩ ⟨Bx, hBx, bX, rfl⟩ hlt
   have c0 := bO1.cell
   have z0 := bO1.frozen
   have f0 : W.cell? ⟨Bx, 0, none⟩ = some (.string x.2.1.f0) := by simp [World.cell?, bX]
   have f1 : W.cell? ⟨Bx, 1, none⟩ = some (.string x.2.1.f1) := by simp [World.cell?, bX]
   have hN := fun w => hNorm l (n - 1 - 1 - 1) x.2.1.f1 w (by omega)
   have o1 := x.2.2.1
   have o2 := x.2.2.2
   have o3 := keyW_size pre
   have o4 := partB_size x.2
   have q1 : (9223372036854775807 < 1 + x.2.1.f0.size) = False := eq_false (by omega)
   have q2 : (9223372036854775807 < ((⟨#[1]⟩ : ByteArray) ++ x.2.1.f0).size + 1) = False := eq_false (by have e1 : (⟨#[1]⟩ : ByteArray).size = 1 := rfl; rw [ByteArray.size_append]; omega)
   have q3 : (9223372036854775807 < (((⟨#[1]⟩ : ByteArray) ++ x.2.1.f0) ++ (⟨#[61]⟩ : ByteArray)).size + (normB x.2.1.f1).size) = False := eq_false (by have e1 : (⟨#[1]⟩ : ByteArray).size = 1 := rfl; have e2 : (⟨#[61]⟩ : ByteArray).size = 1 := rfl; rw [ByteArray.size_append, ByteArray.size_append]; omega)
   have q4 : (9223372036854775807 < (keyW pre).size + ((((⟨#[1]⟩ : ByteArray) ++ x.2.1.f0) ++ (⟨#[61]⟩ : ByteArray)) ++ normB x.2.1.f1).size) = False := eq_false (by unfold partB at o4; omega)
   clear o1 o2 o3 o4
   have key : ∀ (a : Act) (w' : World), Below W.drew.heap.size W.drew w' → Boxed w' w.heap.size 9 (.string (keyW pre)) →
       KeepsFrom W0.heap.size W (w'.setCell ⟨w.heap.size, 0, none⟩ (.string (keyW pre ++ ((((⟨#[1]⟩ : ByteArray) ++ x.2.1.f0) ++ (⟨#[61]⟩ : ByteArray)) ++ normB x.2.1.f1)))) ∧
       BackK w.heap.size (w.heap.size + 1) W (w'.setCell ⟨w.heap.size, 0, none⟩ (.string (keyW pre ++ ((((⟨#[1]⟩ : ByteArray) ++ x.2.1.f0) ++ (⟨#[61]⟩ : ByteArray)) ++ normB x.2.1.f1)))) ∧
       ((Boxed (w'.setCell ⟨w.heap.size, 0, none⟩ (.string (keyW pre ++ ((((⟨#[1]⟩ : ByteArray) ++ x.2.1.f0) ++ (⟨#[61]⟩ : ByteArray)) ++ normB x.2.1.f1)))) w.heap.size 9 (.string (keyW (pre ++ [x]))) ∧ Boxed (w'.setCell ⟨w.heap.size, 0, none⟩ (.string (keyW pre ++ ((((⟨#[1]⟩ : ByteArray) ++ x.2.1.f0) ++ (⟨#[61]⟩ : ByteArray)) ++ normB x.2.1.f1)))) (w.heap.size + 1) 41 (.slice A rs.length c)) ∧ Below w.heap.size w (w'.setCell ⟨w.heap.size, 0, none⟩ (.string (keyW pre ++ ((((⟨#[1]⟩ : ByteArray) ++ x.2.1.f0) ++ (⟨#[61]⟩ : ByteArray)) ++ normB x.2.1.f1))))) := by
     intro a w' hb' bO2
     have h2 : Below W.heap.size W w' := ⟨hb'.os, hb'.tape, hb'.output, hb'.size, hb'.block⟩
     have hle : w.heap.size ≤ W.heap.size := hB1.size
     have h3 : Below w.heap.size W (w'.setCell ⟨w.heap.size, 0, none⟩ (.string (keyW pre ++ ((((⟨#[1]⟩ : ByteArray) ++ x.2.1.f0) ++ (⟨#[61]⟩ : ByteArray)) ++ normB x.2.1.f1)))) := (h2.mono hle).setCell (Nat.le_refl _) _
     have hk : KeepsOthers W w' := ⟨h2.size, fun k o hk _ => (h2.block k (Array.getElem?_eq_some_iff.1 hk).1).trans hk⟩
     have hbx : ∀ (t : TypeId) (v u : Value), Boxed W (w.heap.size + 1) t v → Boxed (w'.setCell ⟨w.heap.size, 0, none⟩ u) (w.heap.size + 1) t v := fun t v u h => (show Boxed w' (w.heap.size + 1) t v from (h2.block _ h.lt).trans h).kept (grownBy_setCell' w' w.heap.size u) (by simp)
     refine ⟨(hk.trans (KeepsOthers.setCell _ _ _)).from _, ⟨h3, fun t v h => hbx t v _ h⟩, ⟨?_, hbx _ _ _ bB1⟩, hB1.trans h3⟩
     rw [keyW_snoc]
     exact bO2.set _
   have hd : 1 ≤ n - 1 - 1 := by omega
   have hmx : Tryz.prog.follows .mixedOrders = true := by kernel_rfl
   gi_wp2
   refine wpIn_region_any hmx ?_
   change wpAnyIn _ _ _ _ _ _ _ _ _ (World.drew _)
   have hB0 : (Below W.drew.heap.size W.drew W.drew ∧ Boxed W.drew w.heap.size 9 (.string (keyW pre)) ∧ W.drew.heap[Bx]? = some (.cells #[.string x.2.1.f0, .string x.2.1.f1] 151 (0, 0))) := ⟨Below.refl _ _, bO1, bX⟩
   refine wpAnyIn_inv (Inv := fun li a V => ∃ b0 b1 b2 b3 b4 b5 b6 b7 b8 b9 b10 : Bool, li = #[b0, b1, b2, b3, b4, b5, b6, b7, b8, b9, b10] ∧ a = { tmps := #[.slice A rs.length c, undef, .string ⟨#[]⟩, .pointer (some ⟨w.heap.size, 0, none⟩), undef, .pointer (some ⟨Bx, 0, none⟩), .slice A rs.length c, .func (.func 345) #[] #[.pointer (some ⟨w.heap.size + 1, 0, none⟩)], .int .i64 (x.1 : Int), .agg #[.string x.2.1.f0, .string x.2.1.f1], (if b0 = true then (.string (keyW pre) : Value) else undef), (if b1 = true then (.pointer (some ⟨Bx, 0, none⟩) : Value) else undef), (if b2 = true then (.string x.2.1.f0 : Value) else undef), (if b3 = true then (.string ((⟨#[1]⟩ : ByteArray) ++ x.2.1.f0) : Value) else undef), (if b4 = true then (.string (((⟨#[1]⟩ : ByteArray) ++ x.2.1.f0) ++ (⟨#[61]⟩ : ByteArray)) : Value) else undef), (if b5 = true then (.pointer (some ⟨Bx, 1, none⟩) : Value) else undef), (if b6 = true then (.string x.2.1.f1 : Value) else undef), (if b7 = true then (.string (normB x.2.1.f1) : Value) else undef), (if b8 = true then (.string ((((⟨#[1]⟩ : ByteArray) ++ x.2.1.f0) ++ (⟨#[61]⟩ : ByteArray)) ++ normB x.2.1.f1) : Value) else undef), (if b9 = true then (.string (keyW pre ++ ((((⟨#[1]⟩ : ByteArray) ++ x.2.1.f0) ++ (⟨#[61]⟩ : ByteArray)) ++ normB x.2.1.f1)) : Value) else undef), undef], defers := [] } ∧ (b10 = true → (b0 && b1 && b2 && b3 && b4 && b5 && b6 && b7 && b8 && b9) = true) ∧ ∃ V', (Below W.drew.heap.size W.drew V' ∧ Boxed V' w.heap.size 9 (.string (keyW pre)) ∧ V'.heap[Bx]? = some (.cells #[.string x.2.1.f0, .string x.2.1.f1] 151 (0, 0))) ∧ V = if b10 = true then V'.setCell ⟨w.heap.size, 0, none⟩ (.string (keyW pre ++ ((((⟨#[1]⟩ : ByteArray) ++ x.2.1.f0) ++ (⟨#[61]⟩ : ByteArray)) ++ normB x.2.1.f1))) else V') ?_ ?_ _ _ _ _ ?_ ?_
   · rintro li a V ⟨b0, b1, b2, b3, b4, b5, b6, b7, b8, b9, b10, rfl, rfl, hcl, V', ⟨hb', bO2, bX2⟩, rfl⟩ hr
     have hno : ∀ j, ¬ j ∈ Region.ready _ _ _ := fun j hj => by rw [hr] at hj; cases hj
     have n0 : b0 = true := by
       by_cases h : b0 = true
       · exact h
       · exact (hno 0 (mem_ready.2 ⟨by simpa using h, _, rfl, by simp [*]⟩)).elim
     have n1 : b1 = true := by
       by_cases h : b1 = true
       · exact h
       · exact (hno 1 (mem_ready.2 ⟨by simpa using h, _, rfl, by simp [*]⟩)).elim
     have n2 : b2 = true := by
       by_cases h : b2 = true
       · exact h
       · exact (hno 2 (mem_ready.2 ⟨by simpa using h, _, rfl, by simp [*]⟩)).elim
     have n3 : b3 = true := by
       by_cases h : b3 = true
       · exact h
       · exact (hno 3 (mem_ready.2 ⟨by simpa using h, _, rfl, by simp [*]⟩)).elim
     have n4 : b4 = true := by
       by_cases h : b4 = true
       · exact h
       · exact (hno 4 (mem_ready.2 ⟨by simpa using h, _, rfl, by simp [*]⟩)).elim
     have n5 : b5 = true := by
       by_cases h : b5 = true
       · exact h
       · exact (hno 5 (mem_ready.2 ⟨by simpa using h, _, rfl, by simp [*]⟩)).elim
     have n6 : b6 = true := by
       by_cases h : b6 = true
       · exact h
       · exact (hno 6 (mem_ready.2 ⟨by simpa using h, _, rfl, by simp [*]⟩)).elim
     have n7 : b7 = true := by
       by_cases h : b7 = true
       · exact h
       · exact (hno 7 (mem_ready.2 ⟨by simpa using h, _, rfl, by simp [*]⟩)).elim
     have n8 : b8 = true := by
       by_cases h : b8 = true
       · exact h
       · exact (hno 8 (mem_ready.2 ⟨by simpa using h, _, rfl, by simp [*]⟩)).elim
     have n9 : b9 = true := by
       by_cases h : b9 = true
       · exact h
       · exact (hno 9 (mem_ready.2 ⟨by simpa using h, _, rfl, by simp [*]⟩)).elim
     have n10 : b10 = true := by
       by_cases h : b10 = true
       · exact h
       · exact (hno 10 (mem_ready.2 ⟨by simpa using h, _, rfl, by simp [*]⟩)).elim
     subst n0 n1 n2 n3 n4 n5 n6 n7 n8 n9 n10
     exact key ⟨#[], []⟩ V' hb' bO2
   · rintro li a V i ⟨b0, b1, b2, b3, b4, b5, b6, b7, b8, b9, b10, rfl, rfl, hcl, V', ⟨hb', bO2, bX2⟩, rfl⟩ hi
     obtain ⟨hun, o, ho, hall⟩ := mem_ready.1 hi
     have hi11 : i < 11 := (Array.getElem?_eq_some_iff.1 ho).1
     have c1 := bO2.cell
     have z1 := bO2.frozen
     have g0 : V'.cell? ⟨Bx, 0, none⟩ = some (.string x.2.1.f0) := by simp [World.cell?, bX2]
     have g1 : V'.cell? ⟨Bx, 1, none⟩ = some (.string x.2.1.f1) := by simp [World.cell?, bX2]
     obtain rfl | rfl | rfl | rfl | rfl | rfl | rfl | rfl | rfl | rfl | rfl : i = 0 ∨ i = 1 ∨ i = 2 ∨ i = 3 ∨ i = 4 ∨ i = 5 ∨ i = 6 ∨ i = 7 ∨ i = 8 ∨ i = 9 ∨ i = 10 := by omega
     · obtain rfl := Option.some.inj ho
       have m0 : b0 = false := hun
       have m10 : b10 = false := by
         cases b10 with
         | false => rfl
         | true => have := hcl rfl; simp [m0] at this
       subst m0 m10 
       clear hall hun hi
       refine wpOpIn_step rfl (fun K hK => ?_)
       go_simp
       exact hK _ _ ⟨true, b1, b2, b3, b4, b5, b6, b7, b8, b9, false, rfl, rfl, (fun h => by cases h), V', ⟨hb', bO2, bX2⟩, rfl⟩
     · obtain rfl := Option.some.inj ho
       have m1 : b1 = false := hun
       have m10 : b10 = false := by
         cases b10 with
         | false => rfl
         | true => have := hcl rfl; simp [m1] at this
       subst m1 m10 
       clear hall hun hi
       refine wpOpIn_step rfl (fun K hK => ?_)
       go_simp
       exact hK _ _ ⟨b0, true, b2, b3, b4, b5, b6, b7, b8, b9, false, rfl, rfl, (fun h => by cases h), V', ⟨hb', bO2, bX2⟩, rfl⟩
     · obtain rfl := Option.some.inj ho
       have m2 : b2 = false := hun
       have m10 : b10 = false := by
         cases b10 with
         | false => rfl
         | true => have := hcl rfl; simp [m2] at this
       have n1 : b1 = true := hall _ (Array.mem_of_getElem? (i := 0) rfl) rfl
       subst m2 m10 n1
       clear hall hun hi
       refine wpOpIn_step rfl (fun K hK => ?_)
       go_simp
       exact hK _ _ ⟨b0, true, true, b3, b4, b5, b6, b7, b8, b9, false, rfl, rfl, (fun h => by cases h), V', ⟨hb', bO2, bX2⟩, rfl⟩
     · obtain rfl := Option.some.inj ho
       have m3 : b3 = false := hun
       have m10 : b10 = false := by
         cases b10 with
         | false => rfl
         | true => have := hcl rfl; simp [m3] at this
       have n2 : b2 = true := hall _ (Array.mem_of_getElem? (i := 0) rfl) rfl
       subst m3 m10 n2
       clear hall hun hi
       refine wpOpIn_step rfl (fun K hK => ?_)
       go_simp
       exact hK _ _ ⟨b0, b1, true, true, b4, b5, b6, b7, b8, b9, false, rfl, rfl, (fun h => by cases h), V', ⟨hb', bO2, bX2⟩, rfl⟩
     · obtain rfl := Option.some.inj ho
       have m4 : b4 = false := hun
       have m10 : b10 = false := by
         cases b10 with
         | false => rfl
         | true => have := hcl rfl; simp [m4] at this
       have n3 : b3 = true := hall _ (Array.mem_of_getElem? (i := 0) rfl) rfl
       subst m4 m10 n3
       clear hall hun hi
       refine wpOpIn_step rfl (fun K hK => ?_)
       go_simp
       exact hK _ _ ⟨b0, b1, b2, true, true, b5, b6, b7, b8, b9, false, rfl, rfl, (fun h => by cases h), V', ⟨hb', bO2, bX2⟩, rfl⟩
     · obtain rfl := Option.some.inj ho
       have m5 : b5 = false := hun
       have m10 : b10 = false := by
         cases b10 with
         | false => rfl
         | true => have := hcl rfl; simp [m5] at this
       subst m5 m10 
       clear hall hun hi
       refine wpOpIn_step rfl (fun K hK => ?_)
       go_simp
       exact hK _ _ ⟨b0, b1, b2, b3, b4, true, b6, b7, b8, b9, false, rfl, rfl, (fun h => by cases h), V', ⟨hb', bO2, bX2⟩, rfl⟩
     · obtain rfl := Option.some.inj ho
       have m6 : b6 = false := hun
       have m10 : b10 = false := by
         cases b10 with
         | false => rfl
         | true => have := hcl rfl; simp [m6] at this
       have n5 : b5 = true := hall _ (Array.mem_of_getElem? (i := 0) rfl) rfl
       subst m6 m10 n5
       clear hall hun hi
       refine wpOpIn_step rfl (fun K hK => ?_)
       go_simp
       exact hK _ _ ⟨b0, b1, b2, b3, b4, true, true, b7, b8, b9, false, rfl, rfl, (fun h => by cases h), V', ⟨hb', bO2, bX2⟩, rfl⟩
     · obtain rfl := Option.some.inj ho
       have m7 : b7 = false := hun
       have m10 : b10 = false := by
         cases b10 with
         | false => rfl
         | true => have := hcl rfl; simp [m7] at this
       have n6 : b6 = true := hall _ (Array.mem_of_getElem? (i := 0) rfl) rfl
       subst m7 m10 n6
       clear hall hun hi
       refine wpOpIn_step rfl (fun K hK => ?_)
       go_simp
       refine (hN V').mono ?_
       rintro e w' ⟨rfl, hb2⟩
       have hb'' : Below W.drew.heap.size W.drew w' := hb'.trans (hb2.mono hb'.size)
       have bO3 : Boxed w' w.heap.size 9 (.string (keyW pre)) := (hb2.block w.heap.size bO2.lt).trans bO2
       have bX3 : w'.heap[Bx]? = some (.cells #[.string x.2.1.f0, .string x.2.1.f1] 151 (0, 0)) := (hb2.block Bx (Array.getElem?_eq_some_iff.1 bX2).1).trans bX2
       exact hK _ _ ⟨b0, b1, b2, b3, b4, b5, true, true, b8, b9, false, rfl, rfl, (fun h => by cases h), w', ⟨hb'', bO3, bX3⟩, rfl⟩
     · obtain rfl := Option.some.inj ho
       have m8 : b8 = false := hun
       have m10 : b10 = false := by
         cases b10 with
         | false => rfl
         | true => have := hcl rfl; simp [m8] at this
       have n4 : b4 = true := hall _ (Array.mem_of_getElem? (i := 0) rfl) rfl
       have n7 : b7 = true := hall _ (Array.mem_of_getElem? (i := 1) rfl) rfl
       subst m8 m10 n4 n7
       clear hall hun hi
       refine wpOpIn_step rfl (fun K hK => ?_)
       go_simp
       exact hK _ _ ⟨b0, b1, b2, b3, true, b5, b6, true, true, b9, false, rfl, rfl, (fun h => by cases h), V', ⟨hb', bO2, bX2⟩, rfl⟩
     · obtain rfl := Option.some.inj ho
       have m9 : b9 = false := hun
       have m10 : b10 = false := by
         cases b10 with
         | false => rfl
         | true => have := hcl rfl; simp [m9] at this
       have n0 : b0 = true := hall _ (Array.mem_of_getElem? (i := 0) rfl) rfl
       have n8 : b8 = true := hall _ (Array.mem_of_getElem? (i := 1) rfl) rfl
       subst m9 m10 n0 n8
       clear hall hun hi
       refine wpOpIn_step rfl (fun K hK => ?_)
       go_simp
       exact hK _ _ ⟨true, b1, b2, b3, b4, b5, b6, b7, true, true, false, rfl, rfl, (fun h => by cases h), V', ⟨hb', bO2, bX2⟩, rfl⟩
     · obtain rfl := Option.some.inj ho
       have m10 : b10 = false := hun
       have n9 : b9 = true := hall _ (Array.mem_of_getElem? (i := 0) rfl) rfl
       have n7 : b7 = true := hall _ (Array.mem_of_getElem? (i := 1) rfl) rfl
       have n0 : b0 = true := hall _ (Array.mem_of_getElem? (i := 2) rfl) rfl
       have n1 : b1 = true := hall _ (Array.mem_of_getElem? (i := 3) rfl) rfl
       have n2 : b2 = true := hall _ (Array.mem_of_getElem? (i := 4) rfl) rfl
       have n3 : b3 = true := hall _ (Array.mem_of_getElem? (i := 5) rfl) rfl
       have n4 : b4 = true := hall _ (Array.mem_of_getElem? (i := 6) rfl) rfl
       have n5 : b5 = true := hall _ (Array.mem_of_getElem? (i := 7) rfl) rfl
       have n6 : b6 = true := hall _ (Array.mem_of_getElem? (i := 8) rfl) rfl
       have n8 : b8 = true := hall _ (Array.mem_of_getElem? (i := 10) rfl) rfl
       subst m10 n9 n7 n0 n1 n2 n3 n4 n5 n6 n8
       clear hall hun hi
       refine wpOpIn_step rfl (fun K hK => ?_)
       go_simp
       exact hK _ _ ⟨true, true, true, true, true, true, true, true, true, true, true, rfl, rfl, (fun _ => rfl), V', ⟨hb', bO2, bX2⟩, rfl⟩
   · simp
   · exact ⟨false, false, false, false, false, false, false, false, false, false, false, rfl, rfl, (fun h => by cases h), W.drew, hB0, rfl⟩
 case done =>
   rintro D ys W hD rfl ⟨⟨hc, _⟩, hB⟩ hK
   have hcell := hc.cell
   gi_wp2
   refine ⟨by simp, .inl ⟨_, _, rfl, run_takeDeferred hK, ?_⟩⟩
   exact ⟨_, results_tmp rfl _ _ _, rfl, hB.trans (belowK_b (w := w) (Nat.le_refl _) W D _ _ (by omega) hK rfl rfl)⟩
 case stop =>
   rintro D c pre W _ _ h _
   exact h.elim
end Go.Proofs.YtmkpgddfoaglpaaGreatDoor.PG
