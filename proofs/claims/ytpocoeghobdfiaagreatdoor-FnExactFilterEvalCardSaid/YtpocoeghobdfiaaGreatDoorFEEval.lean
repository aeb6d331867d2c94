/-
  The walk of the program's eval, by induction on the rounds that the plain function needs. Condition: the entry's names rise.
-/
import Derived.Deep.RegionHeld3
import Derived.Test.YtpocoeghobdfiaaGreatDoorFEP3
import Derived.Test.YtpocoeghobdfiaaGreatDoorFEEvalN
namespace Go.Proofs.YtpocoeghobdfiaaGreatDoor.PG
open Go.RowKit Go.Proofs.YtpocoeghobdfiaaGreatDoorW.PrintWords Go.Proofs.YtpocoeghobdfiaaGreatDoorW.PrintLast Go.Proofs.YtpocoeghobdfiaaGreatDoorW.PrintMore Go.Proofs.YtpocoeghobdfiaaGreatDoor.Gn Go.Proofs.YtpocoeghobdfiaaGreatDoor.Sem
attribute [local go_sem] max2_int min2_int max_two min_two max_three min_three max_four min_four World.cell?_drew World.frozen?_drew
set_option linter.unusedVariables false
set_option linter.unusedSimpArgs false

def notI (n : Int) : Int := if n = 0 then 1 else if n = 1 then 0 else 2
def hasI (vs : List Int) (x : Int) : Bool := vs.any fun y => y == x
/-- What a node of an operation says, of what its operands say. -/
def combI (op : Int) (vs : List Int) : Int := if op = 3 then notI (vs.headD 0) else if op = 2 then (if hasI vs 1 then 1 else if hasI vs 2 then 2 else 0) else (if hasI vs 0 then 0 else if hasI vs 2 then 2 else 1)
mutual
def evF (nv : S87 → Int) : Nat → List S87 → Option (Int × List S87)
  | 0, _ => none
  | _ + 1, [] => none
  | k + 1, n :: r => if n.f0 > 8 ∨ n.f0 < 1 then none else if n.f0 > 3 then some (nv n, r) else if n.f3 < 1 ∨ n.f3 > 20 ∨ (n.f0 = 3 ∧ n.f3 ≠ 1) then none else (evM nv k n.f3.toNat r).map fun p => (combI n.f0 p.1, p.2)
def evM (nv : S87 → Int) : Nat → Nat → List S87 → Option (List Int × List S87)
  | _, 0, r => some ([], r)
  | 0, _ + 1, _ => none
  | k + 1, m + 1, r => (evF nv k r).bind fun p => (evM nv k m p.2).map fun q => (p.1 :: q.1, q.2)
end
def RetEval (W0 W : World) (v : Int) (rest : List S87) (e : Ending) (w' : World) : Prop := ∃ A c, e = .returned (.tuple #[.int .i64 v, .slice A rest.length c]) ∧ rest.length ≤ c ∧ Kd.C k87 W0 A rest.length rest ∧ Below W.heap.size W w'
theorem node_at {W : World} {A : Option Addr} {n : S87} {r : List S87} (hr : Kd.C k87 W A (n :: r).length (n :: r)) : ∃ ad, A = some ad ∧ W.cell? ad = some (.int .i64 n.f0) ∧ W.cell? ⟨ad.block, ad.off + 1, none⟩ = some (.string n.f1) ∧ W.cell? ⟨ad.block, ad.off + 2, none⟩ = some (.string n.f2) ∧ W.cell? ⟨ad.block, ad.off + 3, none⟩ = some (.int .i64 n.f3) := by
  have := at_T87 hr 0 (by omega) (by simp)
  simp only [show rd_T87 (n :: r) 0 = n from rfl, show (0 : Int).toNat * 4 = 0 from rfl, show ∀ ad : Addr, ad.add 0 = ad from fun ad => rfl] at this
  exact this
theorem not_calls (n : Int) (W : World) : Calls Tryz.prog 87 #[.int .i64 n] W fun e w' => e = .returned (.int .i64 (notI n)) ∧ Below W.heap.size W w' := by
  refine (impl_Not.calls n (notI n) W (by unfold impl_Not.f notI; split <;> (try split) <;> rfl)).mono ?_
  rintro e w' ⟨rfl, ⟨k, rfl⟩⟩
  exact ⟨rfl, pw_below_drewN (Below.refl _ _) k⟩
theorem has_int (l : List Int) (x : Int) (hl : l.length ≤ 9223372036854775807) : Ev (fun k => slices_Contains_int64.f k l x) (hasI l x) := by
  unfold slices_Contains_int64.f slices_Index_int64.f hasI
  rw [← idx_any]
  refine Ev_bind (a := idx (fun y : Int => y == x) l) ?_ (Ev.now _)
  have key : ∀ (m i : Nat), i + m = l.length → (∀ j (hj : j < l.length), j < i → ((l[j]'hj) == x) = false) → Ev (fun k => slices_Index_int64.l0 k l x (l.length : Int) (i : Int)) (idx (fun y : Int => y == x) l) := by
    intro m
    induction m with
    | zero =>
      intro i hi hb
      rw [idx_none (fun j hj _ => hb j hj (by omega))]
      exact Ev_one fun k => by simp only [slices_Index_int64.l0]; rw [if_neg (by omega)]
    | succ m ih =>
      intro i hi hb
      have hlt : i < l.length := by omega
      have e0 : wrap64 ((i : Int) + 1) = ((i + 1 : Nat) : Int) := by rw [wsucc (by omega) (by omega)]; omega
      have er : rd l (i : Int) = l[i]'hlt := by
        unfold rd
        rw [Int.toNat_natCast, getD_at hlt]
      refine Ev.step (fun k => by simp only [slices_Index_int64.l0]; rw [if_pos (by omega), if_pos (by omega), if_pos (by omega), e0, er]) ?_
      by_cases h : x = (l[i]'hlt)
      · rw [idx_hit (p := fun y : Int => y == x) hlt (by simp [h]) hb]
        exact Ev_some fun k => by rw [if_pos h]
      · refine Ev.congr (fun k => by rw [if_neg h]) (ih (i + 1) (by omega) (fun j hj hji => ?_))
        rcases Nat.lt_succ_iff_lt_or_eq.1 hji with h1 | rfl
        · exact hb j hj h1
        · simpa using fun e => h e.symm
  exact key l.length 0 (by omega) (fun j hj h => absurd h (Nat.not_lt_zero _))
theorem has_int_calls (A : Option Addr) (c : Nat) (l : List Int) (x : Int) (W : World) (hr : Kd.C (Kd.int .i64) W A l.length l) (hc : l.length ≤ c) :
    Calls Tryz.prog 88 #[.slice A l.length c, .int .i64 x] W fun e w' => e = .returned (.bool (hasI l x)) ∧ Below W.heap.size W w' := by
  obtain ⟨k, hk⟩ := (has_int l x (Kd.C_max hr)).rounds
  refine (slices_Contains_int64.calls k A c l x _ W hr hc hk).mono ?_
  rintro e w' ⟨rfl, ⟨n, rfl⟩⟩
  exact ⟨rfl, pw_below_drewN (Below.refl _ _) n⟩
theorem infoI : (Tryz.prog.info? 2).map (fun i => (i.zero, i.size, i.bytes)) = some (some (.int .i64 0), 1, 8) := by kernel_rfl
theorem R_empty {α : Type} (d : Kd α) (e : Nat) (w : World) : Kd.R d e (w.alloc (.cells #[] e)) w.heap.size (fun _ => True) (.slice (some ⟨w.heap.size, 0, none⟩) 0 0) [] := by
  refine ⟨fun _ _ => trivial, [], ?_, Reps.none _ _⟩
  have h := World.ownsRow_lit (base := w.heap.size) (e := e) (size := d.sz) w #[] 0 (Nat.le_refl _) (by decide) (by simp)
  simpa using h
set_option maxHeartbeats 8000000 in
set_option maxRecDepth 100000 in
theorem eval_calls (W0 : World) (g : Nat) (A0 : Option Addr) (n0 c0 : Nat) (A1 : Option Addr) (c1 : Nat) (l : List S115) (Ak : Option Addr) (ck : Nat) (known : List ByteArray)
    (he : EntAt W0 g A0 n0 c0 A1 c1 l) (hs : Rises l) (hk : Kd.C Kd.string W0 Ak known.length known) (hck : known.length ≤ ck) : ∀ (K k : Nat) (hkK : k ≤ K) (f : List S87) (v : Int) (rest : List S87), evF (nodeV known l) k f = some (v, rest) →
    ∀ (A : Option Addr) (c : Nat) (W : World), Kd.C k87 W0 A f.length f → f.length ≤ c → Below W0.heap.size W0 W →
    Calls Tryz.prog 53 #[.slice A f.length c, .pointer (some ⟨g, 0, none⟩), .slice Ak known.length ck] W (RetEval W0 W v rest) := by
  have HN := Aside0.mk (fun (x : S87) (W : World) (hb : Below W0.heap.size W0 W) => evalNode_calls x g A0 n0 c0 A1 c1 l Ak ck known W (he.below hb) hs (Kd.C_below hk hb) hck)
  clear he hs hk hck
  intro K
  induction K with
  | zero =>
    intro k hkK f v rest h
    obtain rfl : k = 0 := by omega
    simp [evF] at h
  | succ K ih =>
    intro k hkK f v rest h A c W hr hc hb
    cases k with
    | zero => simp [evF] at h
    | succ k =>
    cases f with
    | nil => simp [evF] at h
    | cons n r =>
      obtain ⟨ad, rfl, f0, f1, f2, f3⟩ := node_at hr
      have f0 := pw_cell_below hb f0
      have f1 := pw_cell_below hb f1
      have f2 := pw_cell_below hb f2
      have f3 := pw_cell_below hb f3
      have e0 : ad.block < W.heap.size := World.block_lt_of_cell? W _ f0
      have e1 : ad.block ≠ W.heap.size := Nat.ne_of_lt e0
      have hdrop := Kd.C_drop (m := 1) hr (by simp) hc
      have HD := Aside0.mk hdrop
      have hmx := Kd.C_max hr
      have hle : (1 : Int) ≤ (r.length : Int) + 1 := by omega
      have ha := World.new_ne W ad f0
      have ha1 := World.new_ne W _ f1
      have ha2 := World.new_ne W _ f2
      have ha3 := World.new_ne W _ f3
      have HB := Aside0.mk hb
      have hlen : (n :: r).length = r.length + 1 := rfl
      have HCC := Aside0.mk hc
      obtain ⟨op, attr, value, many⟩ := n
      simp only [evF] at h
      by_cases hbad : op > 8 ∨ op < 1
      · rw [if_pos hbad] at h
        cases h
      rw [if_neg hbad] at h
      clear hbad
      have key : (c = 1 ∧ r.length ≤ 0 ∧ Kd.C k87 W0 (some ad) r.length r) ∨ (c ≠ 1 ∧ r.length ≤ c - 1 ∧ Kd.C k87 W0 (some (ad.add 4)) r.length r) := by
        by_cases hc1 : c = 1
        · rw [if_pos hc1] at hdrop
          exact .inl ⟨hc1, by omega, hdrop⟩
        · rw [if_neg hc1] at hdrop
          exact .inr ⟨hc1, by omega, hdrop⟩
      by_cases hop : op > 3
      · have hd : decide (op > 3) = true := decide_eq_true hop
        obtain ⟨rfl, rfl⟩ : nodeV known l ⟨op, attr, value, many⟩ = v ∧ r = rest := by
          rw [if_pos hop] at h
          simpa using h
        have hcon := HN.out ⟨op, attr, value, many⟩
        generalize nodeV known l ⟨op, attr, value, many⟩ = nv at hcon ⊢
        have HCON := Aside0.mk hcon
        clear hcon h hop hr hdrop hb hc ih
        obtain ⟨W1, hW1⟩ : ∃ W1, (W.alloc (.cells #[.int .i64 op, .string attr, .string value, .int .i64 many] 87)).drew = W1 := ⟨_, rfl⟩
        have hB1 : Below W.heap.size W W1 := by rw [← hW1]; exact below_drew (below_alloc (Below.refl _ _) _)
        have hN1 : W1.heap[W.heap.size]? = some (.cells #[.int .i64 op, .string attr, .string value, .int .i64 many] 87 (0, 0)) := by rw [← hW1]; exact heap_alloc_new W _
        have k0 := cell_blk (j := 0) hN1 rfl
        have k1 := cell_blk (j := 1) hN1 rfl
        have k2 := cell_blk (j := 2) hN1 rfl
        have k3 := cell_blk (j := 3) hN1 rfl
        have q0 := pw_cell_below hB1 f0
        have q1 := pw_cell_below hB1 f1
        have q2 := pw_cell_below hB1 f2
        have q3 := pw_cell_below hB1 f3
        have HB1 := Aside0.mk hB1
        have HC1 := Aside0.mk (HCON.out W1 (below_step HB.out hB1))
        clear hN1 hB1 HCON
        rcases key with ⟨rfl, hkey⟩ | ⟨hc1, hkey⟩
        all_goals
          have HK := Aside0.mk hkey
          clear hkey HD HCC
          go_enter Tryz.func53, Tryz.ntmps53
          go_wp2
          go_region_held3 (fun w' => w'.cell? ad = some (.int .i64 op) ∧ w'.cell? ⟨ad.block, ad.off + 1, none⟩ = some (.string attr) ∧ w'.cell? ⟨ad.block, ad.off + 2, none⟩ = some (.string value) ∧ w'.cell? ⟨ad.block, ad.off + 3, none⟩ = some (.int .i64 many)) (go_keep) (fail)
          go_wp2_with (go_at_call 86; refine HC1.out.mono ?_; rintro e w2 ⟨rfl, hb2⟩)
          go_ret2
          exact ⟨_, _, rfl, HK.out.1, HK.out.2, below_step HB1.out hb2⟩
      · have hd : decide (op > 3) = false := decide_eq_false hop
        rw [if_neg hop] at h
        by_cases hmany : many < 1 ∨ many > 20 ∨ (op = 3 ∧ many ≠ 1)
        · rw [if_pos hmany] at h
          cases h
        rw [if_neg hmany] at h
        obtain ⟨⟨vsA, restA⟩, hm0, hm1⟩ := Option.map_eq_some_iff.1 h
        simp only [Prod.mk.injEq] at hm1
        obtain ⟨rfl, rfl⟩ := hm1
        have hmb : 1 ≤ many ∧ many ≤ 20 := by omega
        have HM0 := Aside0.mk hm0
        have HMB := Aside0.mk hmb
        obtain ⟨mm, hmm⟩ : ∃ mm : Nat, many = (mm : Int) := ⟨many.toNat, by omega⟩
        subst hmm
        rw [Int.toNat_natCast] at HM0
        obtain ⟨cv, hcv⟩ : ∃ cv, combI op vsA = cv := ⟨_, rfl⟩
        rw [hcv]
        have HCV := Aside0.mk hcv
        clear hcv h hm0 hmb hop hmany hr hdrop hb hc HD HCC
        obtain ⟨W1, hW1⟩ : ∃ W1, (W.alloc (.cells #[.int .i64 op, .string attr, .string value, .int .i64 mm] 87)).drew = W1 := ⟨_, rfl⟩
        have hB1 : Below W.heap.size W W1 := by rw [← hW1]; exact below_drew (below_alloc (Below.refl _ _) _)
        have hN1 : W1.heap[W.heap.size]? = some (.cells #[.int .i64 op, .string attr, .string value, .int .i64 mm] 87 (0, 0)) := by rw [← hW1]; exact heap_alloc_new W _
        have k0 := cell_blk (j := 0) hN1 rfl
        have k3 := cell_blk (j := 3) hN1 rfl
        have q0 := pw_cell_below hB1 f0
        have q1 := pw_cell_below hB1 f1
        have q2 := pw_cell_below hB1 f2
        have q3 := pw_cell_below hB1 f3
        have HB1 := Aside0.mk hB1
        have IH := Aside0.mk ih
        obtain ⟨W2, hW2⟩ : ∃ W2, W1.alloc (.cells #[] 2) = W2 := ⟨_, rfl⟩
        have hB2 : Below W1.heap.size W1 W2 := by rw [← hW2]; exact below_alloc (Below.refl _ _) _
        have HR2 : Aside0 (Kd.R (Kd.int .i64) 2 W2 W1.heap.size (fun _ => True) (.slice (some ⟨W1.heap.size, 0, none⟩) 0 0) []) := ⟨by rw [← hW2]; exact R_empty _ _ _⟩
        have j0 := pw_cell_below hB2 k0
        have j3 := pw_cell_below hB2 k3
        have HB2 := Aside0.mk hB2
        have J0 := Aside0.mk j0
        clear hB2
        clear hN1 hB1 ih
        rcases key with ⟨rfl, hkey⟩ | ⟨hc1, hkey⟩
        all_goals
          have HK := Aside0.mk hkey
          clear hkey
          go_enter Tryz.func53, Tryz.ntmps53
          go_wp2
          go_region_held3 (fun w' => w'.cell? ad = some (.int .i64 op) ∧ w'.cell? ⟨ad.block, ad.off + 1, none⟩ = some (.string attr) ∧ w'.cell? ⟨ad.block, ad.off + 2, none⟩ = some (.string value) ∧ w'.cell? ⟨ad.block, ad.off + 3, none⟩ = some (.int .i64 mm)) (go_keep) (fail)
          have hmm20 : mm ≤ 20 := by have := HMB.out; omega
          go_wp2
          go_loopw [9, 10, 11, 30] (fun s9 s10 s11 s30 wr => ∃ (m k1 : Nat) (vs vs2 : List Int) (rs : List S87) (A' : Option Addr) (c' : Nat), m ≤ mm ∧ s30 = .int .i64 m ∧ s9 = .slice A' rs.length c' ∧ Aside0 (k1 ≤ K ∧ rs.length ≤ c' ∧ Kd.C k87 W0 A' rs.length rs) ∧ Aside0 (vs.length = m ∧ vsA = vs ++ vs2 ∧ evM (nodeV known l) k1 (mm - m) rs = some (vs2, restA)) ∧ Aside0 (Kd.R (Kd.int .i64) 2 wr W1.heap.size (fun _ => True) s10 vs) ∧ Aside0 (Below W1.heap.size W1 wr)) (fun s9 s10 s11 s30 _ => mm - (intOf s30).toNat)
          case atStart => exact ⟨0, k, [], vsA, r, _, _, Nat.zero_le _, rfl, rfl, ⟨⟨by omega, HK.out.1, HK.out.2⟩⟩, ⟨⟨rfl, rfl, by rw [Nat.sub_zero]; exact HM0.out⟩⟩, HR2, HB2⟩
          case round =>
            obtain ⟨m, k1, vs, vs2, rs, A', c', hm, rfl, rfl, HA, HV, HR, HBr⟩ := hrel
            obtain ⟨A7, c7, rfl⟩ := Kd.R_slice HR.out
            by_cases hlt : m < mm
            · obtain ⟨d, hd1⟩ : ∃ d, mm - m = d + 1 := ⟨mm - m - 1, by omega⟩
              have hev := HV.out.2.2
              rw [hd1] at hev
              cases k1 with
              | zero => simp [evM] at hev
              | succ k2 =>
                simp only [evM] at hev
                obtain ⟨⟨v1, r1⟩, hF, hev⟩ := Option.bind_eq_some_iff.1 hev
                obtain ⟨⟨vs3, r3⟩, hM, hev⟩ := Option.map_eq_some_iff.1 hev
                simp only [Prod.mk.injEq] at hev
                obtain ⟨rfl, rfl⟩ := hev
                have hcon := IH.out k2 (by have := HA.out.1; omega) rs v1 r1 hF A' c' _ HA.out.2.2 HA.out.2.1 (below_step HB.out (below_step HB1.out HBr.out))
                have HCON := Aside0.mk hcon
                have HM := Aside0.mk hM
                have HD1 := Aside0.mk hd1
                clear hcon hF hM hd1
                go_wp2_with (first | (go_at_call 53; refine HCON.out.mono ?_; rintro e w5 ⟨A5, c5, rfl, hl5, hC5, hb5⟩; have HC5 := Aside0.mk (And.intro hl5 hC5); clear hl5 hC5) | ((with_reducible refine gate_builtin (b := .append) (xs := #[.tmp 39, .tmp 41]) rfl ?_); at_builtin; refine Kd.R_append (Kd.int .i64) (w0 := W1) W1.heap.size rfl (.tmp 39) (.tmp 41) 133 2 (.int .i64 0) 8 rfl Tryz.underlying133 infoI rfl (by decide) (by omega) _ vs v1 [.int .i64 v1] (fun _ => True) (fun _ => False) rfl rfl ?aP (fun _ hk => hk.elim) ?aF ?aO ?aB ?aS ?aL ?_; (case aP => exact rfl); (case aF => exact fun _ _ => trivial); (case aO => exact Kd.R_below HR.out hb5); (case aB => exact below_step HBr.out hb5); (case aS => exact (below_step HBr.out hb5).size); (case aL => have h1_ := HV.out.1; have h2_ := HMB.out; omega); intro v6 w6 hv6 hb6 hg6 hx6))
                go_roundw
                case rel => exact ⟨m + 1, k2, vs ++ [v1], vs3, r1, A5, c5, by omega, by go_num, rfl, ⟨⟨by have := HA.out.1; omega, HC5.out.1, HC5.out.2⟩⟩, ⟨⟨by rw [List.length_append, HV.out.1]; rfl, by rw [HV.out.2.1]; simp, by rw [show mm - (m + 1) = d by have := HD1.out; omega]; exact HM.out⟩⟩, ⟨hv6⟩, ⟨hb6⟩⟩
                case measure => simp [intOf]; omega
            · obtain rfl : m = mm := by omega
              have hev := HV.out.2.2
              rw [Nat.sub_self, show evM (nodeV known l) k1 0 rs = some ([], rs) by cases k1 <;> simp [evM]] at hev
              simp only [Option.some.injEq, Prod.mk.injEq] at hev
              obtain ⟨rfl, rfl⟩ := hev
              obtain rfl : vsA = vs := by rw [HV.out.2.1, List.append_nil]
              obtain ⟨A8, c8, he8, hl8, hC8⟩ := Kd.R_reads HR.out
              injection he8 with e81 e82 e83
              subst e81 e83
              have h0 := pw_cell_below HBr.out k0
              have HCONT := Aside0.mk (fun (x : Int) (W' : World) (hb : Below wr.heap.size wr W') => has_int_calls A7 c7 vsA x W' (Kd.C_below hC8 hb) hl8)
              have HBW := Aside0.mk (below_step HB1.out HBr.out)
              have HRest := Aside0.mk (And.intro HA.out.2.1 HA.out.2.2)
              by_cases o3 : op = 3
              · subst o3
                have hvl := HV.out.1
                obtain ⟨y, ys, hys⟩ : ∃ y ys, vsA = y :: ys := by
                  cases vsA with
                  | nil => simp at hvl; have := HMB.out; omega
                  | cons y ys => exact ⟨y, ys, rfl⟩
                obtain ⟨a9, cs9, hA9, hcl9, hK9, hcc9⟩ := Kd.C_get hC8 0 0 (by omega) (by have := HMB.out; omega)
                subst hA9
                have hK9' : cs9 = [.int .i64 y] := by
                  have : cs9 = [.int .i64 (vsA.getD (0 : Int).toNat 0)] := hK9
                  rw [this, hys]
                  rfl
                have g9 : wr.cell? a9 = some (.int .i64 y) := by
                  have := hcc9 0 _ (by rw [hK9']; rfl)
                  exact this
                have hlv : (0 : Int) < (vsA.length : Int) := by have := HMB.out; omega
                have HCV2 : Aside0 (cv = notI y) := ⟨by rw [← HCV.out, hys]; rfl⟩
                clear hcc9 hK9 hK9' hcl9 hys hC8
                go_wp2_with (go_at_call 87; refine (not_calls _ _).mono ?_; rintro e w6 ⟨rfl, hb6⟩)
                go_ret2
                exact ⟨_, _, by rw [HCV2.out]; rfl, HRest.out.1, HRest.out.2, below_step HBW.out hb6⟩
              · have d3 : (op == 3) = false := by simpa using o3
                have HCONX := Aside0.mk (fun (x : Int) (b : Bool) (hx : hasI vsA x = b) (W' : World) (hb : Below wr.heap.size wr W') => (show Calls Tryz.prog 88 #[.slice A7 vsA.length c7, .int .i64 x] W' (fun e w' => e = .returned (.bool b) ∧ Below W'.heap.size W' w') by have h_ := HCONT.out x W' hb; rw [hx] at h_; exact h_))
                by_cases o2 : op = 2
                · subst o2
                  clear o3 d3 hC8
                  cases hb1 : hasI vsA 1 with
                  | true =>
                    have HCV2 : Aside0 (cv = 1) := ⟨by rw [← HCV.out]; simp [combI, hb1]⟩
                    have hcon1 := HCONX.out 1 true hb1 wr (Below.refl _ _)
                    clear hb1
                    go_wp2_with (go_at_call 88; refine hcon1.mono ?_; rintro e w6 ⟨rfl, hb6⟩)
                    go_ret2
                    exact ⟨_, _, by rw [HCV2.out]; rfl, HRest.out.1, HRest.out.2, below_step HBW.out hb6⟩
                  | false =>
                    cases hb2 : hasI vsA 2 with
                    | true =>
                      have HCV2 : Aside0 (cv = 2) := ⟨by rw [← HCV.out]; simp [combI, hb1, hb2]⟩
                      have hcon1 := HCONX.out 1 false hb1 wr (Below.refl _ _)
                      have HCON2 := Aside0.mk (HCONX.out 2 true hb2)
                      clear hb1 hb2
                      go_wp2_with (first | (go_at_call 88; (with_reducible refine hcon1.mono ?_); rintro e w6 ⟨rfl, hb6⟩) | (go_at_call 88; (with_reducible refine (HCON2.out _ hb6).mono ?_); rintro e w7 ⟨rfl, hb7⟩))
                      go_ret2
                      exact ⟨_, _, by rw [HCV2.out]; rfl, HRest.out.1, HRest.out.2, below_step HBW.out (below_step hb6 hb7)⟩
                    | false =>
                      have HCV2 : Aside0 (cv = 0) := ⟨by rw [← HCV.out]; simp [combI, hb1, hb2]⟩
                      have hcon1 := HCONX.out 1 false hb1 wr (Below.refl _ _)
                      have HCON2 := Aside0.mk (HCONX.out 2 false hb2)
                      clear hb1 hb2
                      go_wp2_with (first | (go_at_call 88; (with_reducible refine hcon1.mono ?_); rintro e w6 ⟨rfl, hb6⟩) | (go_at_call 88; (with_reducible refine (HCON2.out _ hb6).mono ?_); rintro e w7 ⟨rfl, hb7⟩))
                      go_ret2
                      exact ⟨_, _, by rw [HCV2.out]; rfl, HRest.out.1, HRest.out.2, below_step HBW.out (below_step hb6 hb7)⟩
                · have d2 : (op == 2) = false := by simpa using o2
                  have HOP := Aside0.mk (And.intro o3 o2)
                  clear o3 o2 hC8
                  cases hb1 : hasI vsA 0 with
                  | true =>
                    have HCV2 : Aside0 (cv = 0) := ⟨by rw [← HCV.out]; simp [combI, hb1, HOP.out.1, HOP.out.2]⟩
                    have hcon1 := HCONX.out 0 true hb1 wr (Below.refl _ _)
                    clear hb1
                    go_wp2_with (go_at_call 88; refine hcon1.mono ?_; rintro e w6 ⟨rfl, hb6⟩)
                    go_ret2
                    exact ⟨_, _, by rw [HCV2.out]; rfl, HRest.out.1, HRest.out.2, below_step HBW.out hb6⟩
                  | false =>
                    cases hb2 : hasI vsA 2 with
                    | true =>
                      have HCV2 : Aside0 (cv = 2) := ⟨by rw [← HCV.out]; simp [combI, hb1, hb2, HOP.out.1, HOP.out.2]⟩
                      have hcon1 := HCONX.out 0 false hb1 wr (Below.refl _ _)
                      have HCON2 := Aside0.mk (HCONX.out 2 true hb2)
                      clear hb1 hb2
                      go_wp2_with (first | (go_at_call 88; (with_reducible refine hcon1.mono ?_); rintro e w6 ⟨rfl, hb6⟩) | (go_at_call 88; (with_reducible refine (HCON2.out _ hb6).mono ?_); rintro e w7 ⟨rfl, hb7⟩))
                      go_ret2
                      exact ⟨_, _, by rw [HCV2.out]; rfl, HRest.out.1, HRest.out.2, below_step HBW.out (below_step hb6 hb7)⟩
                    | false =>
                      have HCV2 : Aside0 (cv = 1) := ⟨by rw [← HCV.out]; simp [combI, hb1, hb2, HOP.out.1, HOP.out.2]⟩
                      have hcon1 := HCONX.out 0 false hb1 wr (Below.refl _ _)
                      have HCON2 := Aside0.mk (HCONX.out 2 false hb2)
                      clear hb1 hb2
                      go_wp2_with (first | (go_at_call 88; (with_reducible refine hcon1.mono ?_); rintro e w6 ⟨rfl, hb6⟩) | (go_at_call 88; (with_reducible refine (HCON2.out _ hb6).mono ?_); rintro e w7 ⟨rfl, hb7⟩))
                      go_ret2
                      exact ⟨_, _, by rw [HCV2.out]; rfl, HRest.out.1, HRest.out.2, below_step HBW.out (below_step hb6 hb7)⟩
end Go.Proofs.YtpocoeghobdfiaaGreatDoor.PG
