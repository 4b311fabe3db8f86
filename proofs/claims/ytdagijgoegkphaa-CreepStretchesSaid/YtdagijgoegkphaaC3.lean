/- The program's own functions that the statements of this seat reach, and what each call of them comes to, for any arguments. -/
import Derived.Test.YtdagijgoegkphaaC2
set_option linter.unusedVariables false
set_option linter.unusedSimpArgs false
namespace Go.Proofs.Ytdagijgoegkphaa.P
open Go.RowKit Go.Proofs.YtdagijgoegkphaaW.PrintWords Go.Proofs.YtdagijgoegkphaaW.PrintLast Go.Proofs.YtdagijgoegkphaaW.PrintMore
open Bool renaming true → tt, false → ff
open List renaming setIfInBounds_toArray → l1, set_cons_zero → l2, set_cons_succ → l3
open Go.Proofs.YtdagijgoegkphaaW.PrintWords renaming blk_drewN → b0, blk_drew → b1, blk_alloc → b2, below_set → b3, blk_cell → b4, blk_below → b5, pw_below_drewN → b6, below_drew1 → b7, below_alloc → b8, blk_frozen → b9, blk_lt → b10, blk_far → b11, below_size → b12, below_step → b13
open Go.Proofs.YtdagijgoegkphaaW.PrintWords.Kd renaming C_alloc → k13, C_drewN → k14, C_drew → k15, C_below → k16
attribute [local go_sem] max2_int min2_int max_two min_two max_three min_three max_four min_four   -- for this text's walks alone
mutual
def tensileref05_Fault.l0 : Nat → List (S81) → Int → List (S54) → Option (Int)
 | 0, _, _, _ => none
 | k + 1, x1, x6, x191000 => if x6 < (x1.length : Int) then (if 0 ≤ x6 then (if (((rd_T81 x1 x6).f0).length : Int) > 8 then (some 3) else (tensileref05_Fault.l0 k x1 (wrap64 (x6 + 1)) x191000)) else (none)) else (tensileref05_Fault.l1 k x1 0 x191000)
def tensileref05_Fault.l1 : Nat → List (S81) → Int → List (S54) → Option (Int)
 | 0, _, _, _ => none
 | k + 1, x1, x7, x191000 => if x7 < (x1.length : Int) then (if 0 ≤ x7 then ((tensileref05_In.f ((rd_T81 x1 x7).f1.f0) 0 ((rd_T81 x1 x7).f1.f1)).bind fun t195 => (if t195 = true then (tensileref05_Fault.j2 k x1 x7 (decide (((rd_T81 x1 x7).f1.f1) > 10000000000)) x191000) else (tensileref05_Fault.j2 k x1 x7 true x191000))) else (none)) else (some 0)
def tensileref05_Fault.j2 : Nat → List (S81) → Int → Bool → List (S54) → Option (Int)
 | 0, _, _, _, _ => none
 | k + 1, x1, x7, x52, x191000 => if x52 = true then (some 1) else (tensileref05_Fault.l2 k x1 x7 0 x191000)
def tensileref05_Fault.l2 : Nat → List (S81) → Int → Int → List (S54) → Option (Int)
 | 0, _, _, _, _ => none
 | k + 1, x1, x7, x9, x191000 => if 0 ≤ x7 then (if x7 < (x1.length : Int) then (if x9 < (((rd_T81 x1 x7).f0).length : Int) then (if 0 ≤ x9 then ((tensileref05_IsSegment.f x191000 ((rd_T56 ((rd_T81 x1 x7).f0) x9).f0) ((rd_T56 ((rd_T81 x1 x7).f0) x9).f1.f0) ((rd_T56 ((rd_T81 x1 x7).f0) x9).f1.f1)).bind fun t199 => (if t199 = true then (tensileref05_Fault.l2 k x1 x7 (wrap64 (x9 + 1)) x191000) else (some 1))) else (none)) else (tensileref05_Fault.l1 k x1 (wrap64 (x7 + 1)) x191000)) else (none)) else (none)
end
def tensileref05_Fault.f (k : Nat) (l0_0 : List (S54)) (l1 : List (S81)) : Option (Int) := (tensileref05_MaterialFault.f k l0_0).bind fun t191 => (if t191 = 0 then (if (l1.length : Int) > 6 then (some 3) else (tensileref05_Fault.l0 k l1 0 l0_0)) else (some t191))
def tensileref05_Fault.T20 : Bool × List (List Nat × List Nat) := (true, [([], []), ([], []), ([], []), ([1, 2], [1, 2]), ([3], [3]), ([4], [4]), ([], []), ([5, 6], [5, 6]), ([7], [7]), ([0, 8], [0, 8]), ([9], [9])])
def tensileref05_Fault.B20 : List Nat := [0, 0, 0, 6, 14, 30, 0, 126, 254, 511, 1023]
theorem tensileref05_Fault.tab20 : rtab .any (opsOf Try.f76 20) = tensileref05_Fault.T20 := by kernel_rfl
theorem tensileref05_Fault.bits20 : waitsOk tensileref05_Fault.T20.2 tensileref05_Fault.B20 = true := by kernel_rfl
set_option maxHeartbeats 8000000 in
set_option maxRecDepth 100000 in
theorem tensileref05_Fault.calls (k : Nat) (A0_0 : Option Addr) (c0_0 : Nat) (l0_0 : List (S54)) (A1 : Option Addr) (c1 : Nat) (l1 : List (S81)) (r : Int) (w : World) (hr0_0 : Kd.C k54 w A0_0 l0_0.length l0_0) (hc0_0 : l0_0.length ≤ c0_0) (hr1 : Kd.C k81 w A1 l1.length l1) (hc1 : l1.length ≤ c1) (h : tensileref05_Fault.f k l0_0 l1 = some r) :
  Calls Try.prog 76 #[.agg #[.slice A0_0 l0_0.length c0_0], .slice A1 l1.length c1] w fun e w' => e = .returned (.int .i64 r) ∧ Below w.heap.size w w' := by
 have hu24 := Try.underlying24
 have hu54 := Try.underlying54
 have hu56 := Try.underlying56
 have HR0_0 := Aside0.mk hr0_0
 have HC0_0 := Aside0.mk hc0_0
 clear hr0_0 hc0_0
 have HR1 := Aside0.mk hr1
 have HC1 := Aside0.mk hc1
 clear hr1 hc1
 have HB := Aside0.mk (Below.refl w.heap.size w)
 have H : ((tensileref05_MaterialFault.f k l0_0).bind fun t191 => (if t191 = 0 then (if (l1.length : Int) > 6 then (some 3) else (tensileref05_Fault.l0 k l1 0 l0_0)) else (some t191))) = some r := h
 clear h
 replace H := Option.bind_eq_some_iff.mp H
 obtain ⟨t191, A30, H⟩ := H
 replace H : (if t191 = 0 then (if (l1.length : Int) > 6 then (some 3) else (tensileref05_Fault.l0 k l1 0 l0_0)) else (some t191)) = some r := H
 have A3 := Aside0.mk A30
 clear A30
 by_cases c4 : t191 = 0
 ·
  rw [if_pos c4] at H
  have c4b0 : (t191 == 0) = true := beq_iff_eq.mpr c4
  have c4b1 : (t191 != 0) = false := bne_eq_false_iff_eq.mpr c4
  clear c4
  by_cases c5 : (l1.length : Int) > 6
  ·
   rw [if_pos c5] at H
   have c5b0 : decide (6 < (l1.length : Int)) = true := decide_eq_true c5
   have c5b1 : decide (6 < l1.length) = true := decide_eq_true (by omega)
   clear c5
   obtain rfl := Option.some.inj H
   go_enter Try.func76, Try.ntmps76
   go_wp2_with (first | ((with_reducible refine gate_dst (N := 2) rfl ?_); refine box_event ?hg (N := 2) ?hd (cs := #[.slice A0_0 l0_0.length c0_0]) (t := 24) ?hr ?_; (case hd => rfl); (case hg => rfl); (case hr => first | (go_simp; done) | (go_simp; rfl)); intro gb190 hg w6 hbox hb; have n0_ := Aside0.mk (b13 (by repeat (first | (with_reducible first | exact HB.out | apply b8 | apply b6 | apply b7) | exact HB.out)) hb); have n1_ := Aside0.mk (hbox); have n2_ := Aside0.mk ((by rw [hg]; exact (b12 (by repeat (first | (with_reducible first | exact HB.out | apply b8 | apply b6 | apply b7) | exact HB.out))) : w.heap.size ≤ gb190)); have n3_ := Aside0.mk ((by rw [hg]; exact (b12 (by repeat (first | (with_reducible first | exact HB.out | apply b8 | apply b6 | apply b7) | exact HB.out))) : w.heap.size ≤ gb190)); clear HB; have HB := n0_; have BK190 := n1_; have GW190 := n2_; have GE190 := n3_; clear n0_ n1_ n2_ n3_; clear hb hbox hg; have hcz7_0 : w6.cell? ⟨gb190, 0, none⟩ = some (.slice A0_0 l0_0.length c0_0) := (b4 BK190.out 0).trans rfl; have hfz7_0 := b9 BK190.out 0) | ((with_reducible refine gate_callee (f := 48) rfl ?_); refine goesL_ (some 11) rfl rfl Try.func48 (by kernel_rfl) rfl #[.agg #[.slice A0_0 l0_0.length c0_0]] rfl (by (try simp only [List.map_toArray, List.map_cons, List.map_nil]); first | done | rfl | (simp only [List.length_drop, List.length_take]; rfl)) ?_; (with_reducible refine (tensileref05_MaterialFault.calls k _ _ l0_0 t191 _ ?side1 ?side2 A3.out).mono ?_); (case side1 => repeat (first | exact (k16 HR0_0.out HB.out) | (with_reducible refine k13 ?_ _) | (with_reducible refine k14 ?_ _) | (with_reducible refine k15 ?_))); (case side2 => exact HC0_0.out); rintro e w8 ⟨rfl, hb⟩; refine ⟨_, rfl, ?_⟩; have n0_ := Aside0.mk (b5 (g := gb190) (o := .cells #[.slice A0_0 l0_0.length c0_0] 24 (0, 0)) (by (with_reducible repeat (first | refine b0 ?_ _ | refine b1 ?_ | refine b2 ?_ _)); exact BK190.out) hb); have n1_ := Aside0.mk (b13 (by repeat (first | (with_reducible first | exact HB.out | apply b8 | apply b6 | apply b7 | refine b3 ?_ GE190.out) | exact HB.out)) hb); clear BK190; clear HB; have BK190 := n0_; have HB := n1_; clear n0_ n1_; (try clear hb); (try clear hb2); (try clear hk); (try clear hi)))
   go_ret
   exact ⟨by first | rfl | (simp [errW_none, errW_some] <;> rfl) | (simp [*, errW_none, errW_some] <;> rfl), by repeat (first | (with_reducible first | exact HB.out | apply b8 | apply b6 | apply b7 | refine b3 ?_ GE190.out) | exact HB.out)⟩
  ·
   rw [if_neg c5] at H
   have c5b0 : decide (6 < (l1.length : Int)) = false := decide_eq_false c5
   have c5b1 : decide (6 < l1.length) = false := decide_eq_false (by omega)
   clear c5
   have H' := Aside0.mk H
   clear H
   go_enter Try.func76, Try.ntmps76
   go_wp2_with (first | ((with_reducible refine gate_dst (N := 2) rfl ?_); refine box_event ?hg (N := 2) ?hd (cs := #[.slice A0_0 l0_0.length c0_0]) (t := 24) ?hr ?_; (case hd => rfl); (case hg => rfl); (case hr => first | (go_simp; done) | (go_simp; rfl)); intro gb190 hg w9 hbox hb; have n0_ := Aside0.mk (b13 (by repeat (first | (with_reducible first | exact HB.out | apply b8 | apply b6 | apply b7) | exact HB.out)) hb); have n1_ := Aside0.mk (hbox); have n2_ := Aside0.mk ((by rw [hg]; exact (b12 (by repeat (first | (with_reducible first | exact HB.out | apply b8 | apply b6 | apply b7) | exact HB.out))) : w.heap.size ≤ gb190)); have n3_ := Aside0.mk ((by rw [hg]; exact (b12 (by repeat (first | (with_reducible first | exact HB.out | apply b8 | apply b6 | apply b7) | exact HB.out))) : w.heap.size ≤ gb190)); clear HB; have HB := n0_; have BK190 := n1_; have GW190 := n2_; have GE190 := n3_; clear n0_ n1_ n2_ n3_; clear hb hbox hg; have hcz10_0 : w9.cell? ⟨gb190, 0, none⟩ = some (.slice A0_0 l0_0.length c0_0) := (b4 BK190.out 0).trans rfl; have hfz10_0 := b9 BK190.out 0) | ((with_reducible refine gate_callee (f := 48) rfl ?_); refine goesL_ (some 11) rfl rfl Try.func48 (by kernel_rfl) rfl #[.agg #[.slice A0_0 l0_0.length c0_0]] rfl (by (try simp only [List.map_toArray, List.map_cons, List.map_nil]); first | done | rfl | (simp only [List.length_drop, List.length_take]; rfl)) ?_; (with_reducible refine (tensileref05_MaterialFault.calls k _ _ l0_0 t191 _ ?side1 ?side2 A3.out).mono ?_); (case side1 => repeat (first | exact (k16 HR0_0.out HB.out) | (with_reducible refine k13 ?_ _) | (with_reducible refine k14 ?_ _) | (with_reducible refine k15 ?_))); (case side2 => exact HC0_0.out); rintro e w11 ⟨rfl, hb⟩; refine ⟨_, rfl, ?_⟩; have n0_ := Aside0.mk (b5 (g := gb190) (o := .cells #[.slice A0_0 l0_0.length c0_0] 24 (0, 0)) (by (with_reducible repeat (first | refine b0 ?_ _ | refine b1 ?_ | refine b2 ?_ _)); exact BK190.out) hb); have n1_ := Aside0.mk (b13 (by repeat (first | (with_reducible first | exact HB.out | apply b8 | apply b6 | apply b7 | refine b3 ?_ GE190.out) | exact HB.out)) hb); clear BK190; clear HB; have BK190 := n0_; have HB := n1_; clear n0_ n1_; (try clear hb); (try clear hb2); (try clear hk); (try clear hi)))
   go_loopg [6] k (fun kq v6 w' => ∃ (x6_1 : Int), v6 = .int .i64 x6_1 ∧ Aside0 (tensileref05_Fault.l0 kq l1 x6_1 l0_0 = some r) ∧ Aside0 (kq ≤ k) ∧ Aside0 (w'.heap[gb190]? = some (.cells #[(.slice A0_0 l0_0.length c0_0)] 24 (0, 0))) ∧ Aside0 (Below w.heap.size w w'))
   case atStart => exact ⟨(0), (by first | rfl | (simp; done) | (simp [*]; done)), H', ⟨Nat.le_refl _⟩, ⟨by (with_reducible repeat (first | refine b0 ?_ _ | refine b1 ?_ | refine b2 ?_ _)); exact BK190.out⟩, ⟨by repeat (first | (with_reducible first | exact HB.out | apply b8 | apply b6 | apply b7 | refine b3 ?_ GE190.out) | exact HB.out)⟩⟩
   case round =>
    clear H'
    try clear c1
    try clear p2
    try clear c4
    try clear c4b0
    try clear c4b1
    try clear c5
    try clear c5b0
    try clear c5b1
    try clear c7
    try clear hcz10_0
    try clear hcz7_0
    try clear hfz10_0
    try clear hfz7_0
    obtain ⟨x6_1, rfl, HA, HK1, BK190, HB⟩ := hrel
    cases gk with
    | zero => exact absurd HA.out (by simp [tensileref05_Fault.l0])
    | succ k1 =>
     have H := HA.out
     clear HA
     simp only [tensileref05_Fault.l0] at H
     by_cases c12 : x6_1 < (l1.length : Int)
     ·
      rw [if_pos c12] at H
      have c12b0 : decide (x6_1 < (l1.length : Int)) = true := decide_eq_true c12
      clear c12
      by_cases c13 : 0 ≤ x6_1
      ·
       rw [if_pos c13] at H
       have c13b0 : decide (0 ≤ x6_1) = true := decide_eq_true c13
       clear c13
       by_cases c14 : (((rd_T81 l1 x6_1).f0).length : Int) > 8
       ·
        rw [if_pos c14] at H
        have c14b0 : decide (8 < (((rd_T81 l1 x6_1).f0).length : Int)) = true := decide_eq_true c14
        have c14b1 : decide (8 < ((rd_T81 l1 x6_1).f0).length) = true := decide_eq_true (by omega)
        clear c14
        obtain rfl := Option.some.inj H
        have p192 : 0 ≤ (x6_1 : Int) := of_decide_eq_true (by first | (with_reducible assumption) | assumption)
        have q192 : x6_1 < (l1.length : Int) := of_decide_eq_true (by first | (with_reducible assumption) | assumption)
        obtain ⟨ad192, A192_0, c192_0, e192, hx192_0, hx192_1, hx192_2, hl192_0, hi192_0⟩ := at_T81 HR1.out x6_1 p192 q192
        cases e192
        replace hx192_0 := (HB.out.cell (World.block_lt_of_cell? w _ hx192_0)).trans hx192_0
        replace hx192_1 := (HB.out.cell (World.block_lt_of_cell? w _ hx192_1)).trans hx192_1
        replace hx192_2 := (HB.out.cell (World.block_lt_of_cell? w _ hx192_2)).trans hx192_2
        have HR192_0 := Aside0.mk hi192_0
        have HC192_0 := Aside0.mk hl192_0
        clear hi192_0 hl192_0
        replace p192 := eq_true p192
        replace q192 := eq_true q192
        go_wp2
        go_ret
        exact ⟨by first | rfl | (simp [errW_none, errW_some] <;> rfl) | (simp [*, errW_none, errW_some] <;> rfl), by repeat (first | (with_reducible first | exact HB.out | apply b8 | apply b6 | apply b7 | refine b3 ?_ GE190.out) | exact HB.out)⟩
       ·
        rw [if_neg c14] at H
        have c14b0 : decide (8 < (((rd_T81 l1 x6_1).f0).length : Int)) = false := decide_eq_false c14
        have c14b1 : decide (8 < ((rd_T81 l1 x6_1).f0).length) = false := decide_eq_false (by omega)
        clear c14
        have H' := Aside0.mk H
        clear H
        have p192 : 0 ≤ (x6_1 : Int) := of_decide_eq_true (by first | (with_reducible assumption) | assumption)
        have q192 : x6_1 < (l1.length : Int) := of_decide_eq_true (by first | (with_reducible assumption) | assumption)
        obtain ⟨ad192, A192_0, c192_0, e192, hx192_0, hx192_1, hx192_2, hl192_0, hi192_0⟩ := at_T81 HR1.out x6_1 p192 q192
        cases e192
        replace hx192_0 := (HB.out.cell (World.block_lt_of_cell? w _ hx192_0)).trans hx192_0
        replace hx192_1 := (HB.out.cell (World.block_lt_of_cell? w _ hx192_1)).trans hx192_1
        replace hx192_2 := (HB.out.cell (World.block_lt_of_cell? w _ hx192_2)).trans hx192_2
        have HR192_0 := Aside0.mk hi192_0
        have HC192_0 := Aside0.mk hl192_0
        clear hi192_0 hl192_0
        replace p192 := eq_true p192
        replace q192 := eq_true q192
        go_wp2
        go_roundg k1
        case measure => have := HK1.out; omega
        case rel => exact ⟨(wrap64 (x6_1 + 1)), (by first | rfl | (simp; done) | (simp [*]; done)), H', ⟨by have := HK1.out; omega⟩, ⟨by (with_reducible repeat (first | refine b0 ?_ _ | refine b1 ?_ | refine b2 ?_ _)); exact BK190.out⟩, ⟨by repeat (first | (with_reducible first | exact HB.out | apply b8 | apply b6 | apply b7 | refine b3 ?_ GE190.out) | exact HB.out)⟩⟩
      ·
       rw [if_neg c13] at H
       exact absurd H (by simp)
     ·
      rw [if_neg c12] at H
      have c12b0 : decide (x6_1 < (l1.length : Int)) = false := decide_eq_false c12
      clear c12
      have H' := Aside0.mk H
      clear H
      go_wp2
      go_loopg [7] k1 (fun kq v7 w' => ∃ (x7_2 : Int), v7 = .int .i64 x7_2 ∧ Aside0 (tensileref05_Fault.l1 kq l1 x7_2 l0_0 = some r) ∧ Aside0 (kq ≤ k1) ∧ Aside0 (w'.heap[gb190]? = some (.cells #[(.slice A0_0 l0_0.length c0_0)] 24 (0, 0))) ∧ Aside0 (Below w.heap.size w w'))
      case atStart => exact ⟨(0), (by first | rfl | (simp; done) | (simp [*]; done)), H', ⟨Nat.le_refl _⟩, ⟨by (with_reducible repeat (first | refine b0 ?_ _ | refine b1 ?_ | refine b2 ?_ _)); exact BK190.out⟩, ⟨by repeat (first | (with_reducible first | exact HB.out | apply b8 | apply b6 | apply b7 | refine b3 ?_ GE190.out) | exact HB.out)⟩⟩
      case round =>
       clear H'
       try clear c1
       try clear p1
       try clear q1
       try clear hx1
       try clear p2
       try clear c4
       try clear c4b0
       try clear c4b1
       try clear c5
       try clear c5b0
       try clear c5b1
       try clear p6
       try clear c7
       try clear c12
       try clear c12b0
       try clear c13
       try clear c13b0
       try clear c14
       try clear c14b0
       try clear c14b1
       try clear hcz10_0
       try clear hcz7_0
       try clear hfz10_0
       try clear hfz7_0
       try clear hx192_0
       try clear hx192_1
       try clear hx192_2
       try clear p192
       try clear p2
       try clear q192
       obtain ⟨x7_2, rfl, HA, HK2, BK190, HB⟩ := hrel
       cases gk with
       | zero => exact absurd HA.out (by simp [tensileref05_Fault.l1])
       | succ k2 =>
        have H := HA.out
        clear HA
        simp only [tensileref05_Fault.l1] at H
        by_cases c15 : x7_2 < (l1.length : Int)
        ·
         rw [if_pos c15] at H
         have c15b0 : decide (x7_2 < (l1.length : Int)) = true := decide_eq_true c15
         clear c15
         by_cases c16 : 0 ≤ x7_2
         ·
          rw [if_pos c16] at H
          have c16b0 : decide (0 ≤ x7_2) = true := decide_eq_true c16
          clear c16
          have HC17 := Aside0.mk H
          clear H
          have p193 : 0 ≤ (x7_2 : Int) := of_decide_eq_true (by first | (with_reducible assumption) | assumption)
          have q193 : x7_2 < (l1.length : Int) := of_decide_eq_true (by first | (with_reducible assumption) | assumption)
          obtain ⟨ad193, A193_0, c193_0, e193, hx193_0, hx193_1, hx193_2, hl193_0, hi193_0⟩ := at_T81 HR1.out x7_2 p193 q193
          cases e193
          replace hx193_0 := (HB.out.cell (World.block_lt_of_cell? w _ hx193_0)).trans hx193_0
          replace hx193_1 := (HB.out.cell (World.block_lt_of_cell? w _ hx193_1)).trans hx193_1
          replace hx193_2 := (HB.out.cell (World.block_lt_of_cell? w _ hx193_2)).trans hx193_2
          have HR193_0 := Aside0.mk hi193_0
          have HC193_0 := Aside0.mk hl193_0
          clear hi193_0 hl193_0
          replace p193 := eq_true p193
          replace q193 := eq_true q193
          go_upto_region 15 with (first | ((with_reducible refine gate_dst (N := 8) rfl ?_); refine box_event ?hg (N := 8) ?hd (cs := #[.int .i64 0, .int .i64 0]) (t := 54) ?hr ?_; (case hd => rfl); (case hg => rfl); (case hr => first | (go_simp; done) | (go_simp; rfl)); intro gb194 hg w18 hbox hb; have n0_ := Aside0.mk (b5 (g := gb190) (o := .cells #[.slice A0_0 l0_0.length c0_0] 24 (0, 0)) (by (with_reducible repeat (first | refine b0 ?_ _ | refine b1 ?_ | refine b2 ?_ _)); exact BK190.out) hb); have n1_ := Aside0.mk (b13 (by repeat (first | (with_reducible first | exact HB.out | apply b8 | apply b6 | apply b7 | refine b3 ?_ GE190.out) | exact HB.out)) hb); have n2_ := Aside0.mk (hbox); have n3_ := Aside0.mk ((by rw [hg]; exact (b12 (by repeat (first | (with_reducible first | exact HB.out | apply b8 | apply b6 | apply b7 | refine b3 ?_ GE190.out) | exact HB.out))) : w.heap.size ≤ gb194)); have n4_ := Aside0.mk ((by rw [hg]; exact (b12 (by repeat (first | (with_reducible first | exact HB.out | apply b8 | apply b6 | apply b7 | refine b3 ?_ GE190.out) | exact HB.out))) : w.heap.size ≤ gb194)); have n5_ := Aside0.mk ((by rw [hg]; exact Nat.ne_of_lt (b10 (g := gb190) (o := .cells #[.slice A0_0 l0_0.length c0_0] 24 (0, 0)) (by (with_reducible repeat (first | refine b0 ?_ _ | refine b1 ?_ | refine b2 ?_ _)); exact BK190.out)) : gb190 ≠ gb194)); have n6_ := Aside0.mk ((by rw [hg]; exact Nat.ne_of_gt (b10 (g := gb190) (o := .cells #[.slice A0_0 l0_0.length c0_0] 24 (0, 0)) (by (with_reducible repeat (first | refine b0 ?_ _ | refine b1 ?_ | refine b2 ?_ _)); exact BK190.out)) : gb194 ≠ gb190)); clear BK190; clear HB; have BK190 := n0_; have HB := n1_; have BK194 := n2_; have GW194 := n3_; have GE194 := n4_; have NB190_194 := n5_; have NB194_190 := n6_; clear n0_ n1_ n2_ n3_ n4_ n5_ n6_; clear hb hbox hg; have hnb19 := NB194_190.out; have hnc19 := NB190_194.out; have hcz20_0 : w18.cell? ⟨gb194, 0, none⟩ = some (.int .i64 0) := (b4 BK194.out 0).trans rfl; have hcz20_1 : w18.cell? ⟨gb194, 1, none⟩ = some (.int .i64 0) := (b4 BK194.out 1).trans rfl; have hfz20_0 := b9 BK194.out 0; have hfz20_1 := b9 BK194.out 1))
          (try simp only [Act.put, l1, l2, l3])
          go_cut [52] (fun v52 wc => ∃ (kq : Nat) (x52_16 : Bool), v52 = .bool x52_16 ∧ Aside0 (tensileref05_Fault.j2 kq l1 x7_2 x52_16 l0_0 = some r) ∧ Aside0 (kq ≤ k2) ∧ Aside0 (wc.heap[gb190]? = some (.cells #[(.slice A0_0 l0_0.length c0_0)] 24 (0, 0))) ∧ Aside0 (wc.heap[gb194]? = some (.cells #[.int .i64 ((rd_T81 l1 x7_2).f1.f0), .int .i64 ((rd_T81 l1 x7_2).f1.f1)] 54 (0, 0))) ∧ Aside0 (Below w.heap.size w wc))
          case first =>
           have H := HC17.out
           clear HC17
           replace H := Option.bind_eq_some_iff.mp H
           obtain ⟨t195, A210, H⟩ := H
           replace H : (if t195 = true then (tensileref05_Fault.j2 k2 l1 x7_2 (decide (((rd_T81 l1 x7_2).f1.f1) > 10000000000)) l0_0) else (tensileref05_Fault.j2 k2 l1 x7_2 true l0_0)) = some r := H
           have A21 := Aside0.mk A210
           clear A210
           by_cases c22 : t195 = true
           ·
            subst c22
            have H1 : (tensileref05_Fault.j2 k2 l1 x7_2 (decide (((rd_T81 l1 x7_2).f1.f1) > 10000000000)) l0_0) = some r := by rw [if_pos rfl] at H; exact H
            clear H
            have H := H1
            clear H1
            have H' := Aside0.mk H
            clear H
            have hnb23 := NB194_190.out
            have hnc23 := NB190_194.out
            have hcz24_0 : w18.cell? ⟨gb194, 0, none⟩ = some (.int .i64 0) := (b4 BK194.out 0).trans rfl
            have hcz24_1 : w18.cell? ⟨gb194, 1, none⟩ = some (.int .i64 0) := (b4 BK194.out 1).trans rfl
            have hfz24_0 := b9 BK194.out 0
            have hfz24_1 := b9 BK194.out 1
            go_wp2_with (first | ((with_reducible refine gate_callee (f := 40) rfl ?_); refine goesL_ (some 46) rfl rfl Try.func40 (by kernel_rfl) rfl #[.int .i64 ((rd_T81 l1 x7_2).f1.f0), .int .i64 0, .int .i64 ((rd_T81 l1 x7_2).f1.f1)] rfl (by (try simp only [List.map_toArray, List.map_cons, List.map_nil]); first | done | rfl | (simp only [List.length_drop, List.length_take]; rfl)) ?_; (with_reducible refine (tensileref05_In.calls ((rd_T81 l1 x7_2).f1.f0) 0 ((rd_T81 l1 x7_2).f1.f1) true _ A21.out).mono ?_); rintro e w' ⟨rfl, ⟨nd, rfl⟩⟩; refine ⟨_, rfl, ?_⟩))
            go_meet
            case rel => exact ⟨_, (decide (((rd_T81 l1 x7_2).f1.f1) > 10000000000)), (by first | rfl | (simp; done) | (simp [*]; done)), H', ⟨by have := HK1.out; have := HK2.out; first | omega | exact Nat.le_refl _⟩, ⟨by (with_reducible repeat (first | refine b0 ?_ _ | refine b1 ?_ | refine b2 ?_ _)); refine b11 ?_ NB190_194.out _; (with_reducible repeat (first | refine b0 ?_ _ | refine b1 ?_ | refine b2 ?_ _)); refine b11 ?_ NB190_194.out _; (with_reducible repeat (first | refine b0 ?_ _ | refine b1 ?_ | refine b2 ?_ _)); exact BK190.out⟩, ⟨by (with_reducible repeat (first | refine b0 ?_ _ | refine b1 ?_ | refine b2 ?_ _)); refine blk_put (cs := #[.int .i64 ((rd_T81 l1 x7_2).f1.f0), .int .i64 0]) ?_ 1 _ rfl; (with_reducible repeat (first | refine b0 ?_ _ | refine b1 ?_ | refine b2 ?_ _)); refine blk_put (cs := #[.int .i64 0, .int .i64 0]) ?_ 0 _ rfl; (with_reducible repeat (first | refine b0 ?_ _ | refine b1 ?_ | refine b2 ?_ _)); exact BK194.out⟩, ⟨by repeat (first | (with_reducible first | exact HB.out | apply b8 | apply b6 | apply b7 | refine b3 ?_ GE190.out | refine b3 ?_ GE194.out) | exact HB.out)⟩⟩
           ·
            replace c22 := Bool.eq_false_iff.mpr c22
            subst c22
            have H1 : (tensileref05_Fault.j2 k2 l1 x7_2 true l0_0) = some r := by rw [if_neg (show ¬ (false = true) by decide)] at H; exact H
            clear H
            have H := H1
            clear H1
            have H' := Aside0.mk H
            clear H
            have hnb25 := NB194_190.out
            have hnc25 := NB190_194.out
            have hcz26_0 : w18.cell? ⟨gb194, 0, none⟩ = some (.int .i64 0) := (b4 BK194.out 0).trans rfl
            have hcz26_1 : w18.cell? ⟨gb194, 1, none⟩ = some (.int .i64 0) := (b4 BK194.out 1).trans rfl
            have hfz26_0 := b9 BK194.out 0
            have hfz26_1 := b9 BK194.out 1
            go_wp2_with (first | ((with_reducible refine gate_callee (f := 40) rfl ?_); refine goesL_ (some 46) rfl rfl Try.func40 (by kernel_rfl) rfl #[.int .i64 ((rd_T81 l1 x7_2).f1.f0), .int .i64 0, .int .i64 ((rd_T81 l1 x7_2).f1.f1)] rfl (by (try simp only [List.map_toArray, List.map_cons, List.map_nil]); first | done | rfl | (simp only [List.length_drop, List.length_take]; rfl)) ?_; (with_reducible refine (tensileref05_In.calls ((rd_T81 l1 x7_2).f1.f0) 0 ((rd_T81 l1 x7_2).f1.f1) false _ A21.out).mono ?_); rintro e w' ⟨rfl, ⟨nd, rfl⟩⟩; refine ⟨_, rfl, ?_⟩))
            go_meet
            case rel => exact ⟨_, (true), (by first | rfl | (simp; done) | (simp [*]; done)), H', ⟨by have := HK1.out; have := HK2.out; first | omega | exact Nat.le_refl _⟩, ⟨by (with_reducible repeat (first | refine b0 ?_ _ | refine b1 ?_ | refine b2 ?_ _)); refine b11 ?_ NB190_194.out _; (with_reducible repeat (first | refine b0 ?_ _ | refine b1 ?_ | refine b2 ?_ _)); refine b11 ?_ NB190_194.out _; (with_reducible repeat (first | refine b0 ?_ _ | refine b1 ?_ | refine b2 ?_ _)); exact BK190.out⟩, ⟨by (with_reducible repeat (first | refine b0 ?_ _ | refine b1 ?_ | refine b2 ?_ _)); refine blk_put (cs := #[.int .i64 ((rd_T81 l1 x7_2).f1.f0), .int .i64 0]) ?_ 1 _ rfl; (with_reducible repeat (first | refine b0 ?_ _ | refine b1 ?_ | refine b2 ?_ _)); refine blk_put (cs := #[.int .i64 0, .int .i64 0]) ?_ 0 _ rfl; (with_reducible repeat (first | refine b0 ?_ _ | refine b1 ?_ | refine b2 ?_ _)); exact BK194.out⟩, ⟨by repeat (first | (with_reducible first | exact HB.out | apply b8 | apply b6 | apply b7 | refine b3 ?_ GE190.out | refine b3 ?_ GE194.out) | exact HB.out)⟩⟩
          case rest =>
           clear HC17
           try clear c1
           try clear p1
           try clear q1
           try clear hx1
           try clear c2
           try clear p2
           try clear c4
           try clear c4b0
           try clear c4b1
           try clear c5
           try clear c5b0
           try clear c5b1
           try clear p6
           try clear c7
           try clear c12
           try clear c12b0
           try clear c13
           try clear c13b0
           try clear c14
           try clear c14b0
           try clear c14b1
           try clear c15
           try clear c15b0
           try clear c16
           try clear c16b0
           try clear c19
           try clear p19
           try clear q19
           try clear hx19
           try clear c22
           try clear c23
           try clear c25
           try clear hcz10_0
           try clear hcz20_0
           try clear hcz20_1
           try clear hcz24_0
           try clear hcz24_1
           try clear hcz26_0
           try clear hcz26_1
           try clear hcz7_0
           try clear hfz10_0
           try clear hfz20_0
           try clear hfz20_1
           try clear hfz24_0
           try clear hfz24_1
           try clear hfz26_0
           try clear hfz26_1
           try clear hfz7_0
           try clear hx192_0
           try clear hx192_1
           try clear hx192_2
           try clear hx193_0
           try clear hx193_1
           try clear hx193_2
           try clear p1
           try clear p192
           try clear p193
           try clear p2
           try clear p6
           try clear q1
           try clear q192
           try clear q193
           obtain ⟨kq, x52_16, rfl, HA, HJ16, BK190, BK194, HB⟩ := hcut
           cases kq with
           | zero => exact absurd HA.out (by simp [tensileref05_Fault.j2])
           | succ kj16 =>
            have H := HA.out
            clear HA
            simp only [tensileref05_Fault.j2] at H
            by_cases c27 : x52_16 = true
            ·
             subst c27
             have H1 : (some 1) = some r := by rw [if_pos rfl] at H; exact H
             clear H
             have H := H1
             clear H1
             obtain rfl := Option.some.inj H
             go_wp2
             go_ret
             exact ⟨by first | rfl | (simp [errW_none, errW_some] <;> rfl) | (simp [*, errW_none, errW_some] <;> rfl), by repeat (first | (with_reducible first | exact HB.out | apply b8 | apply b6 | apply b7 | refine b3 ?_ GE190.out | refine b3 ?_ GE194.out) | exact HB.out)⟩
            ·
             replace c27 := Bool.eq_false_iff.mpr c27
             subst c27
             have H1 : (tensileref05_Fault.l2 kj16 l1 x7_2 0 l0_0) = some r := by rw [if_neg (show ¬ (false = true) by decide)] at H; exact H
             clear H
             have H := H1
             clear H1
             have H' := Aside0.mk H
             clear H
             go_wp2
             go_loopg [9] kj16 (fun kq v9 w' => ∃ (x9_4 : Int), v9 = .int .i64 x9_4 ∧ Aside0 (tensileref05_Fault.l2 kq l1 x7_2 x9_4 l0_0 = some r) ∧ Aside0 (kq ≤ kj16) ∧ Aside0 (w'.heap[gb190]? = some (.cells #[(.slice A0_0 l0_0.length c0_0)] 24 (0, 0))) ∧ Aside0 (w'.heap[gb194]? = some (.cells #[.int .i64 ((rd_T81 l1 x7_2).f1.f0), .int .i64 ((rd_T81 l1 x7_2).f1.f1)] 54 (0, 0))) ∧ Aside0 (Below w.heap.size w w'))
             case atStart => exact ⟨(0), (by first | rfl | (simp; done) | (simp [*]; done)), H', ⟨Nat.le_refl _⟩, ⟨by (with_reducible repeat (first | refine b0 ?_ _ | refine b1 ?_ | refine b2 ?_ _)); exact BK190.out⟩, ⟨by (with_reducible repeat (first | refine b0 ?_ _ | refine b1 ?_ | refine b2 ?_ _)); exact BK194.out⟩, ⟨by repeat (first | (with_reducible first | exact HB.out | apply b8 | apply b6 | apply b7 | refine b3 ?_ GE190.out | refine b3 ?_ GE194.out) | exact HB.out)⟩⟩
             case round =>
              clear H'
              try clear c1
              try clear p1
              try clear q1
              try clear hx1
              try clear c2
              try clear p2
              try clear c4
              try clear c4b0
              try clear c4b1
              try clear c5
              try clear c5b0
              try clear c5b1
              try clear p6
              try clear c7
              try clear c12
              try clear c12b0
              try clear c13
              try clear c13b0
              try clear c14
              try clear c14b0
              try clear c14b1
              try clear c15
              try clear c15b0
              try clear c16
              try clear c16b0
              try clear c19
              try clear p19
              try clear q19
              try clear hx19
              try clear c22
              try clear c23
              try clear c25
              try clear c27
              try clear hcz10_0
              try clear hcz20_0
              try clear hcz20_1
              try clear hcz24_0
              try clear hcz24_1
              try clear hcz26_0
              try clear hcz26_1
              try clear hcz7_0
              try clear hfz10_0
              try clear hfz20_0
              try clear hfz20_1
              try clear hfz24_0
              try clear hfz24_1
              try clear hfz26_0
              try clear hfz26_1
              try clear hfz7_0
              try clear hx192_0
              try clear hx192_1
              try clear hx192_2
              try clear hx193_0
              try clear hx193_1
              try clear hx193_2
              try clear p1
              try clear p19
              try clear p192
              try clear p193
              try clear p2
              try clear p6
              try clear q1
              try clear q19
              try clear q192
              try clear q193
              obtain ⟨x9_4, rfl, HA, HK4, BK190, BK194, HB⟩ := hrel
              cases gk with
              | zero => exact absurd HA.out (by simp [tensileref05_Fault.l2])
              | succ k4 =>
               have H := HA.out
               clear HA
               simp only [tensileref05_Fault.l2] at H
               by_cases c28 : 0 ≤ x7_2
               ·
                rw [if_pos c28] at H
                have c28b0 : decide (0 ≤ x7_2) = true := decide_eq_true c28
                clear c28
                by_cases c29 : x7_2 < (l1.length : Int)
                ·
                 rw [if_pos c29] at H
                 have c29b0 : decide (x7_2 < (l1.length : Int)) = true := decide_eq_true c29
                 clear c29
                 by_cases c30 : x9_4 < (((rd_T81 l1 x7_2).f0).length : Int)
                 ·
                  rw [if_pos c30] at H
                  have c30b0 : decide (x9_4 < (((rd_T81 l1 x7_2).f0).length : Int)) = true := decide_eq_true c30
                  clear c30
                  by_cases c31 : 0 ≤ x9_4
                  ·
                   rw [if_pos c31] at H
                   have c31b0 : decide (0 ≤ x9_4) = true := decide_eq_true c31
                   clear c31
                   replace H := Option.bind_eq_some_iff.mp H
                   obtain ⟨t199, A320, H⟩ := H
                   replace H : (if t199 = true then (tensileref05_Fault.l2 k4 l1 x7_2 (wrap64 (x9_4 + 1)) l0_0) else (some 1)) = some r := H
                   have A32 := Aside0.mk A320
                   clear A320
                   by_cases c33 : t199 = true
                   ·
                    subst c33
                    have H1 : (tensileref05_Fault.l2 k4 l1 x7_2 (wrap64 (x9_4 + 1)) l0_0) = some r := by rw [if_pos rfl] at H; exact H
                    clear H
                    have H := H1
                    clear H1
                    have H' := Aside0.mk H
                    clear H
                    have p196 : 0 ≤ (x7_2 : Int) := of_decide_eq_true (by first | (with_reducible assumption) | assumption)
                    have q196 : x7_2 < (l1.length : Int) := of_decide_eq_true (by first | (with_reducible assumption) | assumption)
                    obtain ⟨ad196, A196_0, c196_0, e196, hx196_0, hx196_1, hx196_2, hl196_0, hi196_0⟩ := at_T81 HR1.out x7_2 p196 q196
                    obtain rfl : ad193 = ad196 := (by injection e196)
                    replace hx196_0 := (HB.out.cell (World.block_lt_of_cell? w _ hx196_0)).trans hx196_0
                    replace hx196_1 := (HB.out.cell (World.block_lt_of_cell? w _ hx196_1)).trans hx196_1
                    replace hx196_2 := (HB.out.cell (World.block_lt_of_cell? w _ hx196_2)).trans hx196_2
                    have HR196_0 := Aside0.mk hi196_0
                    have HC196_0 := Aside0.mk hl196_0
                    clear hi196_0 hl196_0
                    replace p196 := eq_true p196
                    replace q196 := eq_true q196
                    try go_wp2
                    have n0_ := Aside0.mk (b1 BK190.out)
                    have n1_ := Aside0.mk (b1 BK194.out)
                    have n2_ := Aside0.mk (b7 HB.out)
                    clear BK190
                    clear BK194
                    clear HB
                    have BK190 := n0_
                    have BK194 := n1_
                    have HB := n2_
                    clear n0_ n1_ n2_
                    have p197 : 0 ≤ (x7_2 : Int) := of_decide_eq_true (by first | (with_reducible assumption) | assumption)
                    have q197 : x7_2 < (l1.length : Int) := of_decide_eq_true (by first | (with_reducible assumption) | assumption)
                    obtain ⟨ad197, A197_0, c197_0, e197, hx197_0, hx197_1, hx197_2, hl197_0, hi197_0⟩ := at_T81 HR1.out x7_2 p197 q197
                    have hw197_2 := hx197_2
                    have hw197_1 := hx197_1
                    have hw197_0 := hx197_0
                    obtain rfl : ad193 = ad197 := (by injection e197)
                    replace hx197_0 := (HB.out.cell (World.block_lt_of_cell? w _ hx197_0)).trans hx197_0
                    replace hx197_1 := (HB.out.cell (World.block_lt_of_cell? w _ hx197_1)).trans hx197_1
                    replace hx197_2 := (HB.out.cell (World.block_lt_of_cell? w _ hx197_2)).trans hx197_2
                    have HR197_0 := Aside0.mk hi197_0
                    have HC197_0 := Aside0.mk hl197_0
                    clear hi197_0 hl197_0
                    replace p197 := eq_true p197
                    replace q197 := eq_true q197
                    have p198 : 0 ≤ (x9_4 : Int) := of_decide_eq_true (by first | (with_reducible assumption) | assumption)
                    have q198 : x9_4 < (((rd_T81 l1 x7_2).f0).length : Int) := of_decide_eq_true (by first | (with_reducible assumption) | assumption)
                    obtain ⟨ad198, e198, hx198_0, hx198_1, hx198_2⟩ := at_T56 HR197_0.out x9_4 p198 q198
                    have hw198_2 := hx198_2
                    have hw198_1 := hx198_1
                    have hw198_0 := hx198_0
                    cases e198
                    replace hx198_0 := (HB.out.cell (World.block_lt_of_cell? w _ hx198_0)).trans hx198_0
                    replace hx198_1 := (HB.out.cell (World.block_lt_of_cell? w _ hx198_1)).trans hx198_1
                    replace hx198_2 := (HB.out.cell (World.block_lt_of_cell? w _ hx198_2)).trans hx198_2
                    replace p198 := eq_true p198
                    replace q198 := eq_true q198
                    refine start_ (n := 11) (S := fun w' => w'.cell? ⟨gb190, 0, none⟩ = some (.slice A0_0 l0_0.length c0_0) ∧ w'.cell? (ad193.add ((x7_2).toNat * 3)) = some (.slice (some ad198) ((rd_T81 l1 x7_2).f0).length c197_0) ∧ w'.cell? ⟨(ad193.add ((x7_2).toNat * 3)).block, (ad193.add ((x7_2).toNat * 3)).off + 1, none⟩ = some (.int .i64 ((rd_T81 l1 x7_2).f1.f0)) ∧ w'.cell? ⟨(ad193.add ((x7_2).toNat * 3)).block, (ad193.add ((x7_2).toNat * 3)).off + 2, none⟩ = some (.int .i64 ((rd_T81 l1 x7_2).f1.f1)) ∧ w'.cell? (ad198.add ((x9_4).toNat * 3)) = some (.int .i64 ((rd_T56 ((rd_T81 l1 x7_2).f0) x9_4).f0)) ∧ w'.cell? ⟨(ad198.add ((x9_4).toNat * 3)).block, (ad198.add ((x9_4).toNat * 3)).off + 1, none⟩ = some (.int .i64 ((rd_T56 ((rd_T81 l1 x7_2).f0) x9_4).f1.f0)) ∧ w'.cell? ⟨(ad198.add ((x9_4).toNat * 3)).block, (ad198.add ((x9_4).toNat * 3)).off + 2, none⟩ = some (.int .i64 ((rd_T56 ((rd_T81 l1 x7_2).f0) x9_4).f1.f1))) (ds := []) #[ff,ff,ff,ff,ff,ff,ff,ff,ff,ff,ff] (by kernel_rfl) rfl rfl ⟨(b4 BK190.out 0).trans rfl, ((HB.out.cell (World.block_lt_of_cell? w _ hw197_0)).trans hw197_0), ((HB.out.cell (World.block_lt_of_cell? w _ hw197_1)).trans hw197_1), ((HB.out.cell (World.block_lt_of_cell? w _ hw197_2)).trans hw197_2), ((HB.out.cell (World.block_lt_of_cell? w _ hw198_0)).trans hw198_0), ((HB.out.cell (World.block_lt_of_cell? w _ hw198_1)).trans hw198_1), ((HB.out.cell (World.block_lt_of_cell? w _ hw198_2)).trans hw198_2)⟩ (fun hHeld => ?_); refine with_tabW tensileref05_Fault.tab20 tensileref05_Fault.bits20 (fun HT_ HW_ => ?_)
                    generalize wr.drew = w34 at BK190 BK194 HB HR197_0 hx197_0 hx197_1 hx197_2 hx198_0 hx198_1 hx198_2 hHeld ⊢
                    refine pure_ (i := 1) (N := some 64) (v := ?_) (a' := ?_) #[ff,tt,ff,ff,ff,ff,ff,ff,ff,ff,ff] rfl rfl (any_of HT_.out (by kernel_rfl)) (fun _ _ _ h => h) (Or.inl ⟨by rfl, ?_⟩) ?_ ?_
                    rotate_left
                    ·
                     intro w'
                     go_simp
                     with_reducible rfl
                    rotate_left
                    ·
                     simp only [Act.put, l1, l2, l3, i64_w, i32_w]
                     rfl
                    refine pure_ (i := 2) (N := some 65) (v := ?_) (a' := ?_) #[ff,tt,tt,ff,ff,ff,ff,ff,ff,ff,ff] rfl rfl (any_of HT_.out (by kernel_rfl)) (fun _ _ _ h => h) (Or.inl ⟨by rfl, ?_⟩) ?_ ?_
                    rotate_left
                    ·
                     intro w'
                     go_simp
                     with_reducible rfl
                    rotate_left
                    ·
                     simp only [Act.put, l1, l2, l3, i64_w, i32_w]
                     rfl
                    refine pure_ (i := 3) (N := some 66) (v := ?_) (a' := ?_) #[ff,tt,tt,tt,ff,ff,ff,ff,ff,ff,ff] rfl rfl (any_of HT_.out (by kernel_rfl)) (fun _ _ _ h => h) (Or.inl ⟨by rfl, ?_⟩) ?_ ?_
                    rotate_left
                    ·
                     intro w'
                     go_simp
                     with_reducible rfl
                    rotate_left
                    ·
                     simp only [Act.put, l1, l2, l3, i64_w, i32_w]
                     rfl
                    refine pure_ (i := 4) (N := some 67) (v := ?_) (a' := ?_) #[ff,tt,tt,tt,tt,ff,ff,ff,ff,ff,ff] rfl rfl (any_of HT_.out (by kernel_rfl)) (fun _ _ _ h => h) (Or.inl ⟨by rfl, ?_⟩) ?_ ?_
                    rotate_left
                    ·
                     intro w'
                     go_simp
                     with_reducible rfl
                    rotate_left
                    ·
                     simp only [Act.put, l1, l2, l3, i64_w, i32_w]
                     rfl
                    refine pure_ (i := 6) (N := some 69) (v := ?_) (a' := ?_) #[ff,tt,tt,tt,tt,ff,tt,ff,ff,ff,ff] rfl rfl (any_of HT_.out (by kernel_rfl)) (fun _ _ _ h => h) (Or.inl ⟨by rfl, ?_⟩) ?_ ?_
                    rotate_left
                    ·
                     intro w'
                     go_simp
                     with_reducible rfl
                    rotate_left
                    ·
                     simp only [Act.put, l1, l2, l3, i64_w, i32_w]
                     rfl
                    refine take_ (i := 0) (N := some 63) (v := ?_) (a' := ?_) #[tt,tt,tt,tt,tt,ff,tt,ff,ff,ff,ff] rfl rfl (take_ofW HT_.out HW_.out (by kernel_rfl)) (fun _ _ _ h => h) (Or.inl ⟨by rfl, ?_⟩) hHeld ?_ ?_
                    rotate_left
                    ·
                     rintro w' ⟨s0, s1, s2, s3, s4, s5, s6⟩
                     go_simp
                     with_reducible rfl
                    rotate_left
                    ·
                     simp only [Act.put, l1, l2, l3, i64_w, i32_w]
                     rfl
                    refine take_ (i := 5) (N := some 68) (v := ?_) (a' := ?_) #[tt,tt,tt,tt,tt,tt,tt,ff,ff,ff,ff] rfl rfl (take_ofW HT_.out HW_.out (by kernel_rfl)) (fun _ _ _ h => h) (Or.inl ⟨by rfl, ?_⟩) hHeld ?_ ?_
                    rotate_left
                    ·
                     rintro w' ⟨s0, s1, s2, s3, s4, s5, s6⟩
                     go_simp
                     with_reducible rfl
                    rotate_left
                    ·
                     simp only [Act.put, l1, l2, l3, i64_w, i32_w]
                     rfl
                    refine pure_ (i := 7) (N := some 70) (v := ?_) (a' := ?_) #[tt,tt,tt,tt,tt,tt,tt,tt,ff,ff,ff] rfl rfl (any_of HT_.out (by kernel_rfl)) (fun _ _ _ h => h) (Or.inl ⟨by rfl, ?_⟩) ?_ ?_
                    rotate_left
                    ·
                     intro w'
                     go_simp
                     with_reducible rfl
                    rotate_left
                    ·
                     simp only [Act.put, l1, l2, l3, i64_w, i32_w]
                     rfl
                    refine take_ (i := 8) (N := some 71) (v := ?_) (a' := ?_) #[tt,tt,tt,tt,tt,tt,tt,tt,tt,ff,ff] rfl rfl (take_ofW HT_.out HW_.out (by kernel_rfl)) (fun _ _ _ h => h) (Or.inl ⟨by rfl, ?_⟩) hHeld ?_ ?_
                    rotate_left
                    ·
                     rintro w' ⟨s0, s1, s2, s3, s4, s5, s6⟩
                     go_simp
                     with_reducible rfl
                    rotate_left
                    ·
                     simp only [Act.put, l1, l2, l3, i64_w, i32_w]
                     rfl
                    refine one_ (i := 9) (N := some 72) #[tt,tt,tt,tt,tt,tt,tt,tt,tt,tt,ff] rfl rfl (one_of HT_.out (by kernel_rfl)) (by decide) (fun K hK => ?_)
                    refine goes_ Try.func75 (by kernel_rfl) rfl #[.agg #[.slice A0_0 l0_0.length c0_0], .agg #[.int .i64 ((rd_T56 ((rd_T81 l1 x7_2).f0) x9_4).f0), .int .i64 ((rd_T56 ((rd_T81 l1 x7_2).f0) x9_4).f1.f0), .int .i64 ((rd_T56 ((rd_T81 l1 x7_2).f0) x9_4).f1.f1)]] (by rfl) rfl rfl (by (try simp only [List.map_toArray, List.map_cons, List.map_nil]); first | done | rfl | (simp only [List.length_drop, List.length_take]; rfl)) ?_
                    with_reducible refine (tensileref05_IsSegment.calls _ _ l0_0 ((rd_T56 ((rd_T81 l1 x7_2).f0) x9_4).f0) ((rd_T56 ((rd_T81 l1 x7_2).f0) x9_4).f1.f0) ((rd_T56 ((rd_T81 l1 x7_2).f0) x9_4).f1.f1) true _ ?side1 ?side2 A32.out).mono ?_
                    (case side1 => repeat (first | exact (k16 HR0_0.out HB.out) | (with_reducible refine k13 ?_ _) | (with_reducible refine k14 ?_ _) | (with_reducible refine k15 ?_)))
                    (case side2 => exact HC0_0.out)
                    rintro e w35 ⟨rfl, hb⟩
                    refine ⟨_, rfl, ?_⟩
                    have n0_ := Aside0.mk (b5 (g := gb190) (o := .cells #[.slice A0_0 l0_0.length c0_0] 24 (0, 0)) (by (with_reducible repeat (first | refine b0 ?_ _ | refine b1 ?_ | refine b2 ?_ _)); exact BK190.out) hb)
                    have n1_ := Aside0.mk (b5 (g := gb194) (o := .cells #[.int .i64 ((rd_T81 l1 x7_2).f1.f0), .int .i64 ((rd_T81 l1 x7_2).f1.f1)] 54 (0, 0)) (by (with_reducible repeat (first | refine b0 ?_ _ | refine b1 ?_ | refine b2 ?_ _)); exact BK194.out) hb)
                    have n2_ := Aside0.mk (b13 (by repeat (first | (with_reducible first | exact HB.out | apply b8 | apply b6 | apply b7 | refine b3 ?_ GE190.out | refine b3 ?_ GE194.out) | exact HB.out)) hb)
                    clear BK190
                    clear BK194
                    clear HB
                    have BK190 := n0_
                    have BK194 := n1_
                    have HB := n2_
                    clear n0_ n1_ n2_
                    (try clear hb)
                    (try clear hb2)
                    (try clear hk)
                    (try clear hi)
                    refine hK.out _ _ ⟨(b4 BK190.out 0).trans rfl, ((HB.out.cell (World.block_lt_of_cell? w _ hw197_0)).trans hw197_0), ((HB.out.cell (World.block_lt_of_cell? w _ hw197_1)).trans hw197_1), ((HB.out.cell (World.block_lt_of_cell? w _ hw197_2)).trans hw197_2), ((HB.out.cell (World.block_lt_of_cell? w _ hw198_0)).trans hw198_0), ((HB.out.cell (World.block_lt_of_cell? w _ hw198_1)).trans hw198_1), ((HB.out.cell (World.block_lt_of_cell? w _ hw198_2)).trans hw198_2)⟩ (fun hHeld => ?_)
                    clear hK K
                    refine norm_ (a' := ?_) ?_ ?_
                    rotate_left
                    ·
                     show Act.put _ (some 72) _ = _
                     simp only [Act.put, l1, l2, l3, i64_w, i32_w]
                     rfl
                    refine pure_ (i := 10) (N := some 73) (v := ?_) (a' := ?_) #[tt,tt,tt,tt,tt,tt,tt,tt,tt,tt,tt] rfl rfl (any_of HT_.out (by kernel_rfl)) (fun _ _ _ h => h) (Or.inl ⟨by rfl, ?_⟩) ?_ ?_
                    rotate_left
                    ·
                     intro w'
                     go_simp
                     with_reducible rfl
                    rotate_left
                    ·
                     simp only [Act.put, l1, l2, l3, i64_w, i32_w]
                     rfl
                    refine done_ (done_of HT_.out (by kernel_rfl)) ?_
                    try go_wp2
                    go_roundg k4
                    case measure => have := HK1.out; have := HK2.out; have := HJ16.out; have := HK4.out; omega
                    case rel => exact ⟨(wrap64 (x9_4 + 1)), (by first | rfl | (simp; done) | (simp [*]; done)), H', ⟨by have := HK1.out; have := HK2.out; have := HJ16.out; have := HK4.out; omega⟩, ⟨by (with_reducible repeat (first | refine b0 ?_ _ | refine b1 ?_ | refine b2 ?_ _)); exact BK190.out⟩, ⟨by (with_reducible repeat (first | refine b0 ?_ _ | refine b1 ?_ | refine b2 ?_ _)); exact BK194.out⟩, ⟨by repeat (first | (with_reducible first | exact HB.out | apply b8 | apply b6 | apply b7 | refine b3 ?_ GE190.out | refine b3 ?_ GE194.out) | exact HB.out)⟩⟩
                   ·
                    replace c33 := Bool.eq_false_iff.mpr c33
                    subst c33
                    have H1 : (some 1) = some r := by rw [if_neg (show ¬ (false = true) by decide)] at H; exact H
                    clear H
                    have H := H1
                    clear H1
                    obtain rfl := Option.some.inj H
                    have p196 : 0 ≤ (x7_2 : Int) := of_decide_eq_true (by first | (with_reducible assumption) | assumption)
                    have q196 : x7_2 < (l1.length : Int) := of_decide_eq_true (by first | (with_reducible assumption) | assumption)
                    obtain ⟨ad196, A196_0, c196_0, e196, hx196_0, hx196_1, hx196_2, hl196_0, hi196_0⟩ := at_T81 HR1.out x7_2 p196 q196
                    obtain rfl : ad193 = ad196 := (by injection e196)
                    replace hx196_0 := (HB.out.cell (World.block_lt_of_cell? w _ hx196_0)).trans hx196_0
                    replace hx196_1 := (HB.out.cell (World.block_lt_of_cell? w _ hx196_1)).trans hx196_1
                    replace hx196_2 := (HB.out.cell (World.block_lt_of_cell? w _ hx196_2)).trans hx196_2
                    have HR196_0 := Aside0.mk hi196_0
                    have HC196_0 := Aside0.mk hl196_0
                    clear hi196_0 hl196_0
                    replace p196 := eq_true p196
                    replace q196 := eq_true q196
                    try go_wp2
                    have n0_ := Aside0.mk (b1 BK190.out)
                    have n1_ := Aside0.mk (b1 BK194.out)
                    have n2_ := Aside0.mk (b7 HB.out)
                    clear BK190
                    clear BK194
                    clear HB
                    have BK190 := n0_
                    have BK194 := n1_
                    have HB := n2_
                    clear n0_ n1_ n2_
                    have p197 : 0 ≤ (x7_2 : Int) := of_decide_eq_true (by first | (with_reducible assumption) | assumption)
                    have q197 : x7_2 < (l1.length : Int) := of_decide_eq_true (by first | (with_reducible assumption) | assumption)
                    obtain ⟨ad197, A197_0, c197_0, e197, hx197_0, hx197_1, hx197_2, hl197_0, hi197_0⟩ := at_T81 HR1.out x7_2 p197 q197
                    have hw197_2 := hx197_2
                    have hw197_1 := hx197_1
                    have hw197_0 := hx197_0
                    obtain rfl : ad193 = ad197 := (by injection e197)
                    replace hx197_0 := (HB.out.cell (World.block_lt_of_cell? w _ hx197_0)).trans hx197_0
                    replace hx197_1 := (HB.out.cell (World.block_lt_of_cell? w _ hx197_1)).trans hx197_1
                    replace hx197_2 := (HB.out.cell (World.block_lt_of_cell? w _ hx197_2)).trans hx197_2
                    have HR197_0 := Aside0.mk hi197_0
                    have HC197_0 := Aside0.mk hl197_0
                    clear hi197_0 hl197_0
                    replace p197 := eq_true p197
                    replace q197 := eq_true q197
                    have p198 : 0 ≤ (x9_4 : Int) := of_decide_eq_true (by first | (with_reducible assumption) | assumption)
                    have q198 : x9_4 < (((rd_T81 l1 x7_2).f0).length : Int) := of_decide_eq_true (by first | (with_reducible assumption) | assumption)
                    obtain ⟨ad198, e198, hx198_0, hx198_1, hx198_2⟩ := at_T56 HR197_0.out x9_4 p198 q198
                    have hw198_2 := hx198_2
                    have hw198_1 := hx198_1
                    have hw198_0 := hx198_0
                    cases e198
                    replace hx198_0 := (HB.out.cell (World.block_lt_of_cell? w _ hx198_0)).trans hx198_0
                    replace hx198_1 := (HB.out.cell (World.block_lt_of_cell? w _ hx198_1)).trans hx198_1
                    replace hx198_2 := (HB.out.cell (World.block_lt_of_cell? w _ hx198_2)).trans hx198_2
                    replace p198 := eq_true p198
                    replace q198 := eq_true q198
                    refine start_ (n := 11) (S := fun w' => w'.cell? ⟨gb190, 0, none⟩ = some (.slice A0_0 l0_0.length c0_0) ∧ w'.cell? (ad193.add ((x7_2).toNat * 3)) = some (.slice (some ad198) ((rd_T81 l1 x7_2).f0).length c197_0) ∧ w'.cell? ⟨(ad193.add ((x7_2).toNat * 3)).block, (ad193.add ((x7_2).toNat * 3)).off + 1, none⟩ = some (.int .i64 ((rd_T81 l1 x7_2).f1.f0)) ∧ w'.cell? ⟨(ad193.add ((x7_2).toNat * 3)).block, (ad193.add ((x7_2).toNat * 3)).off + 2, none⟩ = some (.int .i64 ((rd_T81 l1 x7_2).f1.f1)) ∧ w'.cell? (ad198.add ((x9_4).toNat * 3)) = some (.int .i64 ((rd_T56 ((rd_T81 l1 x7_2).f0) x9_4).f0)) ∧ w'.cell? ⟨(ad198.add ((x9_4).toNat * 3)).block, (ad198.add ((x9_4).toNat * 3)).off + 1, none⟩ = some (.int .i64 ((rd_T56 ((rd_T81 l1 x7_2).f0) x9_4).f1.f0)) ∧ w'.cell? ⟨(ad198.add ((x9_4).toNat * 3)).block, (ad198.add ((x9_4).toNat * 3)).off + 2, none⟩ = some (.int .i64 ((rd_T56 ((rd_T81 l1 x7_2).f0) x9_4).f1.f1))) (ds := []) #[ff,ff,ff,ff,ff,ff,ff,ff,ff,ff,ff] (by kernel_rfl) rfl rfl ⟨(b4 BK190.out 0).trans rfl, ((HB.out.cell (World.block_lt_of_cell? w _ hw197_0)).trans hw197_0), ((HB.out.cell (World.block_lt_of_cell? w _ hw197_1)).trans hw197_1), ((HB.out.cell (World.block_lt_of_cell? w _ hw197_2)).trans hw197_2), ((HB.out.cell (World.block_lt_of_cell? w _ hw198_0)).trans hw198_0), ((HB.out.cell (World.block_lt_of_cell? w _ hw198_1)).trans hw198_1), ((HB.out.cell (World.block_lt_of_cell? w _ hw198_2)).trans hw198_2)⟩ (fun hHeld => ?_); refine with_tabW tensileref05_Fault.tab20 tensileref05_Fault.bits20 (fun HT_ HW_ => ?_)
                    generalize wr.drew = w36 at BK190 BK194 HB HR197_0 hx197_0 hx197_1 hx197_2 hx198_0 hx198_1 hx198_2 hHeld ⊢
                    refine pure_ (i := 1) (N := some 64) (v := ?_) (a' := ?_) #[ff,tt,ff,ff,ff,ff,ff,ff,ff,ff,ff] rfl rfl (any_of HT_.out (by kernel_rfl)) (fun _ _ _ h => h) (Or.inl ⟨by rfl, ?_⟩) ?_ ?_
                    rotate_left
                    ·
                     intro w'
                     go_simp
                     with_reducible rfl
                    rotate_left
                    ·
                     simp only [Act.put, l1, l2, l3, i64_w, i32_w]
                     rfl
                    refine pure_ (i := 2) (N := some 65) (v := ?_) (a' := ?_) #[ff,tt,tt,ff,ff,ff,ff,ff,ff,ff,ff] rfl rfl (any_of HT_.out (by kernel_rfl)) (fun _ _ _ h => h) (Or.inl ⟨by rfl, ?_⟩) ?_ ?_
                    rotate_left
                    ·
                     intro w'
                     go_simp
                     with_reducible rfl
                    rotate_left
                    ·
                     simp only [Act.put, l1, l2, l3, i64_w, i32_w]
                     rfl
                    refine pure_ (i := 3) (N := some 66) (v := ?_) (a' := ?_) #[ff,tt,tt,tt,ff,ff,ff,ff,ff,ff,ff] rfl rfl (any_of HT_.out (by kernel_rfl)) (fun _ _ _ h => h) (Or.inl ⟨by rfl, ?_⟩) ?_ ?_
                    rotate_left
                    ·
                     intro w'
                     go_simp
                     with_reducible rfl
                    rotate_left
                    ·
                     simp only [Act.put, l1, l2, l3, i64_w, i32_w]
                     rfl
                    refine pure_ (i := 4) (N := some 67) (v := ?_) (a' := ?_) #[ff,tt,tt,tt,tt,ff,ff,ff,ff,ff,ff] rfl rfl (any_of HT_.out (by kernel_rfl)) (fun _ _ _ h => h) (Or.inl ⟨by rfl, ?_⟩) ?_ ?_
                    rotate_left
                    ·
                     intro w'
                     go_simp
                     with_reducible rfl
                    rotate_left
                    ·
                     simp only [Act.put, l1, l2, l3, i64_w, i32_w]
                     rfl
                    refine pure_ (i := 6) (N := some 69) (v := ?_) (a' := ?_) #[ff,tt,tt,tt,tt,ff,tt,ff,ff,ff,ff] rfl rfl (any_of HT_.out (by kernel_rfl)) (fun _ _ _ h => h) (Or.inl ⟨by rfl, ?_⟩) ?_ ?_
                    rotate_left
                    ·
                     intro w'
                     go_simp
                     with_reducible rfl
                    rotate_left
                    ·
                     simp only [Act.put, l1, l2, l3, i64_w, i32_w]
                     rfl
                    refine take_ (i := 0) (N := some 63) (v := ?_) (a' := ?_) #[tt,tt,tt,tt,tt,ff,tt,ff,ff,ff,ff] rfl rfl (take_ofW HT_.out HW_.out (by kernel_rfl)) (fun _ _ _ h => h) (Or.inl ⟨by rfl, ?_⟩) hHeld ?_ ?_
                    rotate_left
                    ·
                     rintro w' ⟨s0, s1, s2, s3, s4, s5, s6⟩
                     go_simp
                     with_reducible rfl
                    rotate_left
                    ·
                     simp only [Act.put, l1, l2, l3, i64_w, i32_w]
                     rfl
                    refine take_ (i := 5) (N := some 68) (v := ?_) (a' := ?_) #[tt,tt,tt,tt,tt,tt,tt,ff,ff,ff,ff] rfl rfl (take_ofW HT_.out HW_.out (by kernel_rfl)) (fun _ _ _ h => h) (Or.inl ⟨by rfl, ?_⟩) hHeld ?_ ?_
                    rotate_left
                    ·
                     rintro w' ⟨s0, s1, s2, s3, s4, s5, s6⟩
                     go_simp
                     with_reducible rfl
                    rotate_left
                    ·
                     simp only [Act.put, l1, l2, l3, i64_w, i32_w]
                     rfl
                    refine pure_ (i := 7) (N := some 70) (v := ?_) (a' := ?_) #[tt,tt,tt,tt,tt,tt,tt,tt,ff,ff,ff] rfl rfl (any_of HT_.out (by kernel_rfl)) (fun _ _ _ h => h) (Or.inl ⟨by rfl, ?_⟩) ?_ ?_
                    rotate_left
                    ·
                     intro w'
                     go_simp
                     with_reducible rfl
                    rotate_left
                    ·
                     simp only [Act.put, l1, l2, l3, i64_w, i32_w]
                     rfl
                    refine take_ (i := 8) (N := some 71) (v := ?_) (a' := ?_) #[tt,tt,tt,tt,tt,tt,tt,tt,tt,ff,ff] rfl rfl (take_ofW HT_.out HW_.out (by kernel_rfl)) (fun _ _ _ h => h) (Or.inl ⟨by rfl, ?_⟩) hHeld ?_ ?_
                    rotate_left
                    ·
                     rintro w' ⟨s0, s1, s2, s3, s4, s5, s6⟩
                     go_simp
                     with_reducible rfl
                    rotate_left
                    ·
                     simp only [Act.put, l1, l2, l3, i64_w, i32_w]
                     rfl
                    refine one_ (i := 9) (N := some 72) #[tt,tt,tt,tt,tt,tt,tt,tt,tt,tt,ff] rfl rfl (one_of HT_.out (by kernel_rfl)) (by decide) (fun K hK => ?_)
                    refine goes_ Try.func75 (by kernel_rfl) rfl #[.agg #[.slice A0_0 l0_0.length c0_0], .agg #[.int .i64 ((rd_T56 ((rd_T81 l1 x7_2).f0) x9_4).f0), .int .i64 ((rd_T56 ((rd_T81 l1 x7_2).f0) x9_4).f1.f0), .int .i64 ((rd_T56 ((rd_T81 l1 x7_2).f0) x9_4).f1.f1)]] (by rfl) rfl rfl (by (try simp only [List.map_toArray, List.map_cons, List.map_nil]); first | done | rfl | (simp only [List.length_drop, List.length_take]; rfl)) ?_
                    with_reducible refine (tensileref05_IsSegment.calls _ _ l0_0 ((rd_T56 ((rd_T81 l1 x7_2).f0) x9_4).f0) ((rd_T56 ((rd_T81 l1 x7_2).f0) x9_4).f1.f0) ((rd_T56 ((rd_T81 l1 x7_2).f0) x9_4).f1.f1) false _ ?side1 ?side2 A32.out).mono ?_
                    (case side1 => repeat (first | exact (k16 HR0_0.out HB.out) | (with_reducible refine k13 ?_ _) | (with_reducible refine k14 ?_ _) | (with_reducible refine k15 ?_)))
                    (case side2 => exact HC0_0.out)
                    rintro e w37 ⟨rfl, hb⟩
                    refine ⟨_, rfl, ?_⟩
                    have n0_ := Aside0.mk (b5 (g := gb190) (o := .cells #[.slice A0_0 l0_0.length c0_0] 24 (0, 0)) (by (with_reducible repeat (first | refine b0 ?_ _ | refine b1 ?_ | refine b2 ?_ _)); exact BK190.out) hb)
                    have n1_ := Aside0.mk (b5 (g := gb194) (o := .cells #[.int .i64 ((rd_T81 l1 x7_2).f1.f0), .int .i64 ((rd_T81 l1 x7_2).f1.f1)] 54 (0, 0)) (by (with_reducible repeat (first | refine b0 ?_ _ | refine b1 ?_ | refine b2 ?_ _)); exact BK194.out) hb)
                    have n2_ := Aside0.mk (b13 (by repeat (first | (with_reducible first | exact HB.out | apply b8 | apply b6 | apply b7 | refine b3 ?_ GE190.out | refine b3 ?_ GE194.out) | exact HB.out)) hb)
                    clear BK190
                    clear BK194
                    clear HB
                    have BK190 := n0_
                    have BK194 := n1_
                    have HB := n2_
                    clear n0_ n1_ n2_
                    (try clear hb)
                    (try clear hb2)
                    (try clear hk)
                    (try clear hi)
                    refine hK.out _ _ ⟨(b4 BK190.out 0).trans rfl, ((HB.out.cell (World.block_lt_of_cell? w _ hw197_0)).trans hw197_0), ((HB.out.cell (World.block_lt_of_cell? w _ hw197_1)).trans hw197_1), ((HB.out.cell (World.block_lt_of_cell? w _ hw197_2)).trans hw197_2), ((HB.out.cell (World.block_lt_of_cell? w _ hw198_0)).trans hw198_0), ((HB.out.cell (World.block_lt_of_cell? w _ hw198_1)).trans hw198_1), ((HB.out.cell (World.block_lt_of_cell? w _ hw198_2)).trans hw198_2)⟩ (fun hHeld => ?_)
                    clear hK K
                    refine norm_ (a' := ?_) ?_ ?_
                    rotate_left
                    ·
                     show Act.put _ (some 72) _ = _
                     simp only [Act.put, l1, l2, l3, i64_w, i32_w]
                     rfl
                    refine pure_ (i := 10) (N := some 73) (v := ?_) (a' := ?_) #[tt,tt,tt,tt,tt,tt,tt,tt,tt,tt,tt] rfl rfl (any_of HT_.out (by kernel_rfl)) (fun _ _ _ h => h) (Or.inl ⟨by rfl, ?_⟩) ?_ ?_
                    rotate_left
                    ·
                     intro w'
                     go_simp
                     with_reducible rfl
                    rotate_left
                    ·
                     simp only [Act.put, l1, l2, l3, i64_w, i32_w]
                     rfl
                    refine done_ (done_of HT_.out (by kernel_rfl)) ?_
                    try go_wp2
                    go_ret
                    exact ⟨by first | rfl | (simp [errW_none, errW_some] <;> rfl) | (simp [*, errW_none, errW_some] <;> rfl), by repeat (first | (with_reducible first | exact HB.out | apply b8 | apply b6 | apply b7 | refine b3 ?_ GE190.out | refine b3 ?_ GE194.out) | exact HB.out)⟩
                  ·
                   rw [if_neg c31] at H
                   exact absurd H (by simp)
                 ·
                  rw [if_neg c30] at H
                  have c30b0 : decide (x9_4 < (((rd_T81 l1 x7_2).f0).length : Int)) = false := decide_eq_false c30
                  clear c30
                  have H' := Aside0.mk H
                  clear H
                  have p196 : 0 ≤ (x7_2 : Int) := of_decide_eq_true (by first | (with_reducible assumption) | assumption)
                  have q196 : x7_2 < (l1.length : Int) := of_decide_eq_true (by first | (with_reducible assumption) | assumption)
                  obtain ⟨ad196, A196_0, c196_0, e196, hx196_0, hx196_1, hx196_2, hl196_0, hi196_0⟩ := at_T81 HR1.out x7_2 p196 q196
                  obtain rfl : ad193 = ad196 := (by injection e196)
                  replace hx196_0 := (HB.out.cell (World.block_lt_of_cell? w _ hx196_0)).trans hx196_0
                  replace hx196_1 := (HB.out.cell (World.block_lt_of_cell? w _ hx196_1)).trans hx196_1
                  replace hx196_2 := (HB.out.cell (World.block_lt_of_cell? w _ hx196_2)).trans hx196_2
                  have HR196_0 := Aside0.mk hi196_0
                  have HC196_0 := Aside0.mk hl196_0
                  clear hi196_0 hl196_0
                  replace p196 := eq_true p196
                  replace q196 := eq_true q196
                  go_wp2
                  go_roundg k4
                  case measure => have := HK1.out; have := HK2.out; have := HJ16.out; have := HK4.out; omega
                  case rel => exact ⟨(wrap64 (x7_2 + 1)), (by first | rfl | (simp; done) | (simp [*]; done)), H', ⟨by have := HK1.out; have := HK2.out; have := HJ16.out; have := HK4.out; omega⟩, ⟨by (with_reducible repeat (first | refine b0 ?_ _ | refine b1 ?_ | refine b2 ?_ _)); exact BK190.out⟩, ⟨by repeat (first | (with_reducible first | exact HB.out | apply b8 | apply b6 | apply b7 | refine b3 ?_ GE190.out | refine b3 ?_ GE194.out) | exact HB.out)⟩⟩
                ·
                 rw [if_neg c29] at H
                 exact absurd H (by simp)
               ·
                rw [if_neg c28] at H
                exact absurd H (by simp)
         ·
          rw [if_neg c16] at H
          exact absurd H (by simp)
        ·
         rw [if_neg c15] at H
         have c15b0 : decide (x7_2 < (l1.length : Int)) = false := decide_eq_false c15
         clear c15
         obtain rfl := Option.some.inj H
         go_wp2
         go_ret
         exact ⟨by first | rfl | (simp [errW_none, errW_some] <;> rfl) | (simp [*, errW_none, errW_some] <;> rfl), by repeat (first | (with_reducible first | exact HB.out | apply b8 | apply b6 | apply b7 | refine b3 ?_ GE190.out) | exact HB.out)⟩
 ·
  rw [if_neg c4] at H
  have c4b0 : (t191 == 0) = false := beq_eq_false_iff_ne.mpr c4
  have c4b1 : (t191 != 0) = true := bne_iff_ne.mpr c4
  obtain rfl := Option.some.inj H
  go_enter Try.func76, Try.ntmps76
  go_wp2_with (first | ((with_reducible refine gate_dst (N := 2) rfl ?_); refine box_event ?hg (N := 2) ?hd (cs := #[.slice A0_0 l0_0.length c0_0]) (t := 24) ?hr ?_; (case hd => rfl); (case hg => rfl); (case hr => first | (go_simp; done) | (go_simp; rfl)); intro gb190 hg w38 hbox hb; have n0_ := Aside0.mk (b13 (by repeat (first | (with_reducible first | exact HB.out | apply b8 | apply b6 | apply b7) | exact HB.out)) hb); have n1_ := Aside0.mk (hbox); have n2_ := Aside0.mk ((by rw [hg]; exact (b12 (by repeat (first | (with_reducible first | exact HB.out | apply b8 | apply b6 | apply b7) | exact HB.out))) : w.heap.size ≤ gb190)); have n3_ := Aside0.mk ((by rw [hg]; exact (b12 (by repeat (first | (with_reducible first | exact HB.out | apply b8 | apply b6 | apply b7) | exact HB.out))) : w.heap.size ≤ gb190)); clear HB; have HB := n0_; have BK190 := n1_; have GW190 := n2_; have GE190 := n3_; clear n0_ n1_ n2_ n3_; clear hb hbox hg; have hcz39_0 : w38.cell? ⟨gb190, 0, none⟩ = some (.slice A0_0 l0_0.length c0_0) := (b4 BK190.out 0).trans rfl; have hfz39_0 := b9 BK190.out 0) | ((with_reducible refine gate_callee (f := 48) rfl ?_); refine goesL_ (some 11) rfl rfl Try.func48 (by kernel_rfl) rfl #[.agg #[.slice A0_0 l0_0.length c0_0]] rfl (by (try simp only [List.map_toArray, List.map_cons, List.map_nil]); first | done | rfl | (simp only [List.length_drop, List.length_take]; rfl)) ?_; (with_reducible refine (tensileref05_MaterialFault.calls k _ _ l0_0 t191 _ ?side1 ?side2 A3.out).mono ?_); (case side1 => repeat (first | exact (k16 HR0_0.out HB.out) | (with_reducible refine k13 ?_ _) | (with_reducible refine k14 ?_ _) | (with_reducible refine k15 ?_))); (case side2 => exact HC0_0.out); rintro e w40 ⟨rfl, hb⟩; refine ⟨_, rfl, ?_⟩; have n0_ := Aside0.mk (b5 (g := gb190) (o := .cells #[.slice A0_0 l0_0.length c0_0] 24 (0, 0)) (by (with_reducible repeat (first | refine b0 ?_ _ | refine b1 ?_ | refine b2 ?_ _)); exact BK190.out) hb); have n1_ := Aside0.mk (b13 (by repeat (first | (with_reducible first | exact HB.out | apply b8 | apply b6 | apply b7 | refine b3 ?_ GE190.out) | exact HB.out)) hb); clear BK190; clear HB; have BK190 := n0_; have HB := n1_; clear n0_ n1_; (try clear hb); (try clear hb2); (try clear hk); (try clear hi)))
  go_ret
  exact ⟨by first | rfl | (simp [errW_none, errW_some] <;> rfl) | (simp [*, errW_none, errW_some] <;> rfl), by repeat (first | (with_reducible first | exact HB.out | apply b8 | apply b6 | apply b7 | refine b3 ?_ GE190.out) | exact HB.out)⟩
end Go.Proofs.Ytdagijgoegkphaa.P

namespace Go.Proofs.Ytdagijgoegkphaa.P
open Go.RowKit Go.Proofs.YtdagijgoegkphaaW.PrintWords Go.Proofs.YtdagijgoegkphaaW.PrintLast Go.Proofs.YtdagijgoegkphaaW.PrintMore
open Go.Proofs.YtdagijgoegkphaaW.PrintWords renaming blk_drewN → b0, blk_drew → b1, blk_alloc → b2, below_set → b3, blk_cell → b4, blk_below → b5, pw_below_drewN → b6, below_drew1 → b7, below_alloc → b8, blk_frozen → b9, below_size → b12, below_step → b13
open Go.Proofs.YtdagijgoegkphaaW.PrintWords.Kd renaming C_alloc → k13, C_drewN → k14, C_drew → k15, C_below → k16
attribute [local go_sem] max2_int min2_int max_two min_two max_three min_three max_four min_four   -- for this text's walks alone
def tensilelaw05_fault.f (k : Nat) (l0_0 : List (S54)) (l1 : List (S81)) : Option (Int) := (tensileref05_Fault.f k l0_0 l1).bind fun t201 => (some t201)
set_option maxHeartbeats 8000000 in
set_option maxRecDepth 100000 in
theorem tensilelaw05_fault.calls (k : Nat) (A0_0 : Option Addr) (c0_0 : Nat) (l0_0 : List (S54)) (A1 : Option Addr) (c1 : Nat) (l1 : List (S81)) (r : Int) (w : World) (hr0_0 : Kd.C k54 w A0_0 l0_0.length l0_0) (hc0_0 : l0_0.length ≤ c0_0) (hr1 : Kd.C k81 w A1 l1.length l1) (hc1 : l1.length ≤ c1) (h : tensilelaw05_fault.f k l0_0 l1 = some r) :
  Calls Try.prog 49 #[.agg #[.slice A0_0 l0_0.length c0_0], .slice A1 l1.length c1] w fun e w' => e = .returned (.int .i64 r) ∧ Below w.heap.size w w' := by
 have hu24 := Try.underlying24
 have HR0_0 := Aside0.mk hr0_0
 have HC0_0 := Aside0.mk hc0_0
 clear hr0_0 hc0_0
 have HR1 := Aside0.mk hr1
 have HC1 := Aside0.mk hc1
 clear hr1 hc1
 have HB := Aside0.mk (Below.refl w.heap.size w)
 have H : ((tensileref05_Fault.f k l0_0 l1).bind fun t201 => (some t201)) = some r := h
 clear h
 replace H := Option.bind_eq_some_iff.mp H
 obtain ⟨t201, A30, H⟩ := H
 replace H : (some t201) = some r := H
 have A3 := Aside0.mk A30
 clear A30
 obtain rfl := Option.some.inj H
 go_enter Try.func49, Try.ntmps49
 go_wp2_with (first | ((with_reducible refine gate_dst (N := 2) rfl ?_); refine box_event ?hg (N := 2) ?hd (cs := #[.slice A0_0 l0_0.length c0_0]) (t := 24) ?hr ?_; (case hd => rfl); (case hg => rfl); (case hr => first | (go_simp; done) | (go_simp; rfl)); intro gb200 hg w4 hbox hb; have n0_ := Aside0.mk (b13 (by repeat (first | (with_reducible first | exact HB.out | apply b8 | apply b6 | apply b7) | exact HB.out)) hb); have n1_ := Aside0.mk (hbox); have n2_ := Aside0.mk ((by rw [hg]; exact (b12 (by repeat (first | (with_reducible first | exact HB.out | apply b8 | apply b6 | apply b7) | exact HB.out))) : w.heap.size ≤ gb200)); have n3_ := Aside0.mk ((by rw [hg]; exact (b12 (by repeat (first | (with_reducible first | exact HB.out | apply b8 | apply b6 | apply b7) | exact HB.out))) : w.heap.size ≤ gb200)); clear HB; have HB := n0_; have BK200 := n1_; have GW200 := n2_; have GE200 := n3_; clear n0_ n1_ n2_ n3_; clear hb hbox hg; have hcz5_0 : w4.cell? ⟨gb200, 0, none⟩ = some (.slice A0_0 l0_0.length c0_0) := (b4 BK200.out 0).trans rfl; have hfz5_0 := b9 BK200.out 0) | ((with_reducible refine gate_callee (f := 76) rfl ?_); refine goesL_ (some 7) rfl rfl Try.func76 (by kernel_rfl) rfl #[.agg #[.slice A0_0 l0_0.length c0_0], .slice A1 l1.length c1] rfl (by (try simp only [List.map_toArray, List.map_cons, List.map_nil]); first | done | rfl | (simp only [List.length_drop, List.length_take]; rfl)) ?_; (with_reducible refine (tensileref05_Fault.calls k _ _ l0_0 _ _ l1 t201 _ ?side1 ?side2 ?side3 ?side4 A3.out).mono ?_); (case side1 => repeat (first | exact (k16 HR0_0.out HB.out) | (with_reducible refine k13 ?_ _) | (with_reducible refine k14 ?_ _) | (with_reducible refine k15 ?_))); (case side2 => exact HC0_0.out); (case side3 => repeat (first | exact (k16 HR1.out HB.out) | (with_reducible refine k13 ?_ _) | (with_reducible refine k14 ?_ _) | (with_reducible refine k15 ?_))); (case side4 => exact HC1.out); rintro e w6 ⟨rfl, hb⟩; refine ⟨_, rfl, ?_⟩; have n0_ := Aside0.mk (b5 (g := gb200) (o := .cells #[.slice A0_0 l0_0.length c0_0] 24 (0, 0)) (by (with_reducible repeat (first | refine b0 ?_ _ | refine b1 ?_ | refine b2 ?_ _)); exact BK200.out) hb); have n1_ := Aside0.mk (b13 (by repeat (first | (with_reducible first | exact HB.out | apply b8 | apply b6 | apply b7 | refine b3 ?_ GE200.out) | exact HB.out)) hb); clear BK200; clear HB; have BK200 := n0_; have HB := n1_; clear n0_ n1_; (try clear hb); (try clear hb2); (try clear hk); (try clear hi)))
 go_ret
 exact ⟨by first | rfl | (simp [errW_none, errW_some] <;> rfl) | (simp [*, errW_none, errW_some] <;> rfl), by repeat (first | (with_reducible first | exact HB.out | apply b8 | apply b6 | apply b7 | refine b3 ?_ GE200.out) | exact HB.out)⟩
end Go.Proofs.Ytdagijgoegkphaa.P

namespace Go.Proofs.Ytdagijgoegkphaa.Pure
open Go.RowKit Go.Proofs.YtdagijgoegkphaaW.PrintWords Go.Proofs.YtdagijgoegkphaaW.PrintLast Go.Proofs.YtdagijgoegkphaaW.PrintMore Go.Proofs.Ytdagijgoegkphaa.P
open Hand (Rg Sg Rn Nm Rt)
theorem hmx (a b : Int) : Hand.mx a b = mx a b := rfl
def matRun : Int → List Rg → Bool
  | _, [] => true
  | least, m :: l => decide (mx least m.lo ≤ m.hi) && matRun (mx least m.lo) l
theorem mx_le {a b c : Int} : mx a b ≤ c ↔ a ≤ c ∧ b ≤ c := by unfold mx; split <;> omega
theorem mx_mono {a b c : Int} (h : a ≤ b) : mx a c ≤ mx b c := by unfold mx; split <;> split <;> omega
theorem matRun_mono : ∀ (l : List Rg) (a b : Int), a ≤ b → matRun b l = true → matRun a l = true
  | [], _, _, _, _ => rfl
  | m :: l, a, b, h, hb => by
    unfold matRun at hb ⊢
    simp only [Bool.and_eq_true, decide_eq_true_eq] at hb ⊢
    have := mx_mono (c := m.lo) h
    exact ⟨by omega, matRun_mono l _ _ this hb.2⟩
theorem upFrom_mem : ∀ (k : Nat) (low x : Int), low ≤ x → x < low + k → x ∈ Hand.upFrom low k
  | 0, low, x, h1, h2 => by omega
  | k + 1, low, x, h1, h2 => by
    unfold Hand.upFrom
    by_cases e : x = low
    · rw [e]; exact List.mem_cons_self
    · exact List.mem_cons_of_mem _ (upFrom_mem k (low + 1) x (by omega) (by omega))
theorem get_set (r : Rt) (k : Nat) (h : k < 3) (n : Int) : (r.set k n).get k = n := by
  match k, h with
  | 0, _ => rfl
  | 1, _ => rfl
  | 2, _ => rfl
theorem lsFrom_some (ms : List Rg) (hms : ms.length ≤ 3) (hlo : ∀ m ∈ ms, 0 ≤ m.lo) : ∀ (d band : Nat) (r : Rt), band + d = ms.length →
    (Hand.lsFrom ms d band r ≠ [] ↔ matRun (if band = 0 then 0 else r.get (band - 1)) (ms.drop band) = true)
  | 0, band, r, hb => by
    rw [List.drop_of_length_le (by omega)]
    simp [Hand.lsFrom, matRun]
  | d + 1, band, r, hb => by
    have hlt : band < ms.length := by omega
    have hm := hlo ms[band] (List.getElem_mem hlt)
    have hlow : Hand.lowAt ms r band = mx (if band = 0 then 0 else r.get (band - 1)) (ms[band]).lo := by
      unfold Hand.lowAt
      rw [List.getElem?_eq_getElem hlt]
      dsimp only
      by_cases h0 : band = 0
      · rw [if_neg (by omega), if_pos h0]; unfold mx; split <;> omega
      · rw [if_pos (by omega), if_neg h0, hmx]; unfold mx; split <;> split <;> omega
    have hhi : Hand.hiAt ms band = (ms[band]).hi := by
      unfold Hand.hiAt
      rw [List.getElem?_eq_getElem hlt]
    rw [List.drop_eq_getElem_cons hlt]
    unfold Hand.lsFrom matRun
    rw [hlow, hhi]
    simp only [Bool.and_eq_true, decide_eq_true_eq]
    obtain ⟨low, hl⟩ : ∃ low, low = mx (if band = 0 then 0 else r.get (band - 1)) (ms[band]).lo := ⟨_, rfl⟩
    rw [← hl]
    constructor
    · intro h
      obtain ⟨x, hx⟩ := List.exists_mem_of_ne_nil _ h
      obtain ⟨n, hn, hx⟩ := List.mem_flatMap.1 hx
      have hn2 := Hand.mem_upFrom _ _ _ hn
      have h2 := (lsFrom_some ms hms hlo d (band + 1) (r.set band n) (by omega)).1 (List.ne_nil_of_mem hx)
      rw [if_neg (by omega), Nat.add_sub_cancel, get_set r band (by omega)] at h2
      exact ⟨by omega, matRun_mono _ _ _ (by omega) h2⟩
    · rintro ⟨h1, h2⟩
      have h3 := (lsFrom_some ms hms hlo d (band + 1) (r.set band low) (by omega)).2 (by rw [if_neg (by omega), Nat.add_sub_cancel, get_set r band (by omega)]; exact h2)
      obtain ⟨x, hx⟩ := List.exists_mem_of_ne_nil _ h3
      exact List.ne_nil_of_mem (List.mem_flatMap.2 ⟨low, upFrom_mem _ _ _ (by omega) (by omega), hx⟩)
theorem lists_some (ms : List Rg) (hms : ms.length ≤ 3) (hlo : ∀ m ∈ ms, 0 ≤ m.lo) : Hand.lists ms ≠ [] ↔ matRun 0 ms = true := by
  have := lsFrom_some ms hms hlo ms.length 0 ⟨0, 0, 0⟩ (by omega)
  unfold Hand.lists
  simpa using this
theorem rateB_low {x : Rg} (h : Hand.rateB x = true) : 0 ≤ x.lo ∧ x.lo ≤ x.hi ∧ x.hi ≤ 1000 ∧ x.hi - x.lo ≤ 20 := by
  unfold Hand.rateB Hand.uptoB at h
  simp only [Bool.and_eq_true, decide_eq_true_eq] at h
  omega
theorem matFault_l0 : ∀ (suf pre : List S54) (k : Nat) (least : Int), 2 * suf.length + 2 ≤ k → (pre ++ suf).length ≤ 3 → (∀ s ∈ suf, Fits54 s) →
    tensileref05_MaterialFault.l0 k least (pre.length : Int) (pre ++ suf) = some (if (suf.map cRg).all Hand.rateB = true ∧ matRun least (suf.map cRg) = true then 0 else 1) := by
  intro suf
  induction suf with
  | nil =>
    intro pre k least hk _ _
    obtain ⟨k, rfl⟩ : ∃ m, k = m + 1 := ⟨k - 1, by omega⟩
    rw [tensileref05_MaterialFault.l0, if_neg (len_nlt pre)]
    rfl
  | cons s suf ih =>
    intro pre k least hk hl hf
    obtain ⟨k, rfl⟩ : ∃ m, k = m + 2 := ⟨k - 2, by omega⟩
    have hl3 : pre.length + suf.length + 1 ≤ 3 := by simpa [Nat.add_assoc] using hl
    have b0 := fits_in (hf s (by simp)).1
    have b1 := fits_in (hf s (by simp)).2
    have hj1 : ∀ a b, tensileref05_MaterialFault.j1 (k + 1) least (pre.length : Int) true (pre ++ s :: suf) a b = some 1 := fun a b => by rw [tensileref05_MaterialFault.j1, if_pos rfl]
    rw [tensileref05_MaterialFault.l0, if_pos (len_lt pre s suf), if_pos (by omega), rd54, In_f, Option.bind_some, List.map_cons, List.all_cons]
    have hrate : Hand.rateB (cRg s) = decide ((0 ≤ s.f0 ∧ s.f0 ≤ s.f1) ∧ s.f1 ≤ 1000 ∧ s.f1 - s.f0 ≤ 20) := by
      unfold Hand.rateB Hand.uptoB cRg
      rw [Bool.eq_iff_iff]
      simp only [Bool.and_eq_true, decide_eq_true_eq]
      omega
    rw [hrate]
    by_cases h1 : 0 ≤ s.f0 ∧ s.f0 ≤ s.f1
    case neg => rw [decide_eq_false h1, if_neg (by decide), hj1, decide_eq_false (fun h => h1 h.1), if_neg (by simp)]
    rw [decide_eq_true h1, if_pos rfl]
    by_cases h2 : s.f1 > 1000
    case pos => rw [if_pos h2, hj1, decide_eq_false (by omega), if_neg (by simp)]
    rw [if_neg h2, w_id (by omega) (by omega)]
    by_cases h3 : s.f1 - s.f0 > 20
    case pos => rw [decide_eq_true h3, hj1, decide_eq_false (by omega), if_neg (by simp)]
    rw [decide_eq_false h3, tensileref05_MaterialFault.j1, if_neg (by decide), decide_eq_true (show (0 ≤ s.f0 ∧ s.f0 ≤ s.f1) ∧ s.f1 ≤ 1000 ∧ s.f1 - s.f0 ≤ 20 by omega), Bool.true_and]
    unfold matRun
    have ec : (cRg s).lo = s.f0 ∧ (cRg s).hi = s.f1 := ⟨rfl, rfl⟩
    rw [ec.1, ec.2]
    by_cases h4 : mx least s.f0 > s.f1
    case pos => rw [if_pos h4, decide_eq_false (by omega), if_neg (by simp)]
    rw [if_neg h4, decide_eq_true (by omega), Bool.true_and, w_succ _ (by omega)]
    have := ih (pre ++ [s]) k (mx least s.f0) (by simp at hk; omega) (by simpa using hl) (fun x hx => hf x (by simp [hx]))
    rw [snoc_len, List.append_assoc] at this
    exact this
theorem matFault_f (m : List S54) (hf : ∀ s ∈ m, Fits54 s) (hl : m.length ≤ 6) (k : Nat) (hk : 10 ≤ k) : tensileref05_MaterialFault.f k m = some (Hand.matErr (m.map cRg)) := by
  unfold tensileref05_MaterialFault.f Hand.matErr
  rw [In_f, Option.bind_some, List.length_map]
  by_cases h1 : 1 ≤ m.length ∧ m.length ≤ 3
  case neg => rw [decide_eq_false (by omega), if_neg (by decide), if_neg (fun h => h1 h.1)]
  rw [decide_eq_true (by omega), if_pos rfl]
  have := matFault_l0 m [] k 0 (by omega) (by simpa using h1.2) hf
  refine (show tensileref05_MaterialFault.l0 k 0 0 m = tensileref05_MaterialFault.l0 k 0 (([] : List S54).length : Int) ([] ++ m) from rfl).trans (this.trans ?_)
  congr 1
  by_cases h2 : (m.map cRg).all Hand.rateB = true
  · rw [if_pos (show (1 ≤ m.length ∧ m.length ≤ 3) ∧ (m.map cRg).all Hand.rateB = true from ⟨h1, h2⟩)]
    have hlo : ∀ x ∈ m.map cRg, 0 ≤ x.lo := fun x hx => (rateB_low (List.all_eq_true.1 h2 x hx)).1
    have h3 := lists_some (m.map cRg) (by rw [List.length_map]; exact h1.2) hlo
    by_cases h4 : Hand.lists (m.map cRg) = []
    · rw [if_pos h4, if_neg (fun h => (h3.2 h.2) h4)]
    · rw [if_neg h4, if_pos ⟨h2, h3.1 h4⟩]
  · rw [if_neg (fun h => h2 h.1), if_neg (show ¬ ((1 ≤ m.length ∧ m.length ≤ 3) ∧ (m.map cRg).all Hand.rateB = true) from fun h => h2 h.2)]
theorem fault_l2 (m : List S54) (hm : m.length ≤ 6) (rs : List S81) (i : Nat) (hi : i < rs.length) (s : S81) (hs : rs[i] = s) : ∀ (suf pre : List S56) (k k0 : Nat), s.f0 = pre ++ suf → (pre ++ suf).length ≤ 12 → suf.length + 1 + k0 ≤ k → i ≤ 100 →
    (∀ k', k0 ≤ k' → tensileref05_Fault.l1 k' rs ((i : Int) + 1) m = tensileref05_Fault.l1 k0 rs ((i : Int) + 1) m) →
    tensileref05_Fault.l2 k rs (i : Int) (pre.length : Int) m = if (suf.map cSg).all (Hand.segB m.length) = true then tensileref05_Fault.l1 k0 rs ((i : Int) + 1) m else some 1 := by
  have hrd : rd_T81 rs (i : Int) = s := by
    unfold rd_T81
    rw [Int.toNat_natCast, List.getD_eq_getElem?_getD, List.getElem?_eq_getElem hi, Option.getD_some, hs]
  intro suf
  induction suf with
  | nil =>
    intro pre k k0 hps hl hk hi2 hmono
    obtain ⟨k, rfl⟩ : ∃ m, k = m + 1 := ⟨k - 1, by omega⟩
    rw [tensileref05_Fault.l2, if_pos (by omega), if_pos (by omega), hrd, hps, if_neg (len_nlt pre), w_succ _ (by omega), hmono k (by simp at hk; omega)]
    rfl
  | cons x suf ih =>
    intro pre k k0 hps hl hk hi2 hmono
    obtain ⟨k, rfl⟩ : ∃ m, k = m + 1 := ⟨k - 1, by omega⟩
    have hl2 : pre.length + suf.length + 1 ≤ 12 := by simpa [Nat.add_assoc] using hl
    rw [tensileref05_Fault.l2, if_pos (by omega), if_pos (by omega), hrd, hps, if_pos (len_lt pre x suf), if_pos (by omega), rd56, isSegment_f m hm, Option.bind_some, List.map_cons, List.all_cons]
    cases hb : Hand.segB m.length (cSg x) with
    | false => rw [if_neg (by decide)]; simp
    | true =>
      rw [if_pos rfl, w_succ _ (by omega)]
      have := ih (pre ++ [x]) k k0 (by rw [hps]; simp) (by simpa using hl) (by simp at hk; omega) hi2 hmono
      rw [snoc_len] at this
      rw [this, Bool.true_and]
theorem fault_l1 (m : List S54) (hm : m.length ≤ 6) : ∀ (suf pre : List S81) (k : Nat), 15 * suf.length + 1 ≤ k → (pre ++ suf).length ≤ 9 → (∀ x ∈ suf, x.f0.length ≤ 12) →
    tensileref05_Fault.l1 k (pre ++ suf) (pre.length : Int) m = some (if (suf.map cRn).all (Hand.runOk m.length) = true then 0 else 1) := by
  intro suf
  induction suf with
  | nil =>
    intro pre k hk hl hx
    obtain ⟨k, rfl⟩ : ∃ m, k = m + 1 := ⟨k - 1, by omega⟩
    rw [tensileref05_Fault.l1, if_neg (len_nlt pre)]
    rfl
  | cons s suf ih =>
    intro pre k hk hl hx
    obtain ⟨k, rfl⟩ : ∃ m, k = m + 2 := ⟨k - 2, by simp at hk; omega⟩
    have hl2 : pre.length + suf.length + 1 ≤ 9 := by simpa [Nat.add_assoc] using hl
    have hs := hx s (by simp)
    have hrun : Hand.runOk m.length (cRn s) = (decide ((0 ≤ s.f1.f0 ∧ s.f1.f0 ≤ s.f1.f1) ∧ s.f1.f1 ≤ 10000000000) && (s.f0.map cSg).all (Hand.segB m.length)) := by
      unfold Hand.runOk Hand.runB Hand.uptoB cRn
      dsimp only
      congr 1
      rw [Bool.eq_iff_iff]
      simp only [Bool.and_eq_true, decide_eq_true_eq]
    have hj : tensileref05_Fault.j2 (k + 1) (pre ++ s :: suf) (pre.length : Int) true m = some 1 := by rw [tensileref05_Fault.j2, if_pos rfl]
    rw [tensileref05_Fault.l1, if_pos (len_lt pre s suf), if_pos (by omega), rd81, In_f, Option.bind_some, List.map_cons, List.all_cons, hrun]
    by_cases h1 : 0 ≤ s.f1.f0 ∧ s.f1.f0 ≤ s.f1.f1
    case neg => rw [decide_eq_false h1, if_neg (by decide), hj, decide_eq_false (fun h => h1 h.1), if_neg (by simp)]
    rw [decide_eq_true h1, if_pos rfl]
    by_cases h2 : s.f1.f1 > 10000000000
    case pos => rw [decide_eq_true h2, hj, decide_eq_false (by omega), if_neg (by simp)]
    have hnext : ∀ k', 15 * suf.length + 1 ≤ k' → tensileref05_Fault.l1 k' (pre ++ s :: suf) ((pre.length : Int) + 1) m = some (if (suf.map cRn).all (Hand.runOk m.length) = true then 0 else 1) := fun k' h => by
      have := ih (pre ++ [s]) k' h (by simpa using hl) (fun x hx' => hx x (by simp [hx']))
      rw [snoc_len, List.append_assoc] at this
      exact this
    rw [decide_eq_false h2, tensileref05_Fault.j2, if_neg (by decide), decide_eq_true (show (0 ≤ s.f1.f0 ∧ s.f1.f0 ≤ s.f1.f1) ∧ s.f1.f1 ≤ 10000000000 by omega), Bool.true_and]
    have h3 := fault_l2 m hm (pre ++ s :: suf) pre.length (by simp) s (by simp) s.f0 [] k (15 * suf.length + 1) rfl (by simpa using hs) (by simp at hk; omega) (by omega) (fun k' h => by rw [hnext k' h, hnext _ (Nat.le_refl _)])
    have h3' : tensileref05_Fault.l2 k (pre ++ s :: suf) (pre.length : Int) 0 m = _ := h3
    rw [h3', hnext _ (Nat.le_refl _)]
    cases hb : (s.f0.map cSg).all (Hand.segB m.length) with
    | false => rw [if_neg (by decide)]; simp
    | true => rw [if_pos rfl, Bool.true_and]
theorem fault_l0 (m : List S54) (hm : m.length ≤ 6) : ∀ (suf pre : List S81) (k : Nat), suf.length + 150 ≤ k → (pre ++ suf).length ≤ 9 → (∀ x ∈ pre ++ suf, x.f0.length ≤ 12) →
    tensileref05_Fault.l0 k (pre ++ suf) (pre.length : Int) m = some (if (suf.map cRn).all Hand.fewB = true then (if ((pre ++ suf).map cRn).all (Hand.runOk m.length) = true then 0 else 1) else 3) := by
  intro suf
  induction suf with
  | nil =>
    intro pre k hk hl hx
    obtain ⟨k, rfl⟩ : ∃ m, k = m + 1 := ⟨k - 1, by omega⟩
    rw [tensileref05_Fault.l0, if_neg (len_nlt pre)]
    have := fault_l1 m hm (pre ++ []) [] k (by simp at hk hl ⊢; omega) (by simpa using hl) (by simpa using hx)
    exact this
  | cons s suf ih =>
    intro pre k hk hl hx
    obtain ⟨k, rfl⟩ : ∃ m, k = m + 1 := ⟨k - 1, by omega⟩
    have hl2 : pre.length + suf.length + 1 ≤ 9 := by simpa [Nat.add_assoc] using hl
    rw [tensileref05_Fault.l0, if_pos (len_lt pre s suf), if_pos (by omega), rd81, List.map_cons, List.all_cons]
    have hfew : Hand.fewB (cRn s) = decide (s.f0.length ≤ 8) := by unfold Hand.fewB cRn; simp
    rw [hfew]
    by_cases h1 : (s.f0.length : Int) > 8
    case pos => rw [if_pos h1, decide_eq_false (by omega), if_neg (by simp)]
    rw [if_neg h1, decide_eq_true (by omega), Bool.true_and, w_succ _ (by omega)]
    have := ih (pre ++ [s]) k (by simp at hk; omega) (by simpa using hl) (by simpa using hx)
    rw [snoc_len, List.append_assoc] at this
    exact this
theorem fault_f (m : List S54) (r : List S81) (p : List S56) (hs : Small m r p) (hf : ∀ s ∈ m, Fits54 s) (k : Nat) (hk : 160 ≤ k) : tensilelaw05_fault.f k m r = some (Hand.enterErr (m.map cRg) (r.map cRn)) := by
  obtain ⟨h1, h2, _, h3⟩ := hs
  unfold tensilelaw05_fault.f tensileref05_Fault.f Hand.enterErr
  rw [matFault_f m hf h1 k (by omega), Option.bind_some, List.length_map, List.length_map]
  by_cases e : Hand.matErr (m.map cRg) = 0
  case neg => rw [if_neg e, if_neg e]; rfl
  rw [if_pos e, if_pos e]
  by_cases h4 : (r.length : Int) > 6
  case pos => rw [if_pos h4, if_neg (fun h => by omega)]; rfl
  rw [if_neg h4]
  have := fault_l0 m h1 r [] k (by omega) (by simpa using h2) (by simpa using h3)
  have h5 : tensileref05_Fault.l0 k r 0 m = _ := this
  rw [h5]
  show some _ = some _
  congr 1
  by_cases h6 : (r.map cRn).all Hand.fewB = true
  · rw [if_pos h6, if_pos (show r.length ≤ 6 ∧ (r.map cRn).all Hand.fewB = true from ⟨by omega, h6⟩)]; rfl
  · rw [if_neg h6, if_neg (show ¬ (r.length ≤ 6 ∧ (r.map cRn).all Hand.fewB = true) from fun h => h6 h.2)]
end Go.Proofs.Ytdagijgoegkphaa.Pure

namespace Go.Proofs.Ytdagijgoegkphaa.P
open Go.RowKit Go.Proofs.YtdagijgoegkphaaW.PrintWords Go.Proofs.YtdagijgoegkphaaW.PrintLast Go.Proofs.YtdagijgoegkphaaW.PrintMore
open Bool renaming true → tt, false → ff
open List renaming setIfInBounds_toArray → l1, set_cons_zero → l2, set_cons_succ → l3
open Go.Proofs.YtdagijgoegkphaaW.PrintWords renaming blk_drewN → b0, blk_drew → b1, blk_alloc → b2, below_set → b3, blk_cell → b4, blk_below → b5, pw_below_drewN → b6, below_drew1 → b7, below_alloc → b8, blk_frozen → b9, blk_lt → b10, blk_far → b11, below_size → b12, below_step → b13
attribute [local go_sem] max2_int min2_int max_two min_two max_three min_three max_four min_four   -- for this text's walks alone
def tensileref05_Stretch.l0 : Nat → List (S56) → List Int → Int → Int → Int → Option (Int × Int)
 | 0, _, _, _, _, _ => none
 | k + 1, x0, x1, x6, x171000, x171001 => if x6 < (x0.length : Int) then (if 0 ≤ x6 then (if 0 ≤ ((rd_T56 x0 x6).f0) then (if ((rd_T56 x0 x6).f0) < (x1.length : Int) then (tensileref05_Stretch.l0 k x0 x1 (wrap64 (x6 + 1)) (wrap64 (x171000 + (wrap64 ((rd x1 ((rd_T56 x0 x6).f0)) * ((rd_T56 x0 x6).f1.f0))))) (wrap64 (x171001 + (wrap64 ((rd x1 ((rd_T56 x0 x6).f0)) * ((rd_T56 x0 x6).f1.f1)))))) else (none)) else (none)) else (none)) else (some (x171000, x171001))
def tensileref05_Stretch.f (k : Nat) (l0 : List (S56)) (l1 : List Int) : Option (Int × Int) := tensileref05_Stretch.l0 k l0 l1 0 0 0
def tensileref05_Stretch.T6 : Bool × List (List Nat × List Nat) := (true, [([], []), ([0], [0]), ([], []), ([], []), ([3], [3]), ([2, 4], [2, 4]), ([5], [5]), ([], []), ([7], [7]), ([8], [8]), ([6, 9], [6, 9]), ([1, 10], [1, 10]), ([], []), ([12], [12]), ([], []), ([], []), ([15], [15]), ([14, 16], [14, 16]), ([17], [17]), ([], []), ([19], [19]), ([20], [20]), ([18, 21], [18, 21]), ([13, 22], [13, 22]), ([11, 23], [11, 23]), ([24, 0, 1, 2, 3, 4, 5, 6, 7, 8, 9, 10, 11, 12, 13, 14, 15, 16, 17, 18, 19, 20, 21, 22, 23, 24], [24])])
def tensileref05_Stretch.B6 : List Nat := [0, 1, 0, 0, 8, 28, 60, 0, 128, 384, 1020, 2047, 0, 4096, 0, 0, 32768, 114688, 245760, 0, 524288, 1572864, 4177920, 8384512, 16777215, 33554431]
theorem tensileref05_Stretch.tab6 : rtab .any (opsOf Try.f45 6) = tensileref05_Stretch.T6 := by kernel_rfl
theorem tensileref05_Stretch.bits6 : waitsOk tensileref05_Stretch.T6.2 tensileref05_Stretch.B6 = true := by kernel_rfl
set_option maxHeartbeats 8000000 in
set_option maxRecDepth 100000 in
theorem tensileref05_Stretch.calls (k : Nat) (A0 : Option Addr) (c0 : Nat) (l0 : List (S56)) (A1 : Option Addr) (c1 : Nat) (l1 : List Int) (r1 : Int) (r2 : Int) (w : World) (hr0 : Kd.C k56 w A0 l0.length l0) (hc0 : l0.length ≤ c0) (hr1 : Kd.C (Kd.int .i64) w A1 l1.length l1) (hc1 : l1.length ≤ c1) (h : tensileref05_Stretch.f k l0 l1 = some (r1, r2)) :
  Calls Try.prog 45 #[.slice A0 l0.length c0, .slice A1 l1.length c1] w fun e w' => e = .returned (.agg #[.int .i64 r1, .int .i64 r2]) ∧ Below w.heap.size w w' := by
 have hu54 := Try.underlying54
 have hu56 := Try.underlying56
 have HR0 := Aside0.mk hr0
 have HC0 := Aside0.mk hc0
 clear hr0 hc0
 have HR1 := Aside0.mk hr1
 have HC1 := Aside0.mk hc1
 clear hr1 hc1
 have HB := Aside0.mk (Below.refl w.heap.size w)
 have H : (tensileref05_Stretch.l0 k l0 l1 0 0 0) = some (r1, r2) := h
 clear h
 have H' := Aside0.mk H
 clear H
 go_enter Try.func45, Try.ntmps45
 go_wp2_with (first | ((with_reducible refine gate_dst (N := 4) rfl ?_); refine box_event ?hg (N := 4) ?hd (cs := #[.int .i64 0, .int .i64 0]) (t := 54) ?hr ?_; (case hd => rfl); (case hg => rfl); (case hr => first | (go_simp; done) | (go_simp; rfl)); intro gb169 hg w3 hbox hb; have n0_ := Aside0.mk (b13 (by repeat (first | (with_reducible first | exact HB.out | apply b8 | apply b6 | apply b7) | exact HB.out)) hb); have n1_ := Aside0.mk (hbox); have n2_ := Aside0.mk ((by rw [hg]; exact (b12 (by repeat (first | (with_reducible first | exact HB.out | apply b8 | apply b6 | apply b7) | exact HB.out))) : w.heap.size ≤ gb169)); have n3_ := Aside0.mk ((by rw [hg]; exact (b12 (by repeat (first | (with_reducible first | exact HB.out | apply b8 | apply b6 | apply b7) | exact HB.out))) : w.heap.size ≤ gb169)); clear HB; have HB := n0_; have BK169 := n1_; have GW169 := n2_; have GE169 := n3_; clear n0_ n1_ n2_ n3_; clear hb hbox hg) | ((with_reducible refine gate_dst (N := 5) rfl ?_); refine box_event ?hg (N := 5) ?hd (cs := #[.int .i64 0, .int .i64 0]) (t := 54) ?hr ?_; (case hd => rfl); (case hg => rfl); (case hr => first | (go_simp; done) | (go_simp; rfl)); intro gb170 hg w4 hbox hb; have n0_ := Aside0.mk (b5 (g := gb169) (o := .cells #[.int .i64 0, .int .i64 0] 54 (0, 0)) (by (with_reducible repeat (first | refine b0 ?_ _ | refine b1 ?_ | refine b2 ?_ _)); exact BK169.out) hb); have n1_ := Aside0.mk (b13 (by repeat (first | (with_reducible first | exact HB.out | apply b8 | apply b6 | apply b7 | refine b3 ?_ GE169.out) | exact HB.out)) hb); have n2_ := Aside0.mk (hbox); have n3_ := Aside0.mk ((by rw [hg]; exact (b12 (by repeat (first | (with_reducible first | exact HB.out | apply b8 | apply b6 | apply b7 | refine b3 ?_ GE169.out) | exact HB.out))) : w.heap.size ≤ gb170)); have n4_ := Aside0.mk ((by rw [hg]; exact (b12 (by repeat (first | (with_reducible first | exact HB.out | apply b8 | apply b6 | apply b7 | refine b3 ?_ GE169.out) | exact HB.out))) : w.heap.size ≤ gb170)); have n5_ := Aside0.mk ((by rw [hg]; exact Nat.ne_of_lt (b10 (g := gb169) (o := .cells #[.int .i64 0, .int .i64 0] 54 (0, 0)) (by (with_reducible repeat (first | refine b0 ?_ _ | refine b1 ?_ | refine b2 ?_ _)); exact BK169.out)) : gb169 ≠ gb170)); have n6_ := Aside0.mk ((by rw [hg]; exact Nat.ne_of_gt (b10 (g := gb169) (o := .cells #[.int .i64 0, .int .i64 0] 54 (0, 0)) (by (with_reducible repeat (first | refine b0 ?_ _ | refine b1 ?_ | refine b2 ?_ _)); exact BK169.out)) : gb170 ≠ gb169)); clear BK169; clear HB; have BK169 := n0_; have HB := n1_; have BK170 := n2_; have GW170 := n3_; have GE170 := n4_; have NB169_170 := n5_; have NB170_169 := n6_; clear n0_ n1_ n2_ n3_ n4_ n5_ n6_; clear hb hbox hg))
 go_loopg [6] k (fun kq v6 w' => ∃ (x6_1 : Int) (x171000_1 : Int) (x171001_1 : Int), v6 = .int .i64 x6_1 ∧ Aside0 (tensileref05_Stretch.l0 kq l0 l1 x6_1 x171000_1 x171001_1 = some (r1, r2)) ∧ Aside0 (kq ≤ k) ∧ Aside0 (w'.heap[gb169]? = some (.cells #[.int .i64 0, .int .i64 0] 54 (0, 0))) ∧ Aside0 (w'.heap[gb170]? = some (.cells #[.int .i64 x171000_1, .int .i64 x171001_1] 54 (0, 0))) ∧ Aside0 (Below w.heap.size w w'))
 case atStart => exact ⟨(0), (0), (0), (by first | rfl | (simp; done) | (simp [*]; done)), H', ⟨Nat.le_refl _⟩, ⟨by (with_reducible repeat (first | refine b0 ?_ _ | refine b1 ?_ | refine b2 ?_ _)); exact BK169.out⟩, ⟨by (with_reducible repeat (first | refine b0 ?_ _ | refine b1 ?_ | refine b2 ?_ _)); exact BK170.out⟩, ⟨by repeat (first | (with_reducible first | exact HB.out | apply b8 | apply b6 | apply b7 | refine b3 ?_ GE169.out | refine b3 ?_ GE170.out) | exact HB.out)⟩⟩
 case round =>
  clear H'
  try clear c1
  try clear p2
  try clear c4
  obtain ⟨x6_1, x171000_1, x171001_1, rfl, HA, HK1, BK169, BK170, HB⟩ := hrel
  cases gk with
  | zero => exact absurd HA.out (by simp [tensileref05_Stretch.l0])
  | succ k1 =>
   have H := HA.out
   clear HA
   simp only [tensileref05_Stretch.l0] at H
   by_cases c5 : x6_1 < (l0.length : Int)
   ·
    rw [if_pos c5] at H
    have c5b0 : decide (x6_1 < (l0.length : Int)) = true := decide_eq_true c5
    clear c5
    by_cases c6 : 0 ≤ x6_1
    ·
     rw [if_pos c6] at H
     have c6b0 : decide (0 ≤ x6_1) = true := decide_eq_true c6
     clear c6
     by_cases c7 : 0 ≤ ((rd_T56 l0 x6_1).f0)
     ·
      rw [if_pos c7] at H
      have c7b0 : decide (0 ≤ ((rd_T56 l0 x6_1).f0)) = true := decide_eq_true c7
      clear c7
      by_cases c8 : ((rd_T56 l0 x6_1).f0) < (l1.length : Int)
      ·
       rw [if_pos c8] at H
       have c8b0 : decide (((rd_T56 l0 x6_1).f0) < (l1.length : Int)) = true := decide_eq_true c8
       clear c8
       have H' := Aside0.mk H
       clear H
       have p171 : 0 ≤ (x6_1 : Int) := of_decide_eq_true (by first | (with_reducible assumption) | assumption)
       have q171 : x6_1 < (l0.length : Int) := of_decide_eq_true (by first | (with_reducible assumption) | assumption)
       obtain ⟨ad171, e171, hx171_0, hx171_1, hx171_2⟩ := at_T56 HR0.out x6_1 p171 q171
       cases e171
       replace hx171_0 := (HB.out.cell (World.block_lt_of_cell? w _ hx171_0)).trans hx171_0
       replace hx171_1 := (HB.out.cell (World.block_lt_of_cell? w _ hx171_1)).trans hx171_1
       replace hx171_2 := (HB.out.cell (World.block_lt_of_cell? w _ hx171_2)).trans hx171_2
       replace p171 := eq_true p171
       replace q171 := eq_true q171
       try go_wp2_with (first | ((with_reducible refine gate_dst (N := 7) rfl ?_); refine box_event ?hg (N := 7) ?hd (cs := #[.int .i64 0, .int .i64 0, .int .i64 0]) (t := 56) ?hr ?_; (case hd => rfl); (case hg => rfl); (case hr => first | (go_simp; done) | (go_simp; rfl)); intro gb172 hg w9 hbox hb; have n0_ := Aside0.mk (b5 (g := gb169) (o := .cells #[.int .i64 0, .int .i64 0] 54 (0, 0)) (by (with_reducible repeat (first | refine b0 ?_ _ | refine b1 ?_ | refine b2 ?_ _)); exact BK169.out) hb); have n1_ := Aside0.mk (b5 (g := gb170) (o := .cells #[.int .i64 x171000_1, .int .i64 x171001_1] 54 (0, 0)) (by (with_reducible repeat (first | refine b0 ?_ _ | refine b1 ?_ | refine b2 ?_ _)); exact BK170.out) hb); have n2_ := Aside0.mk (b13 (by repeat (first | (with_reducible first | exact HB.out | apply b8 | apply b6 | apply b7 | refine b3 ?_ GE169.out | refine b3 ?_ GE170.out) | exact HB.out)) hb); have n3_ := Aside0.mk (hbox); have n4_ := Aside0.mk ((by rw [hg]; exact (b12 (by repeat (first | (with_reducible first | exact HB.out | apply b8 | apply b6 | apply b7 | refine b3 ?_ GE169.out | refine b3 ?_ GE170.out) | exact HB.out))) : w.heap.size ≤ gb172)); have n5_ := Aside0.mk ((by rw [hg]; exact (b12 (by repeat (first | (with_reducible first | exact HB.out | apply b8 | apply b6 | apply b7 | refine b3 ?_ GE169.out | refine b3 ?_ GE170.out) | exact HB.out))) : w.heap.size ≤ gb172)); have n6_ := Aside0.mk ((by rw [hg]; exact Nat.ne_of_lt (b10 (g := gb169) (o := .cells #[.int .i64 0, .int .i64 0] 54 (0, 0)) (by (with_reducible repeat (first | refine b0 ?_ _ | refine b1 ?_ | refine b2 ?_ _)); exact BK169.out)) : gb169 ≠ gb172)); have n7_ := Aside0.mk ((by rw [hg]; exact Nat.ne_of_gt (b10 (g := gb169) (o := .cells #[.int .i64 0, .int .i64 0] 54 (0, 0)) (by (with_reducible repeat (first | refine b0 ?_ _ | refine b1 ?_ | refine b2 ?_ _)); exact BK169.out)) : gb172 ≠ gb169)); have n8_ := Aside0.mk ((by rw [hg]; exact Nat.ne_of_lt (b10 (g := gb170) (o := .cells #[.int .i64 x171000_1, .int .i64 x171001_1] 54 (0, 0)) (by (with_reducible repeat (first | refine b0 ?_ _ | refine b1 ?_ | refine b2 ?_ _)); exact BK170.out)) : gb170 ≠ gb172)); have n9_ := Aside0.mk ((by rw [hg]; exact Nat.ne_of_gt (b10 (g := gb170) (o := .cells #[.int .i64 x171000_1, .int .i64 x171001_1] 54 (0, 0)) (by (with_reducible repeat (first | refine b0 ?_ _ | refine b1 ?_ | refine b2 ?_ _)); exact BK170.out)) : gb172 ≠ gb170)); clear BK169; clear BK170; clear HB; have BK169 := n0_; have BK170 := n1_; have HB := n2_; have BK172 := n3_; have GW172 := n4_; have GE172 := n5_; have NB169_172 := n6_; have NB172_169 := n7_; have NB170_172 := n8_; have NB172_170 := n9_; clear n0_ n1_ n2_ n3_ n4_ n5_ n6_ n7_ n8_ n9_; clear hb hbox hg; have hnb10 := NB172_169.out; have hnc10 := NB169_172.out; have hnb11 := NB172_170.out; have hnc11 := NB170_172.out; have hcz12_0 : w9.cell? ⟨gb172, 0, none⟩ = some (.int .i64 0) := (b4 BK172.out 0).trans rfl; have hcz12_1 : w9.cell? ⟨gb172, 1, none⟩ = some (.int .i64 0) := (b4 BK172.out 1).trans rfl; have hcz12_2 : w9.cell? ⟨gb172, 2, none⟩ = some (.int .i64 0) := (b4 BK172.out 2).trans rfl; have hfz12_0 := b9 BK172.out 0; have hfz12_1 := b9 BK172.out 1; have hfz12_2 := b9 BK172.out 2))
       have n0_ : Aside0 ((((w9.setCell ⟨gb172, 0, none⟩ (.int .i64 ((rd_T56 l0 x6_1).f0))).setCell ⟨gb172, 1, none⟩ (.int .i64 ((rd_T56 l0 x6_1).f1.f0))).setCell ⟨gb172, 2, none⟩ (.int .i64 ((rd_T56 l0 x6_1).f1.f1))).heap[gb169]? = some (.cells #[.int .i64 0, .int .i64 0] 54 (0, 0))) := ⟨by (with_reducible repeat (first | refine b0 ?_ _ | refine b1 ?_ | refine b2 ?_ _)); refine b11 ?_ NB169_172.out _; (with_reducible repeat (first | refine b0 ?_ _ | refine b1 ?_ | refine b2 ?_ _)); refine b11 ?_ NB169_172.out _; (with_reducible repeat (first | refine b0 ?_ _ | refine b1 ?_ | refine b2 ?_ _)); refine b11 ?_ NB169_172.out _; (with_reducible repeat (first | refine b0 ?_ _ | refine b1 ?_ | refine b2 ?_ _)); exact BK169.out⟩
       have n1_ : Aside0 ((((w9.setCell ⟨gb172, 0, none⟩ (.int .i64 ((rd_T56 l0 x6_1).f0))).setCell ⟨gb172, 1, none⟩ (.int .i64 ((rd_T56 l0 x6_1).f1.f0))).setCell ⟨gb172, 2, none⟩ (.int .i64 ((rd_T56 l0 x6_1).f1.f1))).heap[gb170]? = some (.cells #[.int .i64 x171000_1, .int .i64 x171001_1] 54 (0, 0))) := ⟨by (with_reducible repeat (first | refine b0 ?_ _ | refine b1 ?_ | refine b2 ?_ _)); refine b11 ?_ NB170_172.out _; (with_reducible repeat (first | refine b0 ?_ _ | refine b1 ?_ | refine b2 ?_ _)); refine b11 ?_ NB170_172.out _; (with_reducible repeat (first | refine b0 ?_ _ | refine b1 ?_ | refine b2 ?_ _)); refine b11 ?_ NB170_172.out _; (with_reducible repeat (first | refine b0 ?_ _ | refine b1 ?_ | refine b2 ?_ _)); exact BK170.out⟩
       have n2_ : Aside0 ((((w9.setCell ⟨gb172, 0, none⟩ (.int .i64 ((rd_T56 l0 x6_1).f0))).setCell ⟨gb172, 1, none⟩ (.int .i64 ((rd_T56 l0 x6_1).f1.f0))).setCell ⟨gb172, 2, none⟩ (.int .i64 ((rd_T56 l0 x6_1).f1.f1))).heap[gb172]? = some (.cells #[.int .i64 ((rd_T56 l0 x6_1).f0), .int .i64 ((rd_T56 l0 x6_1).f1.f0), .int .i64 ((rd_T56 l0 x6_1).f1.f1)] 56 (0, 0))) := ⟨by (with_reducible repeat (first | refine b0 ?_ _ | refine b1 ?_ | refine b2 ?_ _)); refine blk_put (cs := #[.int .i64 ((rd_T56 l0 x6_1).f0), .int .i64 ((rd_T56 l0 x6_1).f1.f0), .int .i64 0]) ?_ 2 _ rfl; (with_reducible repeat (first | refine b0 ?_ _ | refine b1 ?_ | refine b2 ?_ _)); refine blk_put (cs := #[.int .i64 ((rd_T56 l0 x6_1).f0), .int .i64 0, .int .i64 0]) ?_ 1 _ rfl; (with_reducible repeat (first | refine b0 ?_ _ | refine b1 ?_ | refine b2 ?_ _)); refine blk_put (cs := #[.int .i64 0, .int .i64 0, .int .i64 0]) ?_ 0 _ rfl; (with_reducible repeat (first | refine b0 ?_ _ | refine b1 ?_ | refine b2 ?_ _)); exact BK172.out⟩
       have n3_ : Aside0 (Below w.heap.size w (((w9.setCell ⟨gb172, 0, none⟩ (.int .i64 ((rd_T56 l0 x6_1).f0))).setCell ⟨gb172, 1, none⟩ (.int .i64 ((rd_T56 l0 x6_1).f1.f0))).setCell ⟨gb172, 2, none⟩ (.int .i64 ((rd_T56 l0 x6_1).f1.f1)))) := ⟨by repeat (first | (with_reducible first | exact HB.out | apply b8 | apply b6 | apply b7 | refine b3 ?_ GE169.out | refine b3 ?_ GE170.out | refine b3 ?_ GE172.out) | exact HB.out)⟩
       (try clear BK169)
       (try clear BK170)
       (try clear BK172)
       (try clear HB)
       generalize (((w9.setCell ⟨gb172, 0, none⟩ (.int .i64 ((rd_T56 l0 x6_1).f0))).setCell ⟨gb172, 1, none⟩ (.int .i64 ((rd_T56 l0 x6_1).f1.f0))).setCell ⟨gb172, 2, none⟩ (.int .i64 ((rd_T56 l0 x6_1).f1.f1))) = w13 at n0_ n1_ n2_ n3_ ⊢
       have BK169 := n0_
       have BK170 := n1_
       have BK172 := n2_
       have HB := n3_
       clear n0_ n1_ n2_ n3_
       have n0_ := Aside0.mk (b1 BK169.out)
       have n1_ := Aside0.mk (b1 BK170.out)
       have n2_ := Aside0.mk (b1 BK172.out)
       have n3_ := Aside0.mk (b7 HB.out)
       clear BK169
       clear BK170
       clear BK172
       clear HB
       have BK169 := n0_
       have BK170 := n1_
       have BK172 := n2_
       have HB := n3_
       clear n0_ n1_ n2_ n3_
       have p173 : 0 ≤ (((rd_T56 l0 x6_1).f0) : Int) := of_decide_eq_true (by first | (with_reducible assumption) | assumption)
       have q173 : ((rd_T56 l0 x6_1).f0) < (l1.length : Int) := of_decide_eq_true (by first | (with_reducible assumption) | assumption)
       obtain ⟨ad173, e173, hx173_0⟩ := Kd.at_int HR1.out ((rd_T56 l0 x6_1).f0) p173 q173
       have hw173_0 := hx173_0
       cases e173
       replace hx173_0 := (HB.out.cell (World.block_lt_of_cell? w _ hx173_0)).trans hx173_0
       replace p173 := eq_true p173
       replace q173 := eq_true q173
       have p174 : 0 ≤ (((rd_T56 l0 x6_1).f0) : Int) := of_decide_eq_true (by first | (with_reducible assumption) | assumption)
       have q174 : ((rd_T56 l0 x6_1).f0) < (l1.length : Int) := of_decide_eq_true (by first | (with_reducible assumption) | assumption)
       obtain ⟨ad174, e174, hx174_0⟩ := Kd.at_int HR1.out ((rd_T56 l0 x6_1).f0) p174 q174
       have hw174_0 := hx174_0
       obtain rfl : ad173 = ad174 := (by injection e174)
       replace hx174_0 := (HB.out.cell (World.block_lt_of_cell? w _ hx174_0)).trans hx174_0
       replace p174 := eq_true p174
       replace q174 := eq_true q174
       refine start_ (n := 26) (S := fun w' => w'.cell? ⟨gb170, 0, none⟩ = some (.int .i64 x171000_1) ∧ w'.cell? ⟨gb170, 1, none⟩ = some (.int .i64 x171001_1) ∧ w'.cell? ⟨gb172, 0, none⟩ = some (.int .i64 ((rd_T56 l0 x6_1).f0)) ∧ w'.cell? ⟨gb172, 1, none⟩ = some (.int .i64 ((rd_T56 l0 x6_1).f1.f0)) ∧ w'.cell? ⟨gb172, 2, none⟩ = some (.int .i64 ((rd_T56 l0 x6_1).f1.f1)) ∧ w'.cell? (ad173.add (((rd_T56 l0 x6_1).f0)).toNat) = some (.int .i64 (rd l1 ((rd_T56 l0 x6_1).f0))) ∧ w'.cell? (ad173.add (((rd_T56 l0 x6_1).f0)).toNat) = some (.int .i64 (rd l1 ((rd_T56 l0 x6_1).f0)))) (ds := [25]) #[ff,ff,ff,ff,ff,ff,ff,ff,ff,ff,ff,ff,ff,ff,ff,ff,ff,ff,ff,ff,ff,ff,ff,ff,ff,ff] (by kernel_rfl) rfl rfl ⟨(b4 BK170.out 0).trans rfl, (b4 BK170.out 1).trans rfl, (b4 BK172.out 0).trans rfl, (b4 BK172.out 1).trans rfl, (b4 BK172.out 2).trans rfl, ((HB.out.cell (World.block_lt_of_cell? w _ hw173_0)).trans hw173_0), ((HB.out.cell (World.block_lt_of_cell? w _ hw174_0)).trans hw174_0)⟩ (fun hHeld => ?_); refine with_tabW tensileref05_Stretch.tab6 tensileref05_Stretch.bits6 (fun HT_ HW_ => ?_)
       generalize w13.drew = w14 at BK169 BK170 BK172 HB hx173_0 hx174_0 hHeld ⊢
       refine pure_ (i := 0) (N := some 18) (v := ?_) (a' := ?_) #[tt,ff,ff,ff,ff,ff,ff,ff,ff,ff,ff,ff,ff,ff,ff,ff,ff,ff,ff,ff,ff,ff,ff,ff,ff,ff] rfl rfl (any_of HT_.out (by kernel_rfl)) (fun _ _ _ h => h) (Or.inl ⟨by rfl, ?_⟩) ?_ ?_
       rotate_left
       ·
        intro w'
        go_simp
        with_reducible rfl
       rotate_left
       ·
        simp only [Act.put, l1, l2, l3, i64_w, i32_w]
        rfl
       refine pure_ (i := 2) (N := some 20) (v := ?_) (a' := ?_) #[tt,ff,tt,ff,ff,ff,ff,ff,ff,ff,ff,ff,ff,ff,ff,ff,ff,ff,ff,ff,ff,ff,ff,ff,ff,ff] rfl rfl (any_of HT_.out (by kernel_rfl)) (fun _ _ _ h => h) (Or.inl ⟨by rfl, ?_⟩) ?_ ?_
       rotate_left
       ·
        intro w'
        go_simp
        with_reducible rfl
       rotate_left
       ·
        simp only [Act.put, l1, l2, l3, i64_w, i32_w]
        rfl
       refine pure_ (i := 3) (N := some 21) (v := ?_) (a' := ?_) #[tt,ff,tt,tt,ff,ff,ff,ff,ff,ff,ff,ff,ff,ff,ff,ff,ff,ff,ff,ff,ff,ff,ff,ff,ff,ff] rfl rfl (any_of HT_.out (by kernel_rfl)) (fun _ _ _ h => h) (Or.inl ⟨by rfl, ?_⟩) ?_ ?_
       rotate_left
       ·
        intro w'
        go_simp
        with_reducible rfl
       rotate_left
       ·
        simp only [Act.put, l1, l2, l3, i64_w, i32_w]
        rfl
       refine pure_ (i := 7) (N := some 25) (v := ?_) (a' := ?_) #[tt,ff,tt,tt,ff,ff,ff,tt,ff,ff,ff,ff,ff,ff,ff,ff,ff,ff,ff,ff,ff,ff,ff,ff,ff,ff] rfl rfl (any_of HT_.out (by kernel_rfl)) (fun _ _ _ h => h) (Or.inl ⟨by rfl, ?_⟩) ?_ ?_
       rotate_left
       ·
        intro w'
        go_simp
        with_reducible rfl
       rotate_left
       ·
        simp only [Act.put, l1, l2, l3, i64_w, i32_w]
        rfl
       refine pure_ (i := 8) (N := some 26) (v := ?_) (a' := ?_) #[tt,ff,tt,tt,ff,ff,ff,tt,tt,ff,ff,ff,ff,ff,ff,ff,ff,ff,ff,ff,ff,ff,ff,ff,ff,ff] rfl rfl (any_of HT_.out (by kernel_rfl)) (fun _ _ _ h => h) (Or.inl ⟨by rfl, ?_⟩) ?_ ?_
       rotate_left
       ·
        intro w'
        go_simp
        with_reducible rfl
       rotate_left
       ·
        simp only [Act.put, l1, l2, l3, i64_w, i32_w]
        rfl
       refine pure_ (i := 12) (N := some 30) (v := ?_) (a' := ?_) #[tt,ff,tt,tt,ff,ff,ff,tt,tt,ff,ff,ff,tt,ff,ff,ff,ff,ff,ff,ff,ff,ff,ff,ff,ff,ff] rfl rfl (any_of HT_.out (by kernel_rfl)) (fun _ _ _ h => h) (Or.inl ⟨by rfl, ?_⟩) ?_ ?_
       rotate_left
       ·
        intro w'
        go_simp
        with_reducible rfl
       rotate_left
       ·
        simp only [Act.put, l1, l2, l3, i64_w, i32_w]
        rfl
       refine pure_ (i := 14) (N := some 32) (v := ?_) (a' := ?_) #[tt,ff,tt,tt,ff,ff,ff,tt,tt,ff,ff,ff,tt,ff,tt,ff,ff,ff,ff,ff,ff,ff,ff,ff,ff,ff] rfl rfl (any_of HT_.out (by kernel_rfl)) (fun _ _ _ h => h) (Or.inl ⟨by rfl, ?_⟩) ?_ ?_
       rotate_left
       ·
        intro w'
        go_simp
        with_reducible rfl
       rotate_left
       ·
        simp only [Act.put, l1, l2, l3, i64_w, i32_w]
        rfl
       refine pure_ (i := 15) (N := some 33) (v := ?_) (a' := ?_) #[tt,ff,tt,tt,ff,ff,ff,tt,tt,ff,ff,ff,tt,ff,tt,tt,ff,ff,ff,ff,ff,ff,ff,ff,ff,ff] rfl rfl (any_of HT_.out (by kernel_rfl)) (fun _ _ _ h => h) (Or.inl ⟨by rfl, ?_⟩) ?_ ?_
       rotate_left
       ·
        intro w'
        go_simp
        with_reducible rfl
       rotate_left
       ·
        simp only [Act.put, l1, l2, l3, i64_w, i32_w]
        rfl
       refine pure_ (i := 19) (N := some 37) (v := ?_) (a' := ?_) #[tt,ff,tt,tt,ff,ff,ff,tt,tt,ff,ff,ff,tt,ff,tt,tt,ff,ff,ff,tt,ff,ff,ff,ff,ff,ff] rfl rfl (any_of HT_.out (by kernel_rfl)) (fun _ _ _ h => h) (Or.inl ⟨by rfl, ?_⟩) ?_ ?_
       rotate_left
       ·
        intro w'
        go_simp
        with_reducible rfl
       rotate_left
       ·
        simp only [Act.put, l1, l2, l3, i64_w, i32_w]
        rfl
       refine pure_ (i := 20) (N := some 38) (v := ?_) (a' := ?_) #[tt,ff,tt,tt,ff,ff,ff,tt,tt,ff,ff,ff,tt,ff,tt,tt,ff,ff,ff,tt,tt,ff,ff,ff,ff,ff] rfl rfl (any_of HT_.out (by kernel_rfl)) (fun _ _ _ h => h) (Or.inl ⟨by rfl, ?_⟩) ?_ ?_
       rotate_left
       ·
        intro w'
        go_simp
        with_reducible rfl
       rotate_left
       ·
        simp only [Act.put, l1, l2, l3, i64_w, i32_w]
        rfl
       refine take_ (i := 1) (N := some 19) (v := ?_) (a' := ?_) #[tt,tt,tt,tt,ff,ff,ff,tt,tt,ff,ff,ff,tt,ff,tt,tt,ff,ff,ff,tt,tt,ff,ff,ff,ff,ff] rfl rfl (take_ofW HT_.out HW_.out (by kernel_rfl)) (fun _ _ _ h => h) (Or.inl ⟨by rfl, ?_⟩) hHeld ?_ ?_
       rotate_left
       ·
        rintro w' ⟨s0, s1, s2, s3, s4, s5, s6⟩
        go_simp
        with_reducible rfl
       rotate_left
       ·
        simp only [Act.put, l1, l2, l3, i64_w, i32_w]
        rfl
       refine take_ (i := 4) (N := some 22) (v := ?_) (a' := ?_) #[tt,tt,tt,tt,tt,ff,ff,tt,tt,ff,ff,ff,tt,ff,tt,tt,ff,ff,ff,tt,tt,ff,ff,ff,ff,ff] rfl rfl (take_ofW HT_.out HW_.out (by kernel_rfl)) (fun _ _ _ h => h) (Or.inl ⟨by rfl, ?_⟩) hHeld ?_ ?_
       rotate_left
       ·
        rintro w' ⟨s0, s1, s2, s3, s4, s5, s6⟩
        go_simp
        with_reducible rfl
       rotate_left
       ·
        simp only [Act.put, l1, l2, l3, i64_w, i32_w]
        rfl
       refine pure_ (i := 5) (N := some 23) (v := ?_) (a' := ?_) #[tt,tt,tt,tt,tt,tt,ff,tt,tt,ff,ff,ff,tt,ff,tt,tt,ff,ff,ff,tt,tt,ff,ff,ff,ff,ff] rfl rfl (any_of HT_.out (by kernel_rfl)) (fun _ _ _ h => h) (Or.inl ⟨by rfl, ?_⟩) ?_ ?_
       rotate_left
       ·
        intro w'
        go_simp
        with_reducible rfl
       rotate_left
       ·
        simp only [Act.put, l1, l2, l3, i64_w, i32_w]
        rfl
       refine take_ (i := 6) (N := some 24) (v := ?_) (a' := ?_) #[tt,tt,tt,tt,tt,tt,tt,tt,tt,ff,ff,ff,tt,ff,tt,tt,ff,ff,ff,tt,tt,ff,ff,ff,ff,ff] rfl rfl (take_ofW HT_.out HW_.out (by kernel_rfl)) (fun _ _ _ h => h) (Or.inl ⟨by rfl, ?_⟩) hHeld ?_ ?_
       rotate_left
       ·
        rintro w' ⟨s0, s1, s2, s3, s4, s5, s6⟩
        go_simp
        with_reducible rfl
       rotate_left
       ·
        simp only [Act.put, l1, l2, l3, i64_w, i32_w]
        rfl
       refine take_ (i := 9) (N := some 27) (v := ?_) (a' := ?_) #[tt,tt,tt,tt,tt,tt,tt,tt,tt,tt,ff,ff,tt,ff,tt,tt,ff,ff,ff,tt,tt,ff,ff,ff,ff,ff] rfl rfl (take_ofW HT_.out HW_.out (by kernel_rfl)) (fun _ _ _ h => h) (Or.inl ⟨by rfl, ?_⟩) hHeld ?_ ?_
       rotate_left
       ·
        rintro w' ⟨s0, s1, s2, s3, s4, s5, s6⟩
        go_simp
        with_reducible rfl
       rotate_left
       ·
        simp only [Act.put, l1, l2, l3, i64_w, i32_w]
        rfl
       refine pure_ (i := 10) (N := some 28) (v := ?_) (a' := ?_) #[tt,tt,tt,tt,tt,tt,tt,tt,tt,tt,tt,ff,tt,ff,tt,tt,ff,ff,ff,tt,tt,ff,ff,ff,ff,ff] rfl rfl (any_of HT_.out (by kernel_rfl)) (fun _ _ _ h => h) (Or.inl ⟨by rfl, ?_⟩) ?_ ?_
       rotate_left
       ·
        intro w'
        go_simp
        with_reducible rfl
       rotate_left
       ·
        simp only [Act.put, l1, l2, l3, i64_w, i32_w]
        rfl
       refine pure_ (i := 11) (N := some 29) (v := ?_) (a' := ?_) #[tt,tt,tt,tt,tt,tt,tt,tt,tt,tt,tt,tt,tt,ff,tt,tt,ff,ff,ff,tt,tt,ff,ff,ff,ff,ff] rfl rfl (any_of HT_.out (by kernel_rfl)) (fun _ _ _ h => h) (Or.inl ⟨by rfl, ?_⟩) ?_ ?_
       rotate_left
       ·
        intro w'
        go_simp
        with_reducible rfl
       rotate_left
       ·
        simp only [Act.put, l1, l2, l3, i64_w, i32_w]
        rfl
       refine take_ (i := 13) (N := some 31) (v := ?_) (a' := ?_) #[tt,tt,tt,tt,tt,tt,tt,tt,tt,tt,tt,tt,tt,tt,tt,tt,ff,ff,ff,tt,tt,ff,ff,ff,ff,ff] rfl rfl (take_ofW HT_.out HW_.out (by kernel_rfl)) (fun _ _ _ h => h) (Or.inl ⟨by rfl, ?_⟩) hHeld ?_ ?_
       rotate_left
       ·
        rintro w' ⟨s0, s1, s2, s3, s4, s5, s6⟩
        go_simp
        with_reducible rfl
       rotate_left
       ·
        simp only [Act.put, l1, l2, l3, i64_w, i32_w]
        rfl
       refine take_ (i := 16) (N := some 34) (v := ?_) (a' := ?_) #[tt,tt,tt,tt,tt,tt,tt,tt,tt,tt,tt,tt,tt,tt,tt,tt,tt,ff,ff,tt,tt,ff,ff,ff,ff,ff] rfl rfl (take_ofW HT_.out HW_.out (by kernel_rfl)) (fun _ _ _ h => h) (Or.inl ⟨by rfl, ?_⟩) hHeld ?_ ?_
       rotate_left
       ·
        rintro w' ⟨s0, s1, s2, s3, s4, s5, s6⟩
        go_simp
        with_reducible rfl
       rotate_left
       ·
        simp only [Act.put, l1, l2, l3, i64_w, i32_w]
        rfl
       refine pure_ (i := 17) (N := some 35) (v := ?_) (a' := ?_) #[tt,tt,tt,tt,tt,tt,tt,tt,tt,tt,tt,tt,tt,tt,tt,tt,tt,tt,ff,tt,tt,ff,ff,ff,ff,ff] rfl rfl (any_of HT_.out (by kernel_rfl)) (fun _ _ _ h => h) (Or.inl ⟨by rfl, ?_⟩) ?_ ?_
       rotate_left
       ·
        intro w'
        go_simp
        with_reducible rfl
       rotate_left
       ·
        simp only [Act.put, l1, l2, l3, i64_w, i32_w]
        rfl
       refine take_ (i := 18) (N := some 36) (v := ?_) (a' := ?_) #[tt,tt,tt,tt,tt,tt,tt,tt,tt,tt,tt,tt,tt,tt,tt,tt,tt,tt,tt,tt,tt,ff,ff,ff,ff,ff] rfl rfl (take_ofW HT_.out HW_.out (by kernel_rfl)) (fun _ _ _ h => h) (Or.inl ⟨by rfl, ?_⟩) hHeld ?_ ?_
       rotate_left
       ·
        rintro w' ⟨s0, s1, s2, s3, s4, s5, s6⟩
        go_simp
        with_reducible rfl
       rotate_left
       ·
        simp only [Act.put, l1, l2, l3, i64_w, i32_w]
        rfl
       refine take_ (i := 21) (N := some 39) (v := ?_) (a' := ?_) #[tt,tt,tt,tt,tt,tt,tt,tt,tt,tt,tt,tt,tt,tt,tt,tt,tt,tt,tt,tt,tt,tt,ff,ff,ff,ff] rfl rfl (take_ofW HT_.out HW_.out (by kernel_rfl)) (fun _ _ _ h => h) (Or.inl ⟨by rfl, ?_⟩) hHeld ?_ ?_
       rotate_left
       ·
        rintro w' ⟨s0, s1, s2, s3, s4, s5, s6⟩
        go_simp
        with_reducible rfl
       rotate_left
       ·
        simp only [Act.put, l1, l2, l3, i64_w, i32_w]
        rfl
       refine pure_ (i := 22) (N := some 40) (v := ?_) (a' := ?_) #[tt,tt,tt,tt,tt,tt,tt,tt,tt,tt,tt,tt,tt,tt,tt,tt,tt,tt,tt,tt,tt,tt,tt,ff,ff,ff] rfl rfl (any_of HT_.out (by kernel_rfl)) (fun _ _ _ h => h) (Or.inl ⟨by rfl, ?_⟩) ?_ ?_
       rotate_left
       ·
        intro w'
        go_simp
        with_reducible rfl
       rotate_left
       ·
        simp only [Act.put, l1, l2, l3, i64_w, i32_w]
        rfl
       refine pure_ (i := 23) (N := some 41) (v := ?_) (a' := ?_) #[tt,tt,tt,tt,tt,tt,tt,tt,tt,tt,tt,tt,tt,tt,tt,tt,tt,tt,tt,tt,tt,tt,tt,tt,ff,ff] rfl rfl (any_of HT_.out (by kernel_rfl)) (fun _ _ _ h => h) (Or.inl ⟨by rfl, ?_⟩) ?_ ?_
       rotate_left
       ·
        intro w'
        go_simp
        with_reducible rfl
       rotate_left
       ·
        simp only [Act.put, l1, l2, l3, i64_w, i32_w]
        rfl
       refine pure_ (i := 24) (N := some 42) (v := ?_) (a' := ?_) #[tt,tt,tt,tt,tt,tt,tt,tt,tt,tt,tt,tt,tt,tt,tt,tt,tt,tt,tt,tt,tt,tt,tt,tt,tt,ff] rfl rfl (any_of HT_.out (by kernel_rfl)) (fun _ _ _ h => h) (Or.inl ⟨by rfl, ?_⟩) ?_ ?_
       rotate_left
       ·
        intro w'
        go_simp
        with_reducible rfl
       rotate_left
       ·
        simp only [Act.put, l1, l2, l3, i64_w, i32_w]
        rfl
       refine last_ (i := 25) (N := none) #[tt,tt,tt,tt,tt,tt,tt,tt,tt,tt,tt,tt,tt,tt,tt,tt,tt,tt,tt,tt,tt,tt,tt,tt,tt,tt] rfl rfl (one_of HT_.out (by kernel_rfl)) (by decide) (fun K hK => ?_)
       have hs15 : w14.cell? ⟨gb170, 0, none⟩ = some (.int .i64 x171000_1) := (b4 BK170.out 0).trans rfl
       have hfs15 := b9 BK170.out 0
       have hns15_0 := NB169_170.out
       have hns15_2 := NB172_170.out
       have hms15_0 := NB170_169.out
       have hms15_2 := NB170_172.out
       have hs16 : w14.cell? ⟨gb170, 1, none⟩ = some (.int .i64 x171001_1) := (b4 BK170.out 1).trans rfl
       have hfs16 := b9 BK170.out 1
       have hns16_0 := NB169_170.out
       have hns16_2 := NB172_170.out
       have hms16_0 := NB170_169.out
       have hms16_2 := NB170_172.out
       refine skip_ (w1 := ?_) (by rfl) rfl ?_ ?_
       rotate_left
       ·
        go_simp
        rfl
       refine hK.out _ _ ?_
       clear hK K
       refine done_ (done_of HT_.out (by kernel_rfl)) ?_
       try go_wp2
       go_roundg k1
       case measure => have := HK1.out; omega
       case rel => exact ⟨(wrap64 (x6_1 + 1)), (wrap64 (x171000_1 + (wrap64 ((rd l1 ((rd_T56 l0 x6_1).f0)) * ((rd_T56 l0 x6_1).f1.f0))))), (wrap64 (x171001_1 + (wrap64 ((rd l1 ((rd_T56 l0 x6_1).f0)) * ((rd_T56 l0 x6_1).f1.f1))))), (by first | rfl | (simp; done) | (simp [*]; done)), H', ⟨by have := HK1.out; omega⟩, ⟨by (with_reducible repeat (first | refine b0 ?_ _ | refine b1 ?_ | refine b2 ?_ _)); refine b11 ?_ NB169_170.out _; (with_reducible repeat (first | refine b0 ?_ _ | refine b1 ?_ | refine b2 ?_ _)); refine b11 ?_ NB169_170.out _; (with_reducible repeat (first | refine b0 ?_ _ | refine b1 ?_ | refine b2 ?_ _)); exact BK169.out⟩, ⟨by (with_reducible repeat (first | refine b0 ?_ _ | refine b1 ?_ | refine b2 ?_ _)); refine blk_put (cs := #[.int .i64 (wrap64 (x171000_1 + (wrap64 ((rd l1 ((rd_T56 l0 x6_1).f0)) * ((rd_T56 l0 x6_1).f1.f0))))), .int .i64 x171001_1]) ?_ 1 _ rfl; (with_reducible repeat (first | refine b0 ?_ _ | refine b1 ?_ | refine b2 ?_ _)); refine blk_put (cs := #[.int .i64 x171000_1, .int .i64 x171001_1]) ?_ 0 _ rfl; (with_reducible repeat (first | refine b0 ?_ _ | refine b1 ?_ | refine b2 ?_ _)); exact BK170.out⟩, ⟨by repeat (first | (with_reducible first | exact HB.out | apply b8 | apply b6 | apply b7 | refine b3 ?_ GE169.out | refine b3 ?_ GE170.out | refine b3 ?_ GE172.out) | exact HB.out)⟩⟩
      ·
       rw [if_neg c8] at H
       exact absurd H (by simp)
     ·
      rw [if_neg c7] at H
      exact absurd H (by simp)
    ·
     rw [if_neg c6] at H
     exact absurd H (by simp)
   ·
    rw [if_neg c5] at H
    have c5b0 : decide (x6_1 < (l0.length : Int)) = false := decide_eq_false c5
    clear c5
    simp only [Option.some.injEq, Prod.mk.injEq] at H
    obtain ⟨rfl, rfl⟩ := H
    have hnb17 := NB170_169.out
    have hnc17 := NB169_170.out
    have hcz18_0 : wr.cell? ⟨gb170, 0, none⟩ = some (.int .i64 x171000_1) := (b4 BK170.out 0).trans rfl
    have hcz18_1 : wr.cell? ⟨gb170, 1, none⟩ = some (.int .i64 x171001_1) := (b4 BK170.out 1).trans rfl
    have hfz18_0 := b9 BK170.out 0
    have hfz18_1 := b9 BK170.out 1
    have hcz19_0 : wr.cell? ⟨gb169, 0, none⟩ = some (.int .i64 0) := (b4 BK169.out 0).trans rfl
    have hcz19_1 : wr.cell? ⟨gb169, 1, none⟩ = some (.int .i64 0) := (b4 BK169.out 1).trans rfl
    have hfz19_0 := b9 BK169.out 0
    have hfz19_1 := b9 BK169.out 1
    go_wp2
    refine bodyPost_ret (results_cell_row rfl _ _ gb169 54 #[.int .i64 x171000_1, .int .i64 x171001_1] (0, 0) _ rfl (by (with_reducible repeat (first | refine b0 ?_ _ | refine b1 ?_ | refine b2 ?_ _)); refine blk_put (cs := #[.int .i64 x171000_1, .int .i64 0]) ?_ 1 _ rfl; (with_reducible repeat (first | refine b0 ?_ _ | refine b1 ?_ | refine b2 ?_ _)); refine blk_put (cs := #[.int .i64 0, .int .i64 0]) ?_ 0 _ rfl; (with_reducible repeat (first | refine b0 ?_ _ | refine b1 ?_ | refine b2 ?_ _)); exact BK169.out) Try.underlying54 rfl (by kernel_rfl)) rfl ?_
    exact ⟨by first | rfl | (simp [errW_none, errW_some] <;> rfl) | (simp [*, errW_none, errW_some] <;> rfl), by repeat (first | (with_reducible first | exact HB.out | apply b8 | apply b6 | apply b7 | refine b3 ?_ GE169.out | refine b3 ?_ GE170.out) | exact HB.out)⟩
end Go.Proofs.Ytdagijgoegkphaa.P

namespace Go.Proofs.Ytdagijgoegkphaa.P
open Go.RowKit Go.Proofs.YtdagijgoegkphaaW.PrintWords Go.Proofs.YtdagijgoegkphaaW.PrintLast Go.Proofs.YtdagijgoegkphaaW.PrintMore
open Go.Proofs.YtdagijgoegkphaaW.PrintWords renaming below_set → b3, blk_cell → b4, pw_below_drewN → b6, below_drew1 → b7, below_alloc → b8, blk_frozen → b9, below_size → b12, below_step → b13, cell_far → b14
open Go.Proofs.YtdagijgoegkphaaW.PrintWords.Kd renaming C_alloc → k13, C_drewN → k14, C_drew → k15, C_below → k16
attribute [local go_sem] max2_int min2_int max_two min_two max_three min_three max_four min_four   -- for this text's walks alone
def tensileref05_Allows.l0 : Nat → List (S81) → List Int → Int → Option (Bool)
 | 0, _, _, _ => none
 | k + 1, x0, x1, x5 => if x5 < (x0.length : Int) then (if 0 ≤ x5 then ((tensileref05_Stretch.f k ((rd_T81 x0 x5).f0) x1).bind fun bt176 => (if bt176.1 > ((rd_T81 x0 x5).f1.f1) then (some false) else (if bt176.2 < ((rd_T81 x0 x5).f1.f0) then (some false) else (tensileref05_Allows.l0 k x0 x1 (wrap64 (x5 + 1)))))) else (none)) else (some true)
def tensileref05_Allows.f (k : Nat) (l0 : List (S81)) (l1 : List Int) : Option (Bool) := tensileref05_Allows.l0 k l0 l1 0
set_option maxHeartbeats 8000000 in
set_option maxRecDepth 100000 in
theorem tensileref05_Allows.calls (k : Nat) (A0 : Option Addr) (c0 : Nat) (l0 : List (S81)) (A1 : Option Addr) (c1 : Nat) (l1 : List Int) (r : Bool) (w : World) (hr0 : Kd.C k81 w A0 l0.length l0) (hc0 : l0.length ≤ c0) (hr1 : Kd.C (Kd.int .i64) w A1 l1.length l1) (hc1 : l1.length ≤ c1) (h : tensileref05_Allows.f k l0 l1 = some r) :
  Calls Try.prog 47 #[.slice A0 l0.length c0, .slice A1 l1.length c1] w fun e w' => e = .returned (.bool r) ∧ Below w.heap.size w w' := by
 have hu54 := Try.underlying54
 have HR0 := Aside0.mk hr0
 have HC0 := Aside0.mk hc0
 clear hr0 hc0
 have HR1 := Aside0.mk hr1
 have HC1 := Aside0.mk hc1
 clear hr1 hc1
 have HB := Aside0.mk (Below.refl w.heap.size w)
 have H : (tensileref05_Allows.l0 k l0 l1 0) = some r := h
 clear h
 have H' := Aside0.mk H
 clear H
 go_enter Try.func47, Try.ntmps47
 go_wp2
 repeat (go_quiet (fail); try go_wp2)
 go_loopg [5] k (fun kq v5 w' => ∃ (x5_1 : Int), v5 = .int .i64 x5_1 ∧ Aside0 (tensileref05_Allows.l0 kq l0 l1 x5_1 = some r) ∧ Aside0 (kq ≤ k) ∧ Aside0 (Below w.heap.size w w'))
 case atStart => exact ⟨(0), (by first | rfl | (simp; done) | (simp [*]; done)), H', ⟨Nat.le_refl _⟩, ⟨by repeat (first | (with_reducible first | exact HB.out | apply b8 | apply b6 | apply b7) | exact HB.out)⟩⟩
 case round =>
  clear H'
  try clear c1
  try clear p2
  obtain ⟨x5_1, rfl, HA, HK1, HB⟩ := hrel
  cases gk with
  | zero => exact absurd HA.out (by simp [tensileref05_Allows.l0])
  | succ k1 =>
   have H := HA.out
   clear HA
   simp only [tensileref05_Allows.l0] at H
   by_cases c3 : x5_1 < (l0.length : Int)
   ·
    rw [if_pos c3] at H
    have c3b0 : decide (x5_1 < (l0.length : Int)) = true := decide_eq_true c3
    clear c3
    by_cases c4 : 0 ≤ x5_1
    ·
     rw [if_pos c4] at H
     have c4b0 : decide (0 ≤ x5_1) = true := decide_eq_true c4
     clear c4
     replace H := Option.bind_eq_some_iff.mp H
     obtain ⟨⟨t176, t177⟩, A50, H⟩ := H
     replace H : (if t176 > ((rd_T81 l0 x5_1).f1.f1) then (some false) else (if t177 < ((rd_T81 l0 x5_1).f1.f0) then (some false) else (tensileref05_Allows.l0 k1 l0 l1 (wrap64 (x5_1 + 1))))) = some r := H
     have A5 := Aside0.mk A50
     clear A50
     by_cases c6 : t176 > ((rd_T81 l0 x5_1).f1.f1)
     ·
      rw [if_pos c6] at H
      have c6b0 : decide (((rd_T81 l0 x5_1).f1.f1) < t176) = true := decide_eq_true c6
      clear c6
      obtain rfl := Option.some.inj H
      have p175 : 0 ≤ (x5_1 : Int) := of_decide_eq_true (by first | (with_reducible assumption) | assumption)
      have q175 : x5_1 < (l0.length : Int) := of_decide_eq_true (by first | (with_reducible assumption) | assumption)
      obtain ⟨ad175, A175_0, c175_0, e175, hx175_0, hx175_1, hx175_2, hl175_0, hi175_0⟩ := at_T81 HR0.out x5_1 p175 q175
      cases e175
      replace hx175_0 := (HB.out.cell (World.block_lt_of_cell? w _ hx175_0)).trans hx175_0
      replace hx175_1 := (HB.out.cell (World.block_lt_of_cell? w _ hx175_1)).trans hx175_1
      replace hx175_2 := (HB.out.cell (World.block_lt_of_cell? w _ hx175_2)).trans hx175_2
      have HR175_0 := Aside0.mk hi175_0
      have HC175_0 := Aside0.mk hl175_0
      clear hi175_0 hl175_0
      replace p175 := eq_true p175
      replace q175 := eq_true q175
      go_wp2_with (first | (go_at_call 45; (with_reducible refine (tensileref05_Stretch.calls k1 _ _ ((rd_T81 l0 x5_1).f0) _ _ l1 t176 t177 _ ?side1 ?side2 ?side3 ?side4 A5.out).mono ?_); (case side1 => repeat (first | exact (k16 HR175_0.out HB.out) | (with_reducible refine k13 ?_ _) | (with_reducible refine k14 ?_ _) | (with_reducible refine k15 ?_))); (case side2 => exact HC175_0.out); (case side3 => repeat (first | exact (k16 HR1.out HB.out) | (with_reducible refine k13 ?_ _) | (with_reducible refine k14 ?_ _) | (with_reducible refine k15 ?_))); (case side4 => exact HC1.out); rintro e w7 ⟨rfl, hb⟩; have n0_ := Aside0.mk (b13 (by repeat (first | (with_reducible first | exact HB.out | apply b8 | apply b6 | apply b7) | exact HB.out)) hb); clear HB; have HB := n0_; clear n0_; (try clear hb); (try clear hb2); (try clear hk); (try clear hi)) | ((with_reducible refine gate_dst (N := 6) rfl ?_); refine box_event ?hg (N := 6) ?hd (cs := #[.int .i64 0, .int .i64 0]) (t := 54) ?hr ?_; (case hd => rfl); (case hg => rfl); (case hr => first | (go_simp; done) | (go_simp; rfl)); intro gb178 hg w8 hbox hb; have n0_ := Aside0.mk (b13 (by repeat (first | (with_reducible first | exact HB.out | apply b8 | apply b6 | apply b7) | exact HB.out)) hb); have n1_ := Aside0.mk (hbox); have n2_ := Aside0.mk ((by rw [hg]; exact (b12 (by repeat (first | (with_reducible first | exact HB.out | apply b8 | apply b6 | apply b7) | exact HB.out))) : w.heap.size ≤ gb178)); have n3_ := Aside0.mk ((by rw [hg]; exact (b12 (by repeat (first | (with_reducible first | exact HB.out | apply b8 | apply b6 | apply b7) | exact HB.out))) : w.heap.size ≤ gb178)); clear HB; have HB := n0_; have BK178 := n1_; have GW178 := n2_; have GE178 := n3_; clear n0_ n1_ n2_ n3_; clear hb hbox hg; have hcz9_0 : w8.cell? ⟨gb178, 0, none⟩ = some (.int .i64 0) := (b4 BK178.out 0).trans rfl; have hcz9_1 : w8.cell? ⟨gb178, 1, none⟩ = some (.int .i64 0) := (b4 BK178.out 1).trans rfl; have hfz9_0 := b9 BK178.out 0; have hfz9_1 := b9 BK178.out 1; have p179 : 0 ≤ (x5_1 : Int) := of_decide_eq_true (by first | (with_reducible assumption) | assumption); have q179 : x5_1 < (l0.length : Int) := of_decide_eq_true (by first | (with_reducible assumption) | assumption); obtain ⟨ad179, A179_0, c179_0, e179, hx179_0, hx179_1, hx179_2, hl179_0, hi179_0⟩ := at_T81 HR0.out x5_1 p179 q179; obtain rfl : ad175 = ad179 := (by injection e179); have hn179_0 : ad175.block ≠ gb178 := Nat.ne_of_lt (Nat.lt_of_lt_of_le (by have := World.block_lt_of_cell? _ _ hx179_0; first | rwa [add_block] at this | exact this) GW178.out); have hn179_1 : ad175.block ≠ gb178 := Nat.ne_of_lt (Nat.lt_of_lt_of_le (by have := World.block_lt_of_cell? _ _ hx179_0; first | rwa [add_block] at this | exact this) GW178.out); replace hx179_0 := (HB.out.cell (World.block_lt_of_cell? w _ hx179_0)).trans hx179_0; replace hx179_1 := (HB.out.cell (World.block_lt_of_cell? w _ hx179_1)).trans hx179_1; replace hx179_2 := (HB.out.cell (World.block_lt_of_cell? w _ hx179_2)).trans hx179_2; have HR179_0 := Aside0.mk hi179_0; have HC179_0 := Aside0.mk hl179_0; clear hi179_0 hl179_0; replace hx179_0 := (b14 (p := ⟨gb178, 0, none⟩) (by first | (rw [add_block]; exact hn179_0) | (show (Addr.add _ _).block ≠ _; rw [add_block]; exact hn179_0) | exact hn179_0) (.int .i64 t176)).trans hx179_0; replace hx179_1 := (b14 (p := ⟨gb178, 0, none⟩) (by first | (rw [add_block]; exact hn179_0) | (show (Addr.add _ _).block ≠ _; rw [add_block]; exact hn179_0) | exact hn179_0) (.int .i64 t176)).trans hx179_1; replace hx179_2 := (b14 (p := ⟨gb178, 0, none⟩) (by first | (rw [add_block]; exact hn179_0) | (show (Addr.add _ _).block ≠ _; rw [add_block]; exact hn179_0) | exact hn179_0) (.int .i64 t176)).trans hx179_2; replace hx179_0 := (b14 (p := ⟨gb178, 1, none⟩) (by first | (rw [add_block]; exact hn179_1) | (show (Addr.add _ _).block ≠ _; rw [add_block]; exact hn179_1) | exact hn179_1) (.int .i64 t177)).trans hx179_0; replace hx179_1 := (b14 (p := ⟨gb178, 1, none⟩) (by first | (rw [add_block]; exact hn179_1) | (show (Addr.add _ _).block ≠ _; rw [add_block]; exact hn179_1) | exact hn179_1) (.int .i64 t177)).trans hx179_1; replace hx179_2 := (b14 (p := ⟨gb178, 1, none⟩) (by first | (rw [add_block]; exact hn179_1) | (show (Addr.add _ _).block ≠ _; rw [add_block]; exact hn179_1) | exact hn179_1) (.int .i64 t177)).trans hx179_2; (try have hy179_0 := fun (n_ : Nat) => (show ((((w8.drewN n_).setCell ⟨gb178, 0, none⟩ (.int .i64 t176)).setCell ⟨gb178, 1, none⟩ (.int .i64 t177))).cell? _ = some _ from hx179_0)); (try have hy179_1 := fun (n_ : Nat) => (show ((((w8.drewN n_).setCell ⟨gb178, 0, none⟩ (.int .i64 t176)).setCell ⟨gb178, 1, none⟩ (.int .i64 t177))).cell? _ = some _ from hx179_1)); (try have hy179_2 := fun (n_ : Nat) => (show ((((w8.drewN n_).setCell ⟨gb178, 0, none⟩ (.int .i64 t176)).setCell ⟨gb178, 1, none⟩ (.int .i64 t177))).cell? _ = some _ from hx179_2)); clear hn179_0; clear hn179_1; replace p179 := eq_true p179; replace q179 := eq_true q179))
      repeat (go_quiet (first | (go_at_call 45; (with_reducible refine (tensileref05_Stretch.calls k1 _ _ ((rd_T81 l0 x5_1).f0) _ _ l1 t176 t177 _ ?side1 ?side2 ?side3 ?side4 A5.out).mono ?_); (case side1 => repeat (first | exact (k16 HR175_0.out HB.out) | (with_reducible refine k13 ?_ _) | (with_reducible refine k14 ?_ _) | (with_reducible refine k15 ?_))); (case side2 => exact HC175_0.out); (case side3 => repeat (first | exact (k16 HR1.out HB.out) | (with_reducible refine k13 ?_ _) | (with_reducible refine k14 ?_ _) | (with_reducible refine k15 ?_))); (case side4 => exact HC1.out); rintro e w7 ⟨rfl, hb⟩; have n0_ := Aside0.mk (b13 (by repeat (first | (with_reducible first | exact HB.out | apply b8 | apply b6 | apply b7) | exact HB.out)) hb); clear HB; have HB := n0_; clear n0_; (try clear hb); (try clear hb2); (try clear hk); (try clear hi)) | ((with_reducible refine gate_dst (N := 6) rfl ?_); refine box_event ?hg (N := 6) ?hd (cs := #[.int .i64 0, .int .i64 0]) (t := 54) ?hr ?_; (case hd => rfl); (case hg => rfl); (case hr => first | (go_simp; done) | (go_simp; rfl)); intro gb178 hg w8 hbox hb; have n0_ := Aside0.mk (b13 (by repeat (first | (with_reducible first | exact HB.out | apply b8 | apply b6 | apply b7) | exact HB.out)) hb); have n1_ := Aside0.mk (hbox); have n2_ := Aside0.mk ((by rw [hg]; exact (b12 (by repeat (first | (with_reducible first | exact HB.out | apply b8 | apply b6 | apply b7) | exact HB.out))) : w.heap.size ≤ gb178)); have n3_ := Aside0.mk ((by rw [hg]; exact (b12 (by repeat (first | (with_reducible first | exact HB.out | apply b8 | apply b6 | apply b7) | exact HB.out))) : w.heap.size ≤ gb178)); clear HB; have HB := n0_; have BK178 := n1_; have GW178 := n2_; have GE178 := n3_; clear n0_ n1_ n2_ n3_; clear hb hbox hg; have hcz9_0 : w8.cell? ⟨gb178, 0, none⟩ = some (.int .i64 0) := (b4 BK178.out 0).trans rfl; have hcz9_1 : w8.cell? ⟨gb178, 1, none⟩ = some (.int .i64 0) := (b4 BK178.out 1).trans rfl; have hfz9_0 := b9 BK178.out 0; have hfz9_1 := b9 BK178.out 1; have p179 : 0 ≤ (x5_1 : Int) := of_decide_eq_true (by first | (with_reducible assumption) | assumption); have q179 : x5_1 < (l0.length : Int) := of_decide_eq_true (by first | (with_reducible assumption) | assumption); obtain ⟨ad179, A179_0, c179_0, e179, hx179_0, hx179_1, hx179_2, hl179_0, hi179_0⟩ := at_T81 HR0.out x5_1 p179 q179; obtain rfl : ad175 = ad179 := (by injection e179); have hn179_0 : ad175.block ≠ gb178 := Nat.ne_of_lt (Nat.lt_of_lt_of_le (by have := World.block_lt_of_cell? _ _ hx179_0; first | rwa [add_block] at this | exact this) GW178.out); have hn179_1 : ad175.block ≠ gb178 := Nat.ne_of_lt (Nat.lt_of_lt_of_le (by have := World.block_lt_of_cell? _ _ hx179_0; first | rwa [add_block] at this | exact this) GW178.out); replace hx179_0 := (HB.out.cell (World.block_lt_of_cell? w _ hx179_0)).trans hx179_0; replace hx179_1 := (HB.out.cell (World.block_lt_of_cell? w _ hx179_1)).trans hx179_1; replace hx179_2 := (HB.out.cell (World.block_lt_of_cell? w _ hx179_2)).trans hx179_2; have HR179_0 := Aside0.mk hi179_0; have HC179_0 := Aside0.mk hl179_0; clear hi179_0 hl179_0; replace hx179_0 := (b14 (p := ⟨gb178, 0, none⟩) (by first | (rw [add_block]; exact hn179_0) | (show (Addr.add _ _).block ≠ _; rw [add_block]; exact hn179_0) | exact hn179_0) (.int .i64 t176)).trans hx179_0; replace hx179_1 := (b14 (p := ⟨gb178, 0, none⟩) (by first | (rw [add_block]; exact hn179_0) | (show (Addr.add _ _).block ≠ _; rw [add_block]; exact hn179_0) | exact hn179_0) (.int .i64 t176)).trans hx179_1; replace hx179_2 := (b14 (p := ⟨gb178, 0, none⟩) (by first | (rw [add_block]; exact hn179_0) | (show (Addr.add _ _).block ≠ _; rw [add_block]; exact hn179_0) | exact hn179_0) (.int .i64 t176)).trans hx179_2; replace hx179_0 := (b14 (p := ⟨gb178, 1, none⟩) (by first | (rw [add_block]; exact hn179_1) | (show (Addr.add _ _).block ≠ _; rw [add_block]; exact hn179_1) | exact hn179_1) (.int .i64 t177)).trans hx179_0; replace hx179_1 := (b14 (p := ⟨gb178, 1, none⟩) (by first | (rw [add_block]; exact hn179_1) | (show (Addr.add _ _).block ≠ _; rw [add_block]; exact hn179_1) | exact hn179_1) (.int .i64 t177)).trans hx179_1; replace hx179_2 := (b14 (p := ⟨gb178, 1, none⟩) (by first | (rw [add_block]; exact hn179_1) | (show (Addr.add _ _).block ≠ _; rw [add_block]; exact hn179_1) | exact hn179_1) (.int .i64 t177)).trans hx179_2; (try have hy179_0 := fun (n_ : Nat) => (show ((((w8.drewN n_).setCell ⟨gb178, 0, none⟩ (.int .i64 t176)).setCell ⟨gb178, 1, none⟩ (.int .i64 t177))).cell? _ = some _ from hx179_0)); (try have hy179_1 := fun (n_ : Nat) => (show ((((w8.drewN n_).setCell ⟨gb178, 0, none⟩ (.int .i64 t176)).setCell ⟨gb178, 1, none⟩ (.int .i64 t177))).cell? _ = some _ from hx179_1)); (try have hy179_2 := fun (n_ : Nat) => (show ((((w8.drewN n_).setCell ⟨gb178, 0, none⟩ (.int .i64 t176)).setCell ⟨gb178, 1, none⟩ (.int .i64 t177))).cell? _ = some _ from hx179_2)); clear hn179_0; clear hn179_1; replace p179 := eq_true p179; replace q179 := eq_true q179)); try go_wp2_with (first | (go_at_call 45; (with_reducible refine (tensileref05_Stretch.calls k1 _ _ ((rd_T81 l0 x5_1).f0) _ _ l1 t176 t177 _ ?side1 ?side2 ?side3 ?side4 A5.out).mono ?_); (case side1 => repeat (first | exact (k16 HR175_0.out HB.out) | (with_reducible refine k13 ?_ _) | (with_reducible refine k14 ?_ _) | (with_reducible refine k15 ?_))); (case side2 => exact HC175_0.out); (case side3 => repeat (first | exact (k16 HR1.out HB.out) | (with_reducible refine k13 ?_ _) | (with_reducible refine k14 ?_ _) | (with_reducible refine k15 ?_))); (case side4 => exact HC1.out); rintro e w7 ⟨rfl, hb⟩; have n0_ := Aside0.mk (b13 (by repeat (first | (with_reducible first | exact HB.out | apply b8 | apply b6 | apply b7) | exact HB.out)) hb); clear HB; have HB := n0_; clear n0_; (try clear hb); (try clear hb2); (try clear hk); (try clear hi)) | ((with_reducible refine gate_dst (N := 6) rfl ?_); refine box_event ?hg (N := 6) ?hd (cs := #[.int .i64 0, .int .i64 0]) (t := 54) ?hr ?_; (case hd => rfl); (case hg => rfl); (case hr => first | (go_simp; done) | (go_simp; rfl)); intro gb178 hg w8 hbox hb; have n0_ := Aside0.mk (b13 (by repeat (first | (with_reducible first | exact HB.out | apply b8 | apply b6 | apply b7) | exact HB.out)) hb); have n1_ := Aside0.mk (hbox); have n2_ := Aside0.mk ((by rw [hg]; exact (b12 (by repeat (first | (with_reducible first | exact HB.out | apply b8 | apply b6 | apply b7) | exact HB.out))) : w.heap.size ≤ gb178)); have n3_ := Aside0.mk ((by rw [hg]; exact (b12 (by repeat (first | (with_reducible first | exact HB.out | apply b8 | apply b6 | apply b7) | exact HB.out))) : w.heap.size ≤ gb178)); clear HB; have HB := n0_; have BK178 := n1_; have GW178 := n2_; have GE178 := n3_; clear n0_ n1_ n2_ n3_; clear hb hbox hg; have hcz9_0 : w8.cell? ⟨gb178, 0, none⟩ = some (.int .i64 0) := (b4 BK178.out 0).trans rfl; have hcz9_1 : w8.cell? ⟨gb178, 1, none⟩ = some (.int .i64 0) := (b4 BK178.out 1).trans rfl; have hfz9_0 := b9 BK178.out 0; have hfz9_1 := b9 BK178.out 1; have p179 : 0 ≤ (x5_1 : Int) := of_decide_eq_true (by first | (with_reducible assumption) | assumption); have q179 : x5_1 < (l0.length : Int) := of_decide_eq_true (by first | (with_reducible assumption) | assumption); obtain ⟨ad179, A179_0, c179_0, e179, hx179_0, hx179_1, hx179_2, hl179_0, hi179_0⟩ := at_T81 HR0.out x5_1 p179 q179; obtain rfl : ad175 = ad179 := (by injection e179); have hn179_0 : ad175.block ≠ gb178 := Nat.ne_of_lt (Nat.lt_of_lt_of_le (by have := World.block_lt_of_cell? _ _ hx179_0; first | rwa [add_block] at this | exact this) GW178.out); have hn179_1 : ad175.block ≠ gb178 := Nat.ne_of_lt (Nat.lt_of_lt_of_le (by have := World.block_lt_of_cell? _ _ hx179_0; first | rwa [add_block] at this | exact this) GW178.out); replace hx179_0 := (HB.out.cell (World.block_lt_of_cell? w _ hx179_0)).trans hx179_0; replace hx179_1 := (HB.out.cell (World.block_lt_of_cell? w _ hx179_1)).trans hx179_1; replace hx179_2 := (HB.out.cell (World.block_lt_of_cell? w _ hx179_2)).trans hx179_2; have HR179_0 := Aside0.mk hi179_0; have HC179_0 := Aside0.mk hl179_0; clear hi179_0 hl179_0; replace hx179_0 := (b14 (p := ⟨gb178, 0, none⟩) (by first | (rw [add_block]; exact hn179_0) | (show (Addr.add _ _).block ≠ _; rw [add_block]; exact hn179_0) | exact hn179_0) (.int .i64 t176)).trans hx179_0; replace hx179_1 := (b14 (p := ⟨gb178, 0, none⟩) (by first | (rw [add_block]; exact hn179_0) | (show (Addr.add _ _).block ≠ _; rw [add_block]; exact hn179_0) | exact hn179_0) (.int .i64 t176)).trans hx179_1; replace hx179_2 := (b14 (p := ⟨gb178, 0, none⟩) (by first | (rw [add_block]; exact hn179_0) | (show (Addr.add _ _).block ≠ _; rw [add_block]; exact hn179_0) | exact hn179_0) (.int .i64 t176)).trans hx179_2; replace hx179_0 := (b14 (p := ⟨gb178, 1, none⟩) (by first | (rw [add_block]; exact hn179_1) | (show (Addr.add _ _).block ≠ _; rw [add_block]; exact hn179_1) | exact hn179_1) (.int .i64 t177)).trans hx179_0; replace hx179_1 := (b14 (p := ⟨gb178, 1, none⟩) (by first | (rw [add_block]; exact hn179_1) | (show (Addr.add _ _).block ≠ _; rw [add_block]; exact hn179_1) | exact hn179_1) (.int .i64 t177)).trans hx179_1; replace hx179_2 := (b14 (p := ⟨gb178, 1, none⟩) (by first | (rw [add_block]; exact hn179_1) | (show (Addr.add _ _).block ≠ _; rw [add_block]; exact hn179_1) | exact hn179_1) (.int .i64 t177)).trans hx179_2; (try have hy179_0 := fun (n_ : Nat) => (show ((((w8.drewN n_).setCell ⟨gb178, 0, none⟩ (.int .i64 t176)).setCell ⟨gb178, 1, none⟩ (.int .i64 t177))).cell? _ = some _ from hx179_0)); (try have hy179_1 := fun (n_ : Nat) => (show ((((w8.drewN n_).setCell ⟨gb178, 0, none⟩ (.int .i64 t176)).setCell ⟨gb178, 1, none⟩ (.int .i64 t177))).cell? _ = some _ from hx179_1)); (try have hy179_2 := fun (n_ : Nat) => (show ((((w8.drewN n_).setCell ⟨gb178, 0, none⟩ (.int .i64 t176)).setCell ⟨gb178, 1, none⟩ (.int .i64 t177))).cell? _ = some _ from hx179_2)); clear hn179_0; clear hn179_1; replace p179 := eq_true p179; replace q179 := eq_true q179)))
      go_ret
      exact ⟨by first | rfl | (simp [errW_none, errW_some] <;> rfl) | (simp [*, errW_none, errW_some] <;> rfl), by repeat (first | (with_reducible first | exact HB.out | apply b8 | apply b6 | apply b7 | refine b3 ?_ GE178.out) | exact HB.out)⟩
     ·
      rw [if_neg c6] at H
      have c6b0 : decide (((rd_T81 l0 x5_1).f1.f1) < t176) = false := decide_eq_false c6
      clear c6
      by_cases c10 : t177 < ((rd_T81 l0 x5_1).f1.f0)
      ·
       rw [if_pos c10] at H
       have c10b0 : decide (t177 < ((rd_T81 l0 x5_1).f1.f0)) = true := decide_eq_true c10
       clear c10
       obtain rfl := Option.some.inj H
       have p175 : 0 ≤ (x5_1 : Int) := of_decide_eq_true (by first | (with_reducible assumption) | assumption)
       have q175 : x5_1 < (l0.length : Int) := of_decide_eq_true (by first | (with_reducible assumption) | assumption)
       obtain ⟨ad175, A175_0, c175_0, e175, hx175_0, hx175_1, hx175_2, hl175_0, hi175_0⟩ := at_T81 HR0.out x5_1 p175 q175
       cases e175
       replace hx175_0 := (HB.out.cell (World.block_lt_of_cell? w _ hx175_0)).trans hx175_0
       replace hx175_1 := (HB.out.cell (World.block_lt_of_cell? w _ hx175_1)).trans hx175_1
       replace hx175_2 := (HB.out.cell (World.block_lt_of_cell? w _ hx175_2)).trans hx175_2
       have HR175_0 := Aside0.mk hi175_0
       have HC175_0 := Aside0.mk hl175_0
       clear hi175_0 hl175_0
       replace p175 := eq_true p175
       replace q175 := eq_true q175
       go_wp2_with (first | (go_at_call 45; (with_reducible refine (tensileref05_Stretch.calls k1 _ _ ((rd_T81 l0 x5_1).f0) _ _ l1 t176 t177 _ ?side1 ?side2 ?side3 ?side4 A5.out).mono ?_); (case side1 => repeat (first | exact (k16 HR175_0.out HB.out) | (with_reducible refine k13 ?_ _) | (with_reducible refine k14 ?_ _) | (with_reducible refine k15 ?_))); (case side2 => exact HC175_0.out); (case side3 => repeat (first | exact (k16 HR1.out HB.out) | (with_reducible refine k13 ?_ _) | (with_reducible refine k14 ?_ _) | (with_reducible refine k15 ?_))); (case side4 => exact HC1.out); rintro e w11 ⟨rfl, hb⟩; have n0_ := Aside0.mk (b13 (by repeat (first | (with_reducible first | exact HB.out | apply b8 | apply b6 | apply b7) | exact HB.out)) hb); clear HB; have HB := n0_; clear n0_; (try clear hb); (try clear hb2); (try clear hk); (try clear hi)) | ((with_reducible refine gate_dst (N := 6) rfl ?_); refine box_event ?hg (N := 6) ?hd (cs := #[.int .i64 0, .int .i64 0]) (t := 54) ?hr ?_; (case hd => rfl); (case hg => rfl); (case hr => first | (go_simp; done) | (go_simp; rfl)); intro gb178 hg w12 hbox hb; have n0_ := Aside0.mk (b13 (by repeat (first | (with_reducible first | exact HB.out | apply b8 | apply b6 | apply b7) | exact HB.out)) hb); have n1_ := Aside0.mk (hbox); have n2_ := Aside0.mk ((by rw [hg]; exact (b12 (by repeat (first | (with_reducible first | exact HB.out | apply b8 | apply b6 | apply b7) | exact HB.out))) : w.heap.size ≤ gb178)); have n3_ := Aside0.mk ((by rw [hg]; exact (b12 (by repeat (first | (with_reducible first | exact HB.out | apply b8 | apply b6 | apply b7) | exact HB.out))) : w.heap.size ≤ gb178)); clear HB; have HB := n0_; have BK178 := n1_; have GW178 := n2_; have GE178 := n3_; clear n0_ n1_ n2_ n3_; clear hb hbox hg; have hcz13_0 : w12.cell? ⟨gb178, 0, none⟩ = some (.int .i64 0) := (b4 BK178.out 0).trans rfl; have hcz13_1 : w12.cell? ⟨gb178, 1, none⟩ = some (.int .i64 0) := (b4 BK178.out 1).trans rfl; have hfz13_0 := b9 BK178.out 0; have hfz13_1 := b9 BK178.out 1; have p179 : 0 ≤ (x5_1 : Int) := of_decide_eq_true (by first | (with_reducible assumption) | assumption); have q179 : x5_1 < (l0.length : Int) := of_decide_eq_true (by first | (with_reducible assumption) | assumption); obtain ⟨ad179, A179_0, c179_0, e179, hx179_0, hx179_1, hx179_2, hl179_0, hi179_0⟩ := at_T81 HR0.out x5_1 p179 q179; obtain rfl : ad175 = ad179 := (by injection e179); have hn179_0 : ad175.block ≠ gb178 := Nat.ne_of_lt (Nat.lt_of_lt_of_le (by have := World.block_lt_of_cell? _ _ hx179_0; first | rwa [add_block] at this | exact this) GW178.out); have hn179_1 : ad175.block ≠ gb178 := Nat.ne_of_lt (Nat.lt_of_lt_of_le (by have := World.block_lt_of_cell? _ _ hx179_0; first | rwa [add_block] at this | exact this) GW178.out); replace hx179_0 := (HB.out.cell (World.block_lt_of_cell? w _ hx179_0)).trans hx179_0; replace hx179_1 := (HB.out.cell (World.block_lt_of_cell? w _ hx179_1)).trans hx179_1; replace hx179_2 := (HB.out.cell (World.block_lt_of_cell? w _ hx179_2)).trans hx179_2; have HR179_0 := Aside0.mk hi179_0; have HC179_0 := Aside0.mk hl179_0; clear hi179_0 hl179_0; replace hx179_0 := (b14 (p := ⟨gb178, 0, none⟩) (by first | (rw [add_block]; exact hn179_0) | (show (Addr.add _ _).block ≠ _; rw [add_block]; exact hn179_0) | exact hn179_0) (.int .i64 t176)).trans hx179_0; replace hx179_1 := (b14 (p := ⟨gb178, 0, none⟩) (by first | (rw [add_block]; exact hn179_0) | (show (Addr.add _ _).block ≠ _; rw [add_block]; exact hn179_0) | exact hn179_0) (.int .i64 t176)).trans hx179_1; replace hx179_2 := (b14 (p := ⟨gb178, 0, none⟩) (by first | (rw [add_block]; exact hn179_0) | (show (Addr.add _ _).block ≠ _; rw [add_block]; exact hn179_0) | exact hn179_0) (.int .i64 t176)).trans hx179_2; replace hx179_0 := (b14 (p := ⟨gb178, 1, none⟩) (by first | (rw [add_block]; exact hn179_1) | (show (Addr.add _ _).block ≠ _; rw [add_block]; exact hn179_1) | exact hn179_1) (.int .i64 t177)).trans hx179_0; replace hx179_1 := (b14 (p := ⟨gb178, 1, none⟩) (by first | (rw [add_block]; exact hn179_1) | (show (Addr.add _ _).block ≠ _; rw [add_block]; exact hn179_1) | exact hn179_1) (.int .i64 t177)).trans hx179_1; replace hx179_2 := (b14 (p := ⟨gb178, 1, none⟩) (by first | (rw [add_block]; exact hn179_1) | (show (Addr.add _ _).block ≠ _; rw [add_block]; exact hn179_1) | exact hn179_1) (.int .i64 t177)).trans hx179_2; (try have hy179_0 := fun (n_ : Nat) => (show ((((w12.drewN n_).setCell ⟨gb178, 0, none⟩ (.int .i64 t176)).setCell ⟨gb178, 1, none⟩ (.int .i64 t177))).cell? _ = some _ from hx179_0)); (try have hy179_1 := fun (n_ : Nat) => (show ((((w12.drewN n_).setCell ⟨gb178, 0, none⟩ (.int .i64 t176)).setCell ⟨gb178, 1, none⟩ (.int .i64 t177))).cell? _ = some _ from hx179_1)); (try have hy179_2 := fun (n_ : Nat) => (show ((((w12.drewN n_).setCell ⟨gb178, 0, none⟩ (.int .i64 t176)).setCell ⟨gb178, 1, none⟩ (.int .i64 t177))).cell? _ = some _ from hx179_2)); clear hn179_0; clear hn179_1; replace p179 := eq_true p179; replace q179 := eq_true q179; have p180 : 0 ≤ (x5_1 : Int) := of_decide_eq_true (by first | (with_reducible assumption) | assumption); have q180 : x5_1 < (l0.length : Int) := of_decide_eq_true (by first | (with_reducible assumption) | assumption); obtain ⟨ad180, A180_0, c180_0, e180, hx180_0, hx180_1, hx180_2, hl180_0, hi180_0⟩ := at_T81 HR0.out x5_1 p180 q180; obtain rfl : ad175 = ad180 := (by injection e180); have hn180_0 : ad175.block ≠ gb178 := Nat.ne_of_lt (Nat.lt_of_lt_of_le (by have := World.block_lt_of_cell? _ _ hx180_0; first | rwa [add_block] at this | exact this) GW178.out); have hn180_1 : ad175.block ≠ gb178 := Nat.ne_of_lt (Nat.lt_of_lt_of_le (by have := World.block_lt_of_cell? _ _ hx180_0; first | rwa [add_block] at this | exact this) GW178.out); replace hx180_0 := (HB.out.cell (World.block_lt_of_cell? w _ hx180_0)).trans hx180_0; replace hx180_1 := (HB.out.cell (World.block_lt_of_cell? w _ hx180_1)).trans hx180_1; replace hx180_2 := (HB.out.cell (World.block_lt_of_cell? w _ hx180_2)).trans hx180_2; have HR180_0 := Aside0.mk hi180_0; have HC180_0 := Aside0.mk hl180_0; clear hi180_0 hl180_0; replace hx180_0 := (b14 (p := ⟨gb178, 0, none⟩) (by first | (rw [add_block]; exact hn180_0) | (show (Addr.add _ _).block ≠ _; rw [add_block]; exact hn180_0) | exact hn180_0) (.int .i64 t176)).trans hx180_0; replace hx180_1 := (b14 (p := ⟨gb178, 0, none⟩) (by first | (rw [add_block]; exact hn180_0) | (show (Addr.add _ _).block ≠ _; rw [add_block]; exact hn180_0) | exact hn180_0) (.int .i64 t176)).trans hx180_1; replace hx180_2 := (b14 (p := ⟨gb178, 0, none⟩) (by first | (rw [add_block]; exact hn180_0) | (show (Addr.add _ _).block ≠ _; rw [add_block]; exact hn180_0) | exact hn180_0) (.int .i64 t176)).trans hx180_2; replace hx180_0 := (b14 (p := ⟨gb178, 1, none⟩) (by first | (rw [add_block]; exact hn180_1) | (show (Addr.add _ _).block ≠ _; rw [add_block]; exact hn180_1) | exact hn180_1) (.int .i64 t177)).trans hx180_0; replace hx180_1 := (b14 (p := ⟨gb178, 1, none⟩) (by first | (rw [add_block]; exact hn180_1) | (show (Addr.add _ _).block ≠ _; rw [add_block]; exact hn180_1) | exact hn180_1) (.int .i64 t177)).trans hx180_1; replace hx180_2 := (b14 (p := ⟨gb178, 1, none⟩) (by first | (rw [add_block]; exact hn180_1) | (show (Addr.add _ _).block ≠ _; rw [add_block]; exact hn180_1) | exact hn180_1) (.int .i64 t177)).trans hx180_2; (try have hy180_0 := fun (n_ : Nat) => (show ((((w12.drewN n_).setCell ⟨gb178, 0, none⟩ (.int .i64 t176)).setCell ⟨gb178, 1, none⟩ (.int .i64 t177))).cell? _ = some _ from hx180_0)); (try have hy180_1 := fun (n_ : Nat) => (show ((((w12.drewN n_).setCell ⟨gb178, 0, none⟩ (.int .i64 t176)).setCell ⟨gb178, 1, none⟩ (.int .i64 t177))).cell? _ = some _ from hx180_1)); (try have hy180_2 := fun (n_ : Nat) => (show ((((w12.drewN n_).setCell ⟨gb178, 0, none⟩ (.int .i64 t176)).setCell ⟨gb178, 1, none⟩ (.int .i64 t177))).cell? _ = some _ from hx180_2)); clear hn180_0; clear hn180_1; replace p180 := eq_true p180; replace q180 := eq_true q180))
       repeat (go_quiet (first | (go_at_call 45; (with_reducible refine (tensileref05_Stretch.calls k1 _ _ ((rd_T81 l0 x5_1).f0) _ _ l1 t176 t177 _ ?side1 ?side2 ?side3 ?side4 A5.out).mono ?_); (case side1 => repeat (first | exact (k16 HR175_0.out HB.out) | (with_reducible refine k13 ?_ _) | (with_reducible refine k14 ?_ _) | (with_reducible refine k15 ?_))); (case side2 => exact HC175_0.out); (case side3 => repeat (first | exact (k16 HR1.out HB.out) | (with_reducible refine k13 ?_ _) | (with_reducible refine k14 ?_ _) | (with_reducible refine k15 ?_))); (case side4 => exact HC1.out); rintro e w11 ⟨rfl, hb⟩; have n0_ := Aside0.mk (b13 (by repeat (first | (with_reducible first | exact HB.out | apply b8 | apply b6 | apply b7) | exact HB.out)) hb); clear HB; have HB := n0_; clear n0_; (try clear hb); (try clear hb2); (try clear hk); (try clear hi)) | ((with_reducible refine gate_dst (N := 6) rfl ?_); refine box_event ?hg (N := 6) ?hd (cs := #[.int .i64 0, .int .i64 0]) (t := 54) ?hr ?_; (case hd => rfl); (case hg => rfl); (case hr => first | (go_simp; done) | (go_simp; rfl)); intro gb178 hg w12 hbox hb; have n0_ := Aside0.mk (b13 (by repeat (first | (with_reducible first | exact HB.out | apply b8 | apply b6 | apply b7) | exact HB.out)) hb); have n1_ := Aside0.mk (hbox); have n2_ := Aside0.mk ((by rw [hg]; exact (b12 (by repeat (first | (with_reducible first | exact HB.out | apply b8 | apply b6 | apply b7) | exact HB.out))) : w.heap.size ≤ gb178)); have n3_ := Aside0.mk ((by rw [hg]; exact (b12 (by repeat (first | (with_reducible first | exact HB.out | apply b8 | apply b6 | apply b7) | exact HB.out))) : w.heap.size ≤ gb178)); clear HB; have HB := n0_; have BK178 := n1_; have GW178 := n2_; have GE178 := n3_; clear n0_ n1_ n2_ n3_; clear hb hbox hg; have hcz13_0 : w12.cell? ⟨gb178, 0, none⟩ = some (.int .i64 0) := (b4 BK178.out 0).trans rfl; have hcz13_1 : w12.cell? ⟨gb178, 1, none⟩ = some (.int .i64 0) := (b4 BK178.out 1).trans rfl; have hfz13_0 := b9 BK178.out 0; have hfz13_1 := b9 BK178.out 1; have p179 : 0 ≤ (x5_1 : Int) := of_decide_eq_true (by first | (with_reducible assumption) | assumption); have q179 : x5_1 < (l0.length : Int) := of_decide_eq_true (by first | (with_reducible assumption) | assumption); obtain ⟨ad179, A179_0, c179_0, e179, hx179_0, hx179_1, hx179_2, hl179_0, hi179_0⟩ := at_T81 HR0.out x5_1 p179 q179; obtain rfl : ad175 = ad179 := (by injection e179); have hn179_0 : ad175.block ≠ gb178 := Nat.ne_of_lt (Nat.lt_of_lt_of_le (by have := World.block_lt_of_cell? _ _ hx179_0; first | rwa [add_block] at this | exact this) GW178.out); have hn179_1 : ad175.block ≠ gb178 := Nat.ne_of_lt (Nat.lt_of_lt_of_le (by have := World.block_lt_of_cell? _ _ hx179_0; first | rwa [add_block] at this | exact this) GW178.out); replace hx179_0 := (HB.out.cell (World.block_lt_of_cell? w _ hx179_0)).trans hx179_0; replace hx179_1 := (HB.out.cell (World.block_lt_of_cell? w _ hx179_1)).trans hx179_1; replace hx179_2 := (HB.out.cell (World.block_lt_of_cell? w _ hx179_2)).trans hx179_2; have HR179_0 := Aside0.mk hi179_0; have HC179_0 := Aside0.mk hl179_0; clear hi179_0 hl179_0; replace hx179_0 := (b14 (p := ⟨gb178, 0, none⟩) (by first | (rw [add_block]; exact hn179_0) | (show (Addr.add _ _).block ≠ _; rw [add_block]; exact hn179_0) | exact hn179_0) (.int .i64 t176)).trans hx179_0; replace hx179_1 := (b14 (p := ⟨gb178, 0, none⟩) (by first | (rw [add_block]; exact hn179_0) | (show (Addr.add _ _).block ≠ _; rw [add_block]; exact hn179_0) | exact hn179_0) (.int .i64 t176)).trans hx179_1; replace hx179_2 := (b14 (p := ⟨gb178, 0, none⟩) (by first | (rw [add_block]; exact hn179_0) | (show (Addr.add _ _).block ≠ _; rw [add_block]; exact hn179_0) | exact hn179_0) (.int .i64 t176)).trans hx179_2; replace hx179_0 := (b14 (p := ⟨gb178, 1, none⟩) (by first | (rw [add_block]; exact hn179_1) | (show (Addr.add _ _).block ≠ _; rw [add_block]; exact hn179_1) | exact hn179_1) (.int .i64 t177)).trans hx179_0; replace hx179_1 := (b14 (p := ⟨gb178, 1, none⟩) (by first | (rw [add_block]; exact hn179_1) | (show (Addr.add _ _).block ≠ _; rw [add_block]; exact hn179_1) | exact hn179_1) (.int .i64 t177)).trans hx179_1; replace hx179_2 := (b14 (p := ⟨gb178, 1, none⟩) (by first | (rw [add_block]; exact hn179_1) | (show (Addr.add _ _).block ≠ _; rw [add_block]; exact hn179_1) | exact hn179_1) (.int .i64 t177)).trans hx179_2; (try have hy179_0 := fun (n_ : Nat) => (show ((((w12.drewN n_).setCell ⟨gb178, 0, none⟩ (.int .i64 t176)).setCell ⟨gb178, 1, none⟩ (.int .i64 t177))).cell? _ = some _ from hx179_0)); (try have hy179_1 := fun (n_ : Nat) => (show ((((w12.drewN n_).setCell ⟨gb178, 0, none⟩ (.int .i64 t176)).setCell ⟨gb178, 1, none⟩ (.int .i64 t177))).cell? _ = some _ from hx179_1)); (try have hy179_2 := fun (n_ : Nat) => (show ((((w12.drewN n_).setCell ⟨gb178, 0, none⟩ (.int .i64 t176)).setCell ⟨gb178, 1, none⟩ (.int .i64 t177))).cell? _ = some _ from hx179_2)); clear hn179_0; clear hn179_1; replace p179 := eq_true p179; replace q179 := eq_true q179; have p180 : 0 ≤ (x5_1 : Int) := of_decide_eq_true (by first | (with_reducible assumption) | assumption); have q180 : x5_1 < (l0.length : Int) := of_decide_eq_true (by first | (with_reducible assumption) | assumption); obtain ⟨ad180, A180_0, c180_0, e180, hx180_0, hx180_1, hx180_2, hl180_0, hi180_0⟩ := at_T81 HR0.out x5_1 p180 q180; obtain rfl : ad175 = ad180 := (by injection e180); have hn180_0 : ad175.block ≠ gb178 := Nat.ne_of_lt (Nat.lt_of_lt_of_le (by have := World.block_lt_of_cell? _ _ hx180_0; first | rwa [add_block] at this | exact this) GW178.out); have hn180_1 : ad175.block ≠ gb178 := Nat.ne_of_lt (Nat.lt_of_lt_of_le (by have := World.block_lt_of_cell? _ _ hx180_0; first | rwa [add_block] at this | exact this) GW178.out); replace hx180_0 := (HB.out.cell (World.block_lt_of_cell? w _ hx180_0)).trans hx180_0; replace hx180_1 := (HB.out.cell (World.block_lt_of_cell? w _ hx180_1)).trans hx180_1; replace hx180_2 := (HB.out.cell (World.block_lt_of_cell? w _ hx180_2)).trans hx180_2; have HR180_0 := Aside0.mk hi180_0; have HC180_0 := Aside0.mk hl180_0; clear hi180_0 hl180_0; replace hx180_0 := (b14 (p := ⟨gb178, 0, none⟩) (by first | (rw [add_block]; exact hn180_0) | (show (Addr.add _ _).block ≠ _; rw [add_block]; exact hn180_0) | exact hn180_0) (.int .i64 t176)).trans hx180_0; replace hx180_1 := (b14 (p := ⟨gb178, 0, none⟩) (by first | (rw [add_block]; exact hn180_0) | (show (Addr.add _ _).block ≠ _; rw [add_block]; exact hn180_0) | exact hn180_0) (.int .i64 t176)).trans hx180_1; replace hx180_2 := (b14 (p := ⟨gb178, 0, none⟩) (by first | (rw [add_block]; exact hn180_0) | (show (Addr.add _ _).block ≠ _; rw [add_block]; exact hn180_0) | exact hn180_0) (.int .i64 t176)).trans hx180_2; replace hx180_0 := (b14 (p := ⟨gb178, 1, none⟩) (by first | (rw [add_block]; exact hn180_1) | (show (Addr.add _ _).block ≠ _; rw [add_block]; exact hn180_1) | exact hn180_1) (.int .i64 t177)).trans hx180_0; replace hx180_1 := (b14 (p := ⟨gb178, 1, none⟩) (by first | (rw [add_block]; exact hn180_1) | (show (Addr.add _ _).block ≠ _; rw [add_block]; exact hn180_1) | exact hn180_1) (.int .i64 t177)).trans hx180_1; replace hx180_2 := (b14 (p := ⟨gb178, 1, none⟩) (by first | (rw [add_block]; exact hn180_1) | (show (Addr.add _ _).block ≠ _; rw [add_block]; exact hn180_1) | exact hn180_1) (.int .i64 t177)).trans hx180_2; (try have hy180_0 := fun (n_ : Nat) => (show ((((w12.drewN n_).setCell ⟨gb178, 0, none⟩ (.int .i64 t176)).setCell ⟨gb178, 1, none⟩ (.int .i64 t177))).cell? _ = some _ from hx180_0)); (try have hy180_1 := fun (n_ : Nat) => (show ((((w12.drewN n_).setCell ⟨gb178, 0, none⟩ (.int .i64 t176)).setCell ⟨gb178, 1, none⟩ (.int .i64 t177))).cell? _ = some _ from hx180_1)); (try have hy180_2 := fun (n_ : Nat) => (show ((((w12.drewN n_).setCell ⟨gb178, 0, none⟩ (.int .i64 t176)).setCell ⟨gb178, 1, none⟩ (.int .i64 t177))).cell? _ = some _ from hx180_2)); clear hn180_0; clear hn180_1; replace p180 := eq_true p180; replace q180 := eq_true q180)); try go_wp2_with (first | (go_at_call 45; (with_reducible refine (tensileref05_Stretch.calls k1 _ _ ((rd_T81 l0 x5_1).f0) _ _ l1 t176 t177 _ ?side1 ?side2 ?side3 ?side4 A5.out).mono ?_); (case side1 => repeat (first | exact (k16 HR175_0.out HB.out) | (with_reducible refine k13 ?_ _) | (with_reducible refine k14 ?_ _) | (with_reducible refine k15 ?_))); (case side2 => exact HC175_0.out); (case side3 => repeat (first | exact (k16 HR1.out HB.out) | (with_reducible refine k13 ?_ _) | (with_reducible refine k14 ?_ _) | (with_reducible refine k15 ?_))); (case side4 => exact HC1.out); rintro e w11 ⟨rfl, hb⟩; have n0_ := Aside0.mk (b13 (by repeat (first | (with_reducible first | exact HB.out | apply b8 | apply b6 | apply b7) | exact HB.out)) hb); clear HB; have HB := n0_; clear n0_; (try clear hb); (try clear hb2); (try clear hk); (try clear hi)) | ((with_reducible refine gate_dst (N := 6) rfl ?_); refine box_event ?hg (N := 6) ?hd (cs := #[.int .i64 0, .int .i64 0]) (t := 54) ?hr ?_; (case hd => rfl); (case hg => rfl); (case hr => first | (go_simp; done) | (go_simp; rfl)); intro gb178 hg w12 hbox hb; have n0_ := Aside0.mk (b13 (by repeat (first | (with_reducible first | exact HB.out | apply b8 | apply b6 | apply b7) | exact HB.out)) hb); have n1_ := Aside0.mk (hbox); have n2_ := Aside0.mk ((by rw [hg]; exact (b12 (by repeat (first | (with_reducible first | exact HB.out | apply b8 | apply b6 | apply b7) | exact HB.out))) : w.heap.size ≤ gb178)); have n3_ := Aside0.mk ((by rw [hg]; exact (b12 (by repeat (first | (with_reducible first | exact HB.out | apply b8 | apply b6 | apply b7) | exact HB.out))) : w.heap.size ≤ gb178)); clear HB; have HB := n0_; have BK178 := n1_; have GW178 := n2_; have GE178 := n3_; clear n0_ n1_ n2_ n3_; clear hb hbox hg; have hcz13_0 : w12.cell? ⟨gb178, 0, none⟩ = some (.int .i64 0) := (b4 BK178.out 0).trans rfl; have hcz13_1 : w12.cell? ⟨gb178, 1, none⟩ = some (.int .i64 0) := (b4 BK178.out 1).trans rfl; have hfz13_0 := b9 BK178.out 0; have hfz13_1 := b9 BK178.out 1; have p179 : 0 ≤ (x5_1 : Int) := of_decide_eq_true (by first | (with_reducible assumption) | assumption); have q179 : x5_1 < (l0.length : Int) := of_decide_eq_true (by first | (with_reducible assumption) | assumption); obtain ⟨ad179, A179_0, c179_0, e179, hx179_0, hx179_1, hx179_2, hl179_0, hi179_0⟩ := at_T81 HR0.out x5_1 p179 q179; obtain rfl : ad175 = ad179 := (by injection e179); have hn179_0 : ad175.block ≠ gb178 := Nat.ne_of_lt (Nat.lt_of_lt_of_le (by have := World.block_lt_of_cell? _ _ hx179_0; first | rwa [add_block] at this | exact this) GW178.out); have hn179_1 : ad175.block ≠ gb178 := Nat.ne_of_lt (Nat.lt_of_lt_of_le (by have := World.block_lt_of_cell? _ _ hx179_0; first | rwa [add_block] at this | exact this) GW178.out); replace hx179_0 := (HB.out.cell (World.block_lt_of_cell? w _ hx179_0)).trans hx179_0; replace hx179_1 := (HB.out.cell (World.block_lt_of_cell? w _ hx179_1)).trans hx179_1; replace hx179_2 := (HB.out.cell (World.block_lt_of_cell? w _ hx179_2)).trans hx179_2; have HR179_0 := Aside0.mk hi179_0; have HC179_0 := Aside0.mk hl179_0; clear hi179_0 hl179_0; replace hx179_0 := (b14 (p := ⟨gb178, 0, none⟩) (by first | (rw [add_block]; exact hn179_0) | (show (Addr.add _ _).block ≠ _; rw [add_block]; exact hn179_0) | exact hn179_0) (.int .i64 t176)).trans hx179_0; replace hx179_1 := (b14 (p := ⟨gb178, 0, none⟩) (by first | (rw [add_block]; exact hn179_0) | (show (Addr.add _ _).block ≠ _; rw [add_block]; exact hn179_0) | exact hn179_0) (.int .i64 t176)).trans hx179_1; replace hx179_2 := (b14 (p := ⟨gb178, 0, none⟩) (by first | (rw [add_block]; exact hn179_0) | (show (Addr.add _ _).block ≠ _; rw [add_block]; exact hn179_0) | exact hn179_0) (.int .i64 t176)).trans hx179_2; replace hx179_0 := (b14 (p := ⟨gb178, 1, none⟩) (by first | (rw [add_block]; exact hn179_1) | (show (Addr.add _ _).block ≠ _; rw [add_block]; exact hn179_1) | exact hn179_1) (.int .i64 t177)).trans hx179_0; replace hx179_1 := (b14 (p := ⟨gb178, 1, none⟩) (by first | (rw [add_block]; exact hn179_1) | (show (Addr.add _ _).block ≠ _; rw [add_block]; exact hn179_1) | exact hn179_1) (.int .i64 t177)).trans hx179_1; replace hx179_2 := (b14 (p := ⟨gb178, 1, none⟩) (by first | (rw [add_block]; exact hn179_1) | (show (Addr.add _ _).block ≠ _; rw [add_block]; exact hn179_1) | exact hn179_1) (.int .i64 t177)).trans hx179_2; (try have hy179_0 := fun (n_ : Nat) => (show ((((w12.drewN n_).setCell ⟨gb178, 0, none⟩ (.int .i64 t176)).setCell ⟨gb178, 1, none⟩ (.int .i64 t177))).cell? _ = some _ from hx179_0)); (try have hy179_1 := fun (n_ : Nat) => (show ((((w12.drewN n_).setCell ⟨gb178, 0, none⟩ (.int .i64 t176)).setCell ⟨gb178, 1, none⟩ (.int .i64 t177))).cell? _ = some _ from hx179_1)); (try have hy179_2 := fun (n_ : Nat) => (show ((((w12.drewN n_).setCell ⟨gb178, 0, none⟩ (.int .i64 t176)).setCell ⟨gb178, 1, none⟩ (.int .i64 t177))).cell? _ = some _ from hx179_2)); clear hn179_0; clear hn179_1; replace p179 := eq_true p179; replace q179 := eq_true q179; have p180 : 0 ≤ (x5_1 : Int) := of_decide_eq_true (by first | (with_reducible assumption) | assumption); have q180 : x5_1 < (l0.length : Int) := of_decide_eq_true (by first | (with_reducible assumption) | assumption); obtain ⟨ad180, A180_0, c180_0, e180, hx180_0, hx180_1, hx180_2, hl180_0, hi180_0⟩ := at_T81 HR0.out x5_1 p180 q180; obtain rfl : ad175 = ad180 := (by injection e180); have hn180_0 : ad175.block ≠ gb178 := Nat.ne_of_lt (Nat.lt_of_lt_of_le (by have := World.block_lt_of_cell? _ _ hx180_0; first | rwa [add_block] at this | exact this) GW178.out); have hn180_1 : ad175.block ≠ gb178 := Nat.ne_of_lt (Nat.lt_of_lt_of_le (by have := World.block_lt_of_cell? _ _ hx180_0; first | rwa [add_block] at this | exact this) GW178.out); replace hx180_0 := (HB.out.cell (World.block_lt_of_cell? w _ hx180_0)).trans hx180_0; replace hx180_1 := (HB.out.cell (World.block_lt_of_cell? w _ hx180_1)).trans hx180_1; replace hx180_2 := (HB.out.cell (World.block_lt_of_cell? w _ hx180_2)).trans hx180_2; have HR180_0 := Aside0.mk hi180_0; have HC180_0 := Aside0.mk hl180_0; clear hi180_0 hl180_0; replace hx180_0 := (b14 (p := ⟨gb178, 0, none⟩) (by first | (rw [add_block]; exact hn180_0) | (show (Addr.add _ _).block ≠ _; rw [add_block]; exact hn180_0) | exact hn180_0) (.int .i64 t176)).trans hx180_0; replace hx180_1 := (b14 (p := ⟨gb178, 0, none⟩) (by first | (rw [add_block]; exact hn180_0) | (show (Addr.add _ _).block ≠ _; rw [add_block]; exact hn180_0) | exact hn180_0) (.int .i64 t176)).trans hx180_1; replace hx180_2 := (b14 (p := ⟨gb178, 0, none⟩) (by first | (rw [add_block]; exact hn180_0) | (show (Addr.add _ _).block ≠ _; rw [add_block]; exact hn180_0) | exact hn180_0) (.int .i64 t176)).trans hx180_2; replace hx180_0 := (b14 (p := ⟨gb178, 1, none⟩) (by first | (rw [add_block]; exact hn180_1) | (show (Addr.add _ _).block ≠ _; rw [add_block]; exact hn180_1) | exact hn180_1) (.int .i64 t177)).trans hx180_0; replace hx180_1 := (b14 (p := ⟨gb178, 1, none⟩) (by first | (rw [add_block]; exact hn180_1) | (show (Addr.add _ _).block ≠ _; rw [add_block]; exact hn180_1) | exact hn180_1) (.int .i64 t177)).trans hx180_1; replace hx180_2 := (b14 (p := ⟨gb178, 1, none⟩) (by first | (rw [add_block]; exact hn180_1) | (show (Addr.add _ _).block ≠ _; rw [add_block]; exact hn180_1) | exact hn180_1) (.int .i64 t177)).trans hx180_2; (try have hy180_0 := fun (n_ : Nat) => (show ((((w12.drewN n_).setCell ⟨gb178, 0, none⟩ (.int .i64 t176)).setCell ⟨gb178, 1, none⟩ (.int .i64 t177))).cell? _ = some _ from hx180_0)); (try have hy180_1 := fun (n_ : Nat) => (show ((((w12.drewN n_).setCell ⟨gb178, 0, none⟩ (.int .i64 t176)).setCell ⟨gb178, 1, none⟩ (.int .i64 t177))).cell? _ = some _ from hx180_1)); (try have hy180_2 := fun (n_ : Nat) => (show ((((w12.drewN n_).setCell ⟨gb178, 0, none⟩ (.int .i64 t176)).setCell ⟨gb178, 1, none⟩ (.int .i64 t177))).cell? _ = some _ from hx180_2)); clear hn180_0; clear hn180_1; replace p180 := eq_true p180; replace q180 := eq_true q180)))
       go_ret
       exact ⟨by first | rfl | (simp [errW_none, errW_some] <;> rfl) | (simp [*, errW_none, errW_some] <;> rfl), by repeat (first | (with_reducible first | exact HB.out | apply b8 | apply b6 | apply b7 | refine b3 ?_ GE178.out) | exact HB.out)⟩
      ·
       rw [if_neg c10] at H
       have c10b0 : decide (t177 < ((rd_T81 l0 x5_1).f1.f0)) = false := decide_eq_false c10
       clear c10
       have H' := Aside0.mk H
       clear H
       have p175 : 0 ≤ (x5_1 : Int) := of_decide_eq_true (by first | (with_reducible assumption) | assumption)
       have q175 : x5_1 < (l0.length : Int) := of_decide_eq_true (by first | (with_reducible assumption) | assumption)
       obtain ⟨ad175, A175_0, c175_0, e175, hx175_0, hx175_1, hx175_2, hl175_0, hi175_0⟩ := at_T81 HR0.out x5_1 p175 q175
       cases e175
       replace hx175_0 := (HB.out.cell (World.block_lt_of_cell? w _ hx175_0)).trans hx175_0
       replace hx175_1 := (HB.out.cell (World.block_lt_of_cell? w _ hx175_1)).trans hx175_1
       replace hx175_2 := (HB.out.cell (World.block_lt_of_cell? w _ hx175_2)).trans hx175_2
       have HR175_0 := Aside0.mk hi175_0
       have HC175_0 := Aside0.mk hl175_0
       clear hi175_0 hl175_0
       replace p175 := eq_true p175
       replace q175 := eq_true q175
       go_wp2_with (first | (go_at_call 45; (with_reducible refine (tensileref05_Stretch.calls k1 _ _ ((rd_T81 l0 x5_1).f0) _ _ l1 t176 t177 _ ?side1 ?side2 ?side3 ?side4 A5.out).mono ?_); (case side1 => repeat (first | exact (k16 HR175_0.out HB.out) | (with_reducible refine k13 ?_ _) | (with_reducible refine k14 ?_ _) | (with_reducible refine k15 ?_))); (case side2 => exact HC175_0.out); (case side3 => repeat (first | exact (k16 HR1.out HB.out) | (with_reducible refine k13 ?_ _) | (with_reducible refine k14 ?_ _) | (with_reducible refine k15 ?_))); (case side4 => exact HC1.out); rintro e w14 ⟨rfl, hb⟩; have n0_ := Aside0.mk (b13 (by repeat (first | (with_reducible first | exact HB.out | apply b8 | apply b6 | apply b7) | exact HB.out)) hb); clear HB; have HB := n0_; clear n0_; (try clear hb); (try clear hb2); (try clear hk); (try clear hi)) | ((with_reducible refine gate_dst (N := 6) rfl ?_); refine box_event ?hg (N := 6) ?hd (cs := #[.int .i64 0, .int .i64 0]) (t := 54) ?hr ?_; (case hd => rfl); (case hg => rfl); (case hr => first | (go_simp; done) | (go_simp; rfl)); intro gb178 hg w15 hbox hb; have n0_ := Aside0.mk (b13 (by repeat (first | (with_reducible first | exact HB.out | apply b8 | apply b6 | apply b7) | exact HB.out)) hb); have n1_ := Aside0.mk (hbox); have n2_ := Aside0.mk ((by rw [hg]; exact (b12 (by repeat (first | (with_reducible first | exact HB.out | apply b8 | apply b6 | apply b7) | exact HB.out))) : w.heap.size ≤ gb178)); have n3_ := Aside0.mk ((by rw [hg]; exact (b12 (by repeat (first | (with_reducible first | exact HB.out | apply b8 | apply b6 | apply b7) | exact HB.out))) : w.heap.size ≤ gb178)); clear HB; have HB := n0_; have BK178 := n1_; have GW178 := n2_; have GE178 := n3_; clear n0_ n1_ n2_ n3_; clear hb hbox hg; have hcz16_0 : w15.cell? ⟨gb178, 0, none⟩ = some (.int .i64 0) := (b4 BK178.out 0).trans rfl; have hcz16_1 : w15.cell? ⟨gb178, 1, none⟩ = some (.int .i64 0) := (b4 BK178.out 1).trans rfl; have hfz16_0 := b9 BK178.out 0; have hfz16_1 := b9 BK178.out 1; have p179 : 0 ≤ (x5_1 : Int) := of_decide_eq_true (by first | (with_reducible assumption) | assumption); have q179 : x5_1 < (l0.length : Int) := of_decide_eq_true (by first | (with_reducible assumption) | assumption); obtain ⟨ad179, A179_0, c179_0, e179, hx179_0, hx179_1, hx179_2, hl179_0, hi179_0⟩ := at_T81 HR0.out x5_1 p179 q179; obtain rfl : ad175 = ad179 := (by injection e179); have hn179_0 : ad175.block ≠ gb178 := Nat.ne_of_lt (Nat.lt_of_lt_of_le (by have := World.block_lt_of_cell? _ _ hx179_0; first | rwa [add_block] at this | exact this) GW178.out); have hn179_1 : ad175.block ≠ gb178 := Nat.ne_of_lt (Nat.lt_of_lt_of_le (by have := World.block_lt_of_cell? _ _ hx179_0; first | rwa [add_block] at this | exact this) GW178.out); replace hx179_0 := (HB.out.cell (World.block_lt_of_cell? w _ hx179_0)).trans hx179_0; replace hx179_1 := (HB.out.cell (World.block_lt_of_cell? w _ hx179_1)).trans hx179_1; replace hx179_2 := (HB.out.cell (World.block_lt_of_cell? w _ hx179_2)).trans hx179_2; have HR179_0 := Aside0.mk hi179_0; have HC179_0 := Aside0.mk hl179_0; clear hi179_0 hl179_0; replace hx179_0 := (b14 (p := ⟨gb178, 0, none⟩) (by first | (rw [add_block]; exact hn179_0) | (show (Addr.add _ _).block ≠ _; rw [add_block]; exact hn179_0) | exact hn179_0) (.int .i64 t176)).trans hx179_0; replace hx179_1 := (b14 (p := ⟨gb178, 0, none⟩) (by first | (rw [add_block]; exact hn179_0) | (show (Addr.add _ _).block ≠ _; rw [add_block]; exact hn179_0) | exact hn179_0) (.int .i64 t176)).trans hx179_1; replace hx179_2 := (b14 (p := ⟨gb178, 0, none⟩) (by first | (rw [add_block]; exact hn179_0) | (show (Addr.add _ _).block ≠ _; rw [add_block]; exact hn179_0) | exact hn179_0) (.int .i64 t176)).trans hx179_2; replace hx179_0 := (b14 (p := ⟨gb178, 1, none⟩) (by first | (rw [add_block]; exact hn179_1) | (show (Addr.add _ _).block ≠ _; rw [add_block]; exact hn179_1) | exact hn179_1) (.int .i64 t177)).trans hx179_0; replace hx179_1 := (b14 (p := ⟨gb178, 1, none⟩) (by first | (rw [add_block]; exact hn179_1) | (show (Addr.add _ _).block ≠ _; rw [add_block]; exact hn179_1) | exact hn179_1) (.int .i64 t177)).trans hx179_1; replace hx179_2 := (b14 (p := ⟨gb178, 1, none⟩) (by first | (rw [add_block]; exact hn179_1) | (show (Addr.add _ _).block ≠ _; rw [add_block]; exact hn179_1) | exact hn179_1) (.int .i64 t177)).trans hx179_2; (try have hy179_0 := fun (n_ : Nat) => (show ((((w15.drewN n_).setCell ⟨gb178, 0, none⟩ (.int .i64 t176)).setCell ⟨gb178, 1, none⟩ (.int .i64 t177))).cell? _ = some _ from hx179_0)); (try have hy179_1 := fun (n_ : Nat) => (show ((((w15.drewN n_).setCell ⟨gb178, 0, none⟩ (.int .i64 t176)).setCell ⟨gb178, 1, none⟩ (.int .i64 t177))).cell? _ = some _ from hx179_1)); (try have hy179_2 := fun (n_ : Nat) => (show ((((w15.drewN n_).setCell ⟨gb178, 0, none⟩ (.int .i64 t176)).setCell ⟨gb178, 1, none⟩ (.int .i64 t177))).cell? _ = some _ from hx179_2)); clear hn179_0; clear hn179_1; replace p179 := eq_true p179; replace q179 := eq_true q179; have p180 : 0 ≤ (x5_1 : Int) := of_decide_eq_true (by first | (with_reducible assumption) | assumption); have q180 : x5_1 < (l0.length : Int) := of_decide_eq_true (by first | (with_reducible assumption) | assumption); obtain ⟨ad180, A180_0, c180_0, e180, hx180_0, hx180_1, hx180_2, hl180_0, hi180_0⟩ := at_T81 HR0.out x5_1 p180 q180; obtain rfl : ad175 = ad180 := (by injection e180); have hn180_0 : ad175.block ≠ gb178 := Nat.ne_of_lt (Nat.lt_of_lt_of_le (by have := World.block_lt_of_cell? _ _ hx180_0; first | rwa [add_block] at this | exact this) GW178.out); have hn180_1 : ad175.block ≠ gb178 := Nat.ne_of_lt (Nat.lt_of_lt_of_le (by have := World.block_lt_of_cell? _ _ hx180_0; first | rwa [add_block] at this | exact this) GW178.out); replace hx180_0 := (HB.out.cell (World.block_lt_of_cell? w _ hx180_0)).trans hx180_0; replace hx180_1 := (HB.out.cell (World.block_lt_of_cell? w _ hx180_1)).trans hx180_1; replace hx180_2 := (HB.out.cell (World.block_lt_of_cell? w _ hx180_2)).trans hx180_2; have HR180_0 := Aside0.mk hi180_0; have HC180_0 := Aside0.mk hl180_0; clear hi180_0 hl180_0; replace hx180_0 := (b14 (p := ⟨gb178, 0, none⟩) (by first | (rw [add_block]; exact hn180_0) | (show (Addr.add _ _).block ≠ _; rw [add_block]; exact hn180_0) | exact hn180_0) (.int .i64 t176)).trans hx180_0; replace hx180_1 := (b14 (p := ⟨gb178, 0, none⟩) (by first | (rw [add_block]; exact hn180_0) | (show (Addr.add _ _).block ≠ _; rw [add_block]; exact hn180_0) | exact hn180_0) (.int .i64 t176)).trans hx180_1; replace hx180_2 := (b14 (p := ⟨gb178, 0, none⟩) (by first | (rw [add_block]; exact hn180_0) | (show (Addr.add _ _).block ≠ _; rw [add_block]; exact hn180_0) | exact hn180_0) (.int .i64 t176)).trans hx180_2; replace hx180_0 := (b14 (p := ⟨gb178, 1, none⟩) (by first | (rw [add_block]; exact hn180_1) | (show (Addr.add _ _).block ≠ _; rw [add_block]; exact hn180_1) | exact hn180_1) (.int .i64 t177)).trans hx180_0; replace hx180_1 := (b14 (p := ⟨gb178, 1, none⟩) (by first | (rw [add_block]; exact hn180_1) | (show (Addr.add _ _).block ≠ _; rw [add_block]; exact hn180_1) | exact hn180_1) (.int .i64 t177)).trans hx180_1; replace hx180_2 := (b14 (p := ⟨gb178, 1, none⟩) (by first | (rw [add_block]; exact hn180_1) | (show (Addr.add _ _).block ≠ _; rw [add_block]; exact hn180_1) | exact hn180_1) (.int .i64 t177)).trans hx180_2; (try have hy180_0 := fun (n_ : Nat) => (show ((((w15.drewN n_).setCell ⟨gb178, 0, none⟩ (.int .i64 t176)).setCell ⟨gb178, 1, none⟩ (.int .i64 t177))).cell? _ = some _ from hx180_0)); (try have hy180_1 := fun (n_ : Nat) => (show ((((w15.drewN n_).setCell ⟨gb178, 0, none⟩ (.int .i64 t176)).setCell ⟨gb178, 1, none⟩ (.int .i64 t177))).cell? _ = some _ from hx180_1)); (try have hy180_2 := fun (n_ : Nat) => (show ((((w15.drewN n_).setCell ⟨gb178, 0, none⟩ (.int .i64 t176)).setCell ⟨gb178, 1, none⟩ (.int .i64 t177))).cell? _ = some _ from hx180_2)); clear hn180_0; clear hn180_1; replace p180 := eq_true p180; replace q180 := eq_true q180))
       repeat (go_quiet (first | (go_at_call 45; (with_reducible refine (tensileref05_Stretch.calls k1 _ _ ((rd_T81 l0 x5_1).f0) _ _ l1 t176 t177 _ ?side1 ?side2 ?side3 ?side4 A5.out).mono ?_); (case side1 => repeat (first | exact (k16 HR175_0.out HB.out) | (with_reducible refine k13 ?_ _) | (with_reducible refine k14 ?_ _) | (with_reducible refine k15 ?_))); (case side2 => exact HC175_0.out); (case side3 => repeat (first | exact (k16 HR1.out HB.out) | (with_reducible refine k13 ?_ _) | (with_reducible refine k14 ?_ _) | (with_reducible refine k15 ?_))); (case side4 => exact HC1.out); rintro e w14 ⟨rfl, hb⟩; have n0_ := Aside0.mk (b13 (by repeat (first | (with_reducible first | exact HB.out | apply b8 | apply b6 | apply b7) | exact HB.out)) hb); clear HB; have HB := n0_; clear n0_; (try clear hb); (try clear hb2); (try clear hk); (try clear hi)) | ((with_reducible refine gate_dst (N := 6) rfl ?_); refine box_event ?hg (N := 6) ?hd (cs := #[.int .i64 0, .int .i64 0]) (t := 54) ?hr ?_; (case hd => rfl); (case hg => rfl); (case hr => first | (go_simp; done) | (go_simp; rfl)); intro gb178 hg w15 hbox hb; have n0_ := Aside0.mk (b13 (by repeat (first | (with_reducible first | exact HB.out | apply b8 | apply b6 | apply b7) | exact HB.out)) hb); have n1_ := Aside0.mk (hbox); have n2_ := Aside0.mk ((by rw [hg]; exact (b12 (by repeat (first | (with_reducible first | exact HB.out | apply b8 | apply b6 | apply b7) | exact HB.out))) : w.heap.size ≤ gb178)); have n3_ := Aside0.mk ((by rw [hg]; exact (b12 (by repeat (first | (with_reducible first | exact HB.out | apply b8 | apply b6 | apply b7) | exact HB.out))) : w.heap.size ≤ gb178)); clear HB; have HB := n0_; have BK178 := n1_; have GW178 := n2_; have GE178 := n3_; clear n0_ n1_ n2_ n3_; clear hb hbox hg; have hcz16_0 : w15.cell? ⟨gb178, 0, none⟩ = some (.int .i64 0) := (b4 BK178.out 0).trans rfl; have hcz16_1 : w15.cell? ⟨gb178, 1, none⟩ = some (.int .i64 0) := (b4 BK178.out 1).trans rfl; have hfz16_0 := b9 BK178.out 0; have hfz16_1 := b9 BK178.out 1; have p179 : 0 ≤ (x5_1 : Int) := of_decide_eq_true (by first | (with_reducible assumption) | assumption); have q179 : x5_1 < (l0.length : Int) := of_decide_eq_true (by first | (with_reducible assumption) | assumption); obtain ⟨ad179, A179_0, c179_0, e179, hx179_0, hx179_1, hx179_2, hl179_0, hi179_0⟩ := at_T81 HR0.out x5_1 p179 q179; obtain rfl : ad175 = ad179 := (by injection e179); have hn179_0 : ad175.block ≠ gb178 := Nat.ne_of_lt (Nat.lt_of_lt_of_le (by have := World.block_lt_of_cell? _ _ hx179_0; first | rwa [add_block] at this | exact this) GW178.out); have hn179_1 : ad175.block ≠ gb178 := Nat.ne_of_lt (Nat.lt_of_lt_of_le (by have := World.block_lt_of_cell? _ _ hx179_0; first | rwa [add_block] at this | exact this) GW178.out); replace hx179_0 := (HB.out.cell (World.block_lt_of_cell? w _ hx179_0)).trans hx179_0; replace hx179_1 := (HB.out.cell (World.block_lt_of_cell? w _ hx179_1)).trans hx179_1; replace hx179_2 := (HB.out.cell (World.block_lt_of_cell? w _ hx179_2)).trans hx179_2; have HR179_0 := Aside0.mk hi179_0; have HC179_0 := Aside0.mk hl179_0; clear hi179_0 hl179_0; replace hx179_0 := (b14 (p := ⟨gb178, 0, none⟩) (by first | (rw [add_block]; exact hn179_0) | (show (Addr.add _ _).block ≠ _; rw [add_block]; exact hn179_0) | exact hn179_0) (.int .i64 t176)).trans hx179_0; replace hx179_1 := (b14 (p := ⟨gb178, 0, none⟩) (by first | (rw [add_block]; exact hn179_0) | (show (Addr.add _ _).block ≠ _; rw [add_block]; exact hn179_0) | exact hn179_0) (.int .i64 t176)).trans hx179_1; replace hx179_2 := (b14 (p := ⟨gb178, 0, none⟩) (by first | (rw [add_block]; exact hn179_0) | (show (Addr.add _ _).block ≠ _; rw [add_block]; exact hn179_0) | exact hn179_0) (.int .i64 t176)).trans hx179_2; replace hx179_0 := (b14 (p := ⟨gb178, 1, none⟩) (by first | (rw [add_block]; exact hn179_1) | (show (Addr.add _ _).block ≠ _; rw [add_block]; exact hn179_1) | exact hn179_1) (.int .i64 t177)).trans hx179_0; replace hx179_1 := (b14 (p := ⟨gb178, 1, none⟩) (by first | (rw [add_block]; exact hn179_1) | (show (Addr.add _ _).block ≠ _; rw [add_block]; exact hn179_1) | exact hn179_1) (.int .i64 t177)).trans hx179_1; replace hx179_2 := (b14 (p := ⟨gb178, 1, none⟩) (by first | (rw [add_block]; exact hn179_1) | (show (Addr.add _ _).block ≠ _; rw [add_block]; exact hn179_1) | exact hn179_1) (.int .i64 t177)).trans hx179_2; (try have hy179_0 := fun (n_ : Nat) => (show ((((w15.drewN n_).setCell ⟨gb178, 0, none⟩ (.int .i64 t176)).setCell ⟨gb178, 1, none⟩ (.int .i64 t177))).cell? _ = some _ from hx179_0)); (try have hy179_1 := fun (n_ : Nat) => (show ((((w15.drewN n_).setCell ⟨gb178, 0, none⟩ (.int .i64 t176)).setCell ⟨gb178, 1, none⟩ (.int .i64 t177))).cell? _ = some _ from hx179_1)); (try have hy179_2 := fun (n_ : Nat) => (show ((((w15.drewN n_).setCell ⟨gb178, 0, none⟩ (.int .i64 t176)).setCell ⟨gb178, 1, none⟩ (.int .i64 t177))).cell? _ = some _ from hx179_2)); clear hn179_0; clear hn179_1; replace p179 := eq_true p179; replace q179 := eq_true q179; have p180 : 0 ≤ (x5_1 : Int) := of_decide_eq_true (by first | (with_reducible assumption) | assumption); have q180 : x5_1 < (l0.length : Int) := of_decide_eq_true (by first | (with_reducible assumption) | assumption); obtain ⟨ad180, A180_0, c180_0, e180, hx180_0, hx180_1, hx180_2, hl180_0, hi180_0⟩ := at_T81 HR0.out x5_1 p180 q180; obtain rfl : ad175 = ad180 := (by injection e180); have hn180_0 : ad175.block ≠ gb178 := Nat.ne_of_lt (Nat.lt_of_lt_of_le (by have := World.block_lt_of_cell? _ _ hx180_0; first | rwa [add_block] at this | exact this) GW178.out); have hn180_1 : ad175.block ≠ gb178 := Nat.ne_of_lt (Nat.lt_of_lt_of_le (by have := World.block_lt_of_cell? _ _ hx180_0; first | rwa [add_block] at this | exact this) GW178.out); replace hx180_0 := (HB.out.cell (World.block_lt_of_cell? w _ hx180_0)).trans hx180_0; replace hx180_1 := (HB.out.cell (World.block_lt_of_cell? w _ hx180_1)).trans hx180_1; replace hx180_2 := (HB.out.cell (World.block_lt_of_cell? w _ hx180_2)).trans hx180_2; have HR180_0 := Aside0.mk hi180_0; have HC180_0 := Aside0.mk hl180_0; clear hi180_0 hl180_0; replace hx180_0 := (b14 (p := ⟨gb178, 0, none⟩) (by first | (rw [add_block]; exact hn180_0) | (show (Addr.add _ _).block ≠ _; rw [add_block]; exact hn180_0) | exact hn180_0) (.int .i64 t176)).trans hx180_0; replace hx180_1 := (b14 (p := ⟨gb178, 0, none⟩) (by first | (rw [add_block]; exact hn180_0) | (show (Addr.add _ _).block ≠ _; rw [add_block]; exact hn180_0) | exact hn180_0) (.int .i64 t176)).trans hx180_1; replace hx180_2 := (b14 (p := ⟨gb178, 0, none⟩) (by first | (rw [add_block]; exact hn180_0) | (show (Addr.add _ _).block ≠ _; rw [add_block]; exact hn180_0) | exact hn180_0) (.int .i64 t176)).trans hx180_2; replace hx180_0 := (b14 (p := ⟨gb178, 1, none⟩) (by first | (rw [add_block]; exact hn180_1) | (show (Addr.add _ _).block ≠ _; rw [add_block]; exact hn180_1) | exact hn180_1) (.int .i64 t177)).trans hx180_0; replace hx180_1 := (b14 (p := ⟨gb178, 1, none⟩) (by first | (rw [add_block]; exact hn180_1) | (show (Addr.add _ _).block ≠ _; rw [add_block]; exact hn180_1) | exact hn180_1) (.int .i64 t177)).trans hx180_1; replace hx180_2 := (b14 (p := ⟨gb178, 1, none⟩) (by first | (rw [add_block]; exact hn180_1) | (show (Addr.add _ _).block ≠ _; rw [add_block]; exact hn180_1) | exact hn180_1) (.int .i64 t177)).trans hx180_2; (try have hy180_0 := fun (n_ : Nat) => (show ((((w15.drewN n_).setCell ⟨gb178, 0, none⟩ (.int .i64 t176)).setCell ⟨gb178, 1, none⟩ (.int .i64 t177))).cell? _ = some _ from hx180_0)); (try have hy180_1 := fun (n_ : Nat) => (show ((((w15.drewN n_).setCell ⟨gb178, 0, none⟩ (.int .i64 t176)).setCell ⟨gb178, 1, none⟩ (.int .i64 t177))).cell? _ = some _ from hx180_1)); (try have hy180_2 := fun (n_ : Nat) => (show ((((w15.drewN n_).setCell ⟨gb178, 0, none⟩ (.int .i64 t176)).setCell ⟨gb178, 1, none⟩ (.int .i64 t177))).cell? _ = some _ from hx180_2)); clear hn180_0; clear hn180_1; replace p180 := eq_true p180; replace q180 := eq_true q180)); try go_wp2_with (first | (go_at_call 45; (with_reducible refine (tensileref05_Stretch.calls k1 _ _ ((rd_T81 l0 x5_1).f0) _ _ l1 t176 t177 _ ?side1 ?side2 ?side3 ?side4 A5.out).mono ?_); (case side1 => repeat (first | exact (k16 HR175_0.out HB.out) | (with_reducible refine k13 ?_ _) | (with_reducible refine k14 ?_ _) | (with_reducible refine k15 ?_))); (case side2 => exact HC175_0.out); (case side3 => repeat (first | exact (k16 HR1.out HB.out) | (with_reducible refine k13 ?_ _) | (with_reducible refine k14 ?_ _) | (with_reducible refine k15 ?_))); (case side4 => exact HC1.out); rintro e w14 ⟨rfl, hb⟩; have n0_ := Aside0.mk (b13 (by repeat (first | (with_reducible first | exact HB.out | apply b8 | apply b6 | apply b7) | exact HB.out)) hb); clear HB; have HB := n0_; clear n0_; (try clear hb); (try clear hb2); (try clear hk); (try clear hi)) | ((with_reducible refine gate_dst (N := 6) rfl ?_); refine box_event ?hg (N := 6) ?hd (cs := #[.int .i64 0, .int .i64 0]) (t := 54) ?hr ?_; (case hd => rfl); (case hg => rfl); (case hr => first | (go_simp; done) | (go_simp; rfl)); intro gb178 hg w15 hbox hb; have n0_ := Aside0.mk (b13 (by repeat (first | (with_reducible first | exact HB.out | apply b8 | apply b6 | apply b7) | exact HB.out)) hb); have n1_ := Aside0.mk (hbox); have n2_ := Aside0.mk ((by rw [hg]; exact (b12 (by repeat (first | (with_reducible first | exact HB.out | apply b8 | apply b6 | apply b7) | exact HB.out))) : w.heap.size ≤ gb178)); have n3_ := Aside0.mk ((by rw [hg]; exact (b12 (by repeat (first | (with_reducible first | exact HB.out | apply b8 | apply b6 | apply b7) | exact HB.out))) : w.heap.size ≤ gb178)); clear HB; have HB := n0_; have BK178 := n1_; have GW178 := n2_; have GE178 := n3_; clear n0_ n1_ n2_ n3_; clear hb hbox hg; have hcz16_0 : w15.cell? ⟨gb178, 0, none⟩ = some (.int .i64 0) := (b4 BK178.out 0).trans rfl; have hcz16_1 : w15.cell? ⟨gb178, 1, none⟩ = some (.int .i64 0) := (b4 BK178.out 1).trans rfl; have hfz16_0 := b9 BK178.out 0; have hfz16_1 := b9 BK178.out 1; have p179 : 0 ≤ (x5_1 : Int) := of_decide_eq_true (by first | (with_reducible assumption) | assumption); have q179 : x5_1 < (l0.length : Int) := of_decide_eq_true (by first | (with_reducible assumption) | assumption); obtain ⟨ad179, A179_0, c179_0, e179, hx179_0, hx179_1, hx179_2, hl179_0, hi179_0⟩ := at_T81 HR0.out x5_1 p179 q179; obtain rfl : ad175 = ad179 := (by injection e179); have hn179_0 : ad175.block ≠ gb178 := Nat.ne_of_lt (Nat.lt_of_lt_of_le (by have := World.block_lt_of_cell? _ _ hx179_0; first | rwa [add_block] at this | exact this) GW178.out); have hn179_1 : ad175.block ≠ gb178 := Nat.ne_of_lt (Nat.lt_of_lt_of_le (by have := World.block_lt_of_cell? _ _ hx179_0; first | rwa [add_block] at this | exact this) GW178.out); replace hx179_0 := (HB.out.cell (World.block_lt_of_cell? w _ hx179_0)).trans hx179_0; replace hx179_1 := (HB.out.cell (World.block_lt_of_cell? w _ hx179_1)).trans hx179_1; replace hx179_2 := (HB.out.cell (World.block_lt_of_cell? w _ hx179_2)).trans hx179_2; have HR179_0 := Aside0.mk hi179_0; have HC179_0 := Aside0.mk hl179_0; clear hi179_0 hl179_0; replace hx179_0 := (b14 (p := ⟨gb178, 0, none⟩) (by first | (rw [add_block]; exact hn179_0) | (show (Addr.add _ _).block ≠ _; rw [add_block]; exact hn179_0) | exact hn179_0) (.int .i64 t176)).trans hx179_0; replace hx179_1 := (b14 (p := ⟨gb178, 0, none⟩) (by first | (rw [add_block]; exact hn179_0) | (show (Addr.add _ _).block ≠ _; rw [add_block]; exact hn179_0) | exact hn179_0) (.int .i64 t176)).trans hx179_1; replace hx179_2 := (b14 (p := ⟨gb178, 0, none⟩) (by first | (rw [add_block]; exact hn179_0) | (show (Addr.add _ _).block ≠ _; rw [add_block]; exact hn179_0) | exact hn179_0) (.int .i64 t176)).trans hx179_2; replace hx179_0 := (b14 (p := ⟨gb178, 1, none⟩) (by first | (rw [add_block]; exact hn179_1) | (show (Addr.add _ _).block ≠ _; rw [add_block]; exact hn179_1) | exact hn179_1) (.int .i64 t177)).trans hx179_0; replace hx179_1 := (b14 (p := ⟨gb178, 1, none⟩) (by first | (rw [add_block]; exact hn179_1) | (show (Addr.add _ _).block ≠ _; rw [add_block]; exact hn179_1) | exact hn179_1) (.int .i64 t177)).trans hx179_1; replace hx179_2 := (b14 (p := ⟨gb178, 1, none⟩) (by first | (rw [add_block]; exact hn179_1) | (show (Addr.add _ _).block ≠ _; rw [add_block]; exact hn179_1) | exact hn179_1) (.int .i64 t177)).trans hx179_2; (try have hy179_0 := fun (n_ : Nat) => (show ((((w15.drewN n_).setCell ⟨gb178, 0, none⟩ (.int .i64 t176)).setCell ⟨gb178, 1, none⟩ (.int .i64 t177))).cell? _ = some _ from hx179_0)); (try have hy179_1 := fun (n_ : Nat) => (show ((((w15.drewN n_).setCell ⟨gb178, 0, none⟩ (.int .i64 t176)).setCell ⟨gb178, 1, none⟩ (.int .i64 t177))).cell? _ = some _ from hx179_1)); (try have hy179_2 := fun (n_ : Nat) => (show ((((w15.drewN n_).setCell ⟨gb178, 0, none⟩ (.int .i64 t176)).setCell ⟨gb178, 1, none⟩ (.int .i64 t177))).cell? _ = some _ from hx179_2)); clear hn179_0; clear hn179_1; replace p179 := eq_true p179; replace q179 := eq_true q179; have p180 : 0 ≤ (x5_1 : Int) := of_decide_eq_true (by first | (with_reducible assumption) | assumption); have q180 : x5_1 < (l0.length : Int) := of_decide_eq_true (by first | (with_reducible assumption) | assumption); obtain ⟨ad180, A180_0, c180_0, e180, hx180_0, hx180_1, hx180_2, hl180_0, hi180_0⟩ := at_T81 HR0.out x5_1 p180 q180; obtain rfl : ad175 = ad180 := (by injection e180); have hn180_0 : ad175.block ≠ gb178 := Nat.ne_of_lt (Nat.lt_of_lt_of_le (by have := World.block_lt_of_cell? _ _ hx180_0; first | rwa [add_block] at this | exact this) GW178.out); have hn180_1 : ad175.block ≠ gb178 := Nat.ne_of_lt (Nat.lt_of_lt_of_le (by have := World.block_lt_of_cell? _ _ hx180_0; first | rwa [add_block] at this | exact this) GW178.out); replace hx180_0 := (HB.out.cell (World.block_lt_of_cell? w _ hx180_0)).trans hx180_0; replace hx180_1 := (HB.out.cell (World.block_lt_of_cell? w _ hx180_1)).trans hx180_1; replace hx180_2 := (HB.out.cell (World.block_lt_of_cell? w _ hx180_2)).trans hx180_2; have HR180_0 := Aside0.mk hi180_0; have HC180_0 := Aside0.mk hl180_0; clear hi180_0 hl180_0; replace hx180_0 := (b14 (p := ⟨gb178, 0, none⟩) (by first | (rw [add_block]; exact hn180_0) | (show (Addr.add _ _).block ≠ _; rw [add_block]; exact hn180_0) | exact hn180_0) (.int .i64 t176)).trans hx180_0; replace hx180_1 := (b14 (p := ⟨gb178, 0, none⟩) (by first | (rw [add_block]; exact hn180_0) | (show (Addr.add _ _).block ≠ _; rw [add_block]; exact hn180_0) | exact hn180_0) (.int .i64 t176)).trans hx180_1; replace hx180_2 := (b14 (p := ⟨gb178, 0, none⟩) (by first | (rw [add_block]; exact hn180_0) | (show (Addr.add _ _).block ≠ _; rw [add_block]; exact hn180_0) | exact hn180_0) (.int .i64 t176)).trans hx180_2; replace hx180_0 := (b14 (p := ⟨gb178, 1, none⟩) (by first | (rw [add_block]; exact hn180_1) | (show (Addr.add _ _).block ≠ _; rw [add_block]; exact hn180_1) | exact hn180_1) (.int .i64 t177)).trans hx180_0; replace hx180_1 := (b14 (p := ⟨gb178, 1, none⟩) (by first | (rw [add_block]; exact hn180_1) | (show (Addr.add _ _).block ≠ _; rw [add_block]; exact hn180_1) | exact hn180_1) (.int .i64 t177)).trans hx180_1; replace hx180_2 := (b14 (p := ⟨gb178, 1, none⟩) (by first | (rw [add_block]; exact hn180_1) | (show (Addr.add _ _).block ≠ _; rw [add_block]; exact hn180_1) | exact hn180_1) (.int .i64 t177)).trans hx180_2; (try have hy180_0 := fun (n_ : Nat) => (show ((((w15.drewN n_).setCell ⟨gb178, 0, none⟩ (.int .i64 t176)).setCell ⟨gb178, 1, none⟩ (.int .i64 t177))).cell? _ = some _ from hx180_0)); (try have hy180_1 := fun (n_ : Nat) => (show ((((w15.drewN n_).setCell ⟨gb178, 0, none⟩ (.int .i64 t176)).setCell ⟨gb178, 1, none⟩ (.int .i64 t177))).cell? _ = some _ from hx180_1)); (try have hy180_2 := fun (n_ : Nat) => (show ((((w15.drewN n_).setCell ⟨gb178, 0, none⟩ (.int .i64 t176)).setCell ⟨gb178, 1, none⟩ (.int .i64 t177))).cell? _ = some _ from hx180_2)); clear hn180_0; clear hn180_1; replace p180 := eq_true p180; replace q180 := eq_true q180)))
       go_roundg k1
       case measure => have := HK1.out; omega
       case rel => exact ⟨(wrap64 (x5_1 + 1)), (by first | rfl | (simp; done) | (simp [*]; done)), H', ⟨by have := HK1.out; omega⟩, ⟨by repeat (first | (with_reducible first | exact HB.out | apply b8 | apply b6 | apply b7 | refine b3 ?_ GE178.out) | exact HB.out)⟩⟩
    ·
     rw [if_neg c4] at H
     exact absurd H (by simp)
   ·
    rw [if_neg c3] at H
    have c3b0 : decide (x5_1 < (l0.length : Int)) = false := decide_eq_false c3
    clear c3
    obtain rfl := Option.some.inj H
    go_wp2
    repeat (go_quiet (fail); try go_wp2)
    go_ret
    exact ⟨by first | rfl | (simp [errW_none, errW_some] <;> rfl) | (simp [*, errW_none, errW_some] <;> rfl), by repeat (first | (with_reducible first | exact HB.out | apply b8 | apply b6 | apply b7) | exact HB.out)⟩
end Go.Proofs.Ytdagijgoegkphaa.P
