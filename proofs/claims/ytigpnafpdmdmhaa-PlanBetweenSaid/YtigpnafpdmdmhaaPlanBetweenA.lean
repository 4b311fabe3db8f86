/- The statement PlanBetween: whatever the input (its guards are the law's own), the call returns true, and each argument reads as it did. -/
import Derived.Test.YtigpnafpdmdmhaaB2
import Derived.Test.YtigpnafpdmdmhaaB1
import Derived.Test.YtigpnafpdmdmhaaB0
import Derived.Test.YtigpnafpdmdmhaaRows
import Derived.WalkKit
import Derived.ProofKit
import Derived.OpenShut
import Derived.ShutString
import Derived.ChangeOld
import Derived.Below
import Derived.SizedLaws
set_option linter.unusedVariables false
set_option linter.unusedSimpArgs false
namespace Go.Proofs.Ytigpnafpdmdmhaa.P
open Go.RowKit Go.Proofs.YtigpnafpdmdmhaaW.PrintWords Go.Proofs.YtigpnafpdmdmhaaW.PrintLast

/-! ### tensilelaw09_ready: function 26 -/
def tensilelaw09_ready.f (k : Nat) (a0_0 : Int) (l0_1 : List (S57)) : Option (Bool) := (tensilelaw09_Thin.f a0_0 l0_1).bind fun t164 => (if t164 = true then ((tensileref09_Fault.f k a0_0 l0_1).bind fun t165 => (some (t165 == 0))) else (some false))
theorem tensilelaw09_ready.mono : ∀ a0 a1 k, LeO (tensilelaw09_ready.f k a0 a1) (tensilelaw09_ready.f (k + 1) a0 a1) := by
  intro a0 a1 k
  unfold tensilelaw09_ready.f
  repeat' first
      | (with_reducible exact tensileref09_Fault.mono _ _ _)
      | (with_reducible exact LeO.refl _)
      | (with_reducible exact LeO.none _)
      | (with_reducible refine LeO.ite ?_ ?_)
      | (with_reducible refine LeO.bind ?_ (fun _ => ?_))
      | exact tensileref09_Fault.mono _ _ _
      | exact LeO.none _
      | refine LeO.ite ?_ ?_
      | refine LeO.bind ?_ (fun _ => ?_)
set_option maxHeartbeats 8000000 in
set_option maxRecDepth 100000 in
theorem tensilelaw09_ready.calls (k : Nat) (a0_0 : Int) (A0_1 : Option Addr) (c0_1 : Nat) (l0_1 : List (S57)) (r : Bool) (w : World) (hr0_1 : Kd.C k57 w A0_1 l0_1.length l0_1) (hc0_1 : l0_1.length ≤ c0_1) (h : tensilelaw09_ready.f k a0_0 l0_1 = some r) :
    Calls Try.prog 26 #[.agg #[.int .i64 a0_0, .slice A0_1 l0_1.length c0_1]] w fun e w' => e = .returned (.bool r) ∧ Below w.heap.size w w' := by
  have hu24 := Try.underlying24
  have HR0_1 := Aside0.mk hr0_1
  have HC0_1 := Aside0.mk hc0_1
  clear hr0_1 hc0_1
  have HB := Aside0.mk (Below.refl w.heap.size w)
  have H : ((tensilelaw09_Thin.f a0_0 l0_1).bind fun t164 => (if t164 = true then ((tensileref09_Fault.f k a0_0 l0_1).bind fun t165 => (some (t165 == 0))) else (some false))) = some r := h
  clear h
  replace H := Option.bind_eq_some_iff.mp H
  obtain ⟨t164, A20, H⟩ := H
  replace H : (if t164 = true then ((tensileref09_Fault.f k a0_0 l0_1).bind fun t165 => (some (t165 == 0))) else (some false)) = some r := H
  have A2 := Aside0.mk A20
  clear A20
  by_cases c3 : t164 = true
  · subst c3
    have H1 : ((tensileref09_Fault.f k a0_0 l0_1).bind fun t165 => (some (t165 == 0))) = some r := by rw [if_pos rfl] at H; exact H
    clear H
    have H := H1
    clear H1
    replace H := Option.bind_eq_some_iff.mp H
    obtain ⟨t165, A40, H⟩ := H
    replace H : (some (t165 == 0)) = some r := H
    have A4 := Aside0.mk A40
    clear A40
    obtain rfl := Option.some.inj H
    go_enter Try.func26, Try.ntmps26
    go_wp2_with (first | ((with_reducible refine gate_dst (N := 1) rfl ?_); refine box_event ?hg (N := 1) ?hd (cs := #[.int .i64 a0_0, .slice A0_1 l0_1.length c0_1]) (t := 24) ?hr ?_; (case hd => rfl); (case hg => rfl); (case hr => first | (go_simp; done) | (go_simp; rfl)); intro gb163 hg w5 hbox hb; have n0_ := Aside0.mk (below_step (by repeat (first | (with_reducible first | exact HB.out | apply below_alloc | apply pw_below_drewN | apply below_drew1) | exact HB.out)) hb); have n1_ := Aside0.mk (hbox); have n2_ := Aside0.mk ((by rw [hg]; exact (below_size (by repeat (first | (with_reducible first | exact HB.out | apply below_alloc | apply pw_below_drewN | apply below_drew1) | exact HB.out))) : w.heap.size ≤ gb163)); have n3_ := Aside0.mk ((by rw [hg]; exact (below_size (by repeat (first | (with_reducible first | exact HB.out | apply below_alloc | apply pw_below_drewN | apply below_drew1) | exact HB.out))) : w.heap.size ≤ gb163)); clear HB; have HB := n0_; have BK163 := n1_; have GW163 := n2_; have GE163 := n3_; clear n0_ n1_ n2_ n3_; clear hb hbox hg; have hcz6_0 : w5.cell? ⟨gb163, 0, none⟩ = some (.int .i64 a0_0) := (blk_cell BK163.out 0).trans rfl; have hcz6_1 : w5.cell? ⟨gb163, 1, none⟩ = some (.slice A0_1 l0_1.length c0_1) := (blk_cell BK163.out 1).trans rfl; have hfz6_0 := blk_frozen BK163.out 0; have hfz6_1 := blk_frozen BK163.out 1) | ((with_reducible refine gate_callee (f := 14) rfl ?_); refine goesL_ (some 4) rfl rfl Try.func14 (by kernel_rfl) rfl #[.agg #[.int .i64 a0_0, .slice A0_1 l0_1.length c0_1]] rfl (by (try simp only [List.map_toArray, List.map_cons, List.map_nil]); first | done | rfl | (simp only [List.length_drop, List.length_take]; rfl)) ?_; (with_reducible refine (tensilelaw09_Thin.calls a0_0 _ _ l0_1 true _ ?side1 ?side2 A2.out).mono ?_); (case side1 => repeat (first | exact (Kd.C_below HR0_1.out HB.out) | (with_reducible refine Kd.C_alloc ?_ _) | (with_reducible refine Kd.C_drewN ?_ _) | (with_reducible refine Kd.C_drew ?_))); (case side2 => exact HC0_1.out); rintro e w7 ⟨rfl, hb⟩; refine ⟨_, rfl, ?_⟩; have n0_ := Aside0.mk (blk_below (g := gb163) (o := .cells #[.int .i64 a0_0, .slice A0_1 l0_1.length c0_1] 24 (0, 0)) (by (with_reducible repeat (first | refine blk_drewN ?_ _ | refine blk_drew ?_ | refine blk_alloc ?_ _)); exact BK163.out) hb); have n1_ := Aside0.mk (below_step (by repeat (first | (with_reducible first | exact HB.out | apply below_alloc | apply pw_below_drewN | apply below_drew1 | refine below_set ?_ GE163.out) | exact HB.out)) hb); clear BK163; clear HB; have BK163 := n0_; have HB := n1_; clear n0_ n1_; (try clear hb); (try clear hb2); (try clear hk); (try clear hi); have hcz8_0 : w7.cell? ⟨gb163, 0, none⟩ = some (.int .i64 a0_0) := (blk_cell BK163.out 0).trans rfl; have hcz8_1 : w7.cell? ⟨gb163, 1, none⟩ = some (.slice A0_1 l0_1.length c0_1) := (blk_cell BK163.out 1).trans rfl; have hfz8_0 := blk_frozen BK163.out 0; have hfz8_1 := blk_frozen BK163.out 1) | (go_at_call 37; (with_reducible refine (tensileref09_Fault.calls k a0_0 _ _ l0_1 t165 _ ?side1 ?side2 A4.out).mono ?_); (case side1 => repeat (first | exact (Kd.C_below HR0_1.out HB.out) | (with_reducible refine Kd.C_alloc ?_ _) | (with_reducible refine Kd.C_drewN ?_ _) | (with_reducible refine Kd.C_drew ?_))); (case side2 => exact HC0_1.out); rintro e w9 ⟨rfl, hb⟩; have n0_ := Aside0.mk (blk_below (g := gb163) (o := .cells #[.int .i64 a0_0, .slice A0_1 l0_1.length c0_1] 24 (0, 0)) (by (with_reducible repeat (first | refine blk_drewN ?_ _ | refine blk_drew ?_ | refine blk_alloc ?_ _)); exact BK163.out) hb); have n1_ := Aside0.mk (below_step (by repeat (first | (with_reducible first | exact HB.out | apply below_alloc | apply pw_below_drewN | apply below_drew1 | refine below_set ?_ GE163.out) | exact HB.out)) hb); clear BK163; clear HB; have BK163 := n0_; have HB := n1_; clear n0_ n1_; (try clear hb); (try clear hb2); (try clear hk); (try clear hi)))
    go_ret
    exact ⟨by first | rfl | (simp [errW_none, errW_some] <;> rfl) | (simp [*, errW_none, errW_some] <;> rfl), by repeat (first | (with_reducible first | exact HB.out | apply below_alloc | apply pw_below_drewN | apply below_drew1 | refine below_set ?_ GE163.out) | exact HB.out)⟩
  · replace c3 := Bool.eq_false_iff.mpr c3
    subst c3
    have H1 : (some false) = some r := by rw [if_neg (show ¬ (false = true) by decide)] at H; exact H
    clear H
    have H := H1
    clear H1
    obtain rfl := Option.some.inj H
    go_enter Try.func26, Try.ntmps26
    go_wp2_with (first | ((with_reducible refine gate_dst (N := 1) rfl ?_); refine box_event ?hg (N := 1) ?hd (cs := #[.int .i64 a0_0, .slice A0_1 l0_1.length c0_1]) (t := 24) ?hr ?_; (case hd => rfl); (case hg => rfl); (case hr => first | (go_simp; done) | (go_simp; rfl)); intro gb163 hg w10 hbox hb; have n0_ := Aside0.mk (below_step (by repeat (first | (with_reducible first | exact HB.out | apply below_alloc | apply pw_below_drewN | apply below_drew1) | exact HB.out)) hb); have n1_ := Aside0.mk (hbox); have n2_ := Aside0.mk ((by rw [hg]; exact (below_size (by repeat (first | (with_reducible first | exact HB.out | apply below_alloc | apply pw_below_drewN | apply below_drew1) | exact HB.out))) : w.heap.size ≤ gb163)); have n3_ := Aside0.mk ((by rw [hg]; exact (below_size (by repeat (first | (with_reducible first | exact HB.out | apply below_alloc | apply pw_below_drewN | apply below_drew1) | exact HB.out))) : w.heap.size ≤ gb163)); clear HB; have HB := n0_; have BK163 := n1_; have GW163 := n2_; have GE163 := n3_; clear n0_ n1_ n2_ n3_; clear hb hbox hg; have hcz11_0 : w10.cell? ⟨gb163, 0, none⟩ = some (.int .i64 a0_0) := (blk_cell BK163.out 0).trans rfl; have hcz11_1 : w10.cell? ⟨gb163, 1, none⟩ = some (.slice A0_1 l0_1.length c0_1) := (blk_cell BK163.out 1).trans rfl; have hfz11_0 := blk_frozen BK163.out 0; have hfz11_1 := blk_frozen BK163.out 1) | ((with_reducible refine gate_callee (f := 14) rfl ?_); refine goesL_ (some 4) rfl rfl Try.func14 (by kernel_rfl) rfl #[.agg #[.int .i64 a0_0, .slice A0_1 l0_1.length c0_1]] rfl (by (try simp only [List.map_toArray, List.map_cons, List.map_nil]); first | done | rfl | (simp only [List.length_drop, List.length_take]; rfl)) ?_; (with_reducible refine (tensilelaw09_Thin.calls a0_0 _ _ l0_1 false _ ?side1 ?side2 A2.out).mono ?_); (case side1 => repeat (first | exact (Kd.C_below HR0_1.out HB.out) | (with_reducible refine Kd.C_alloc ?_ _) | (with_reducible refine Kd.C_drewN ?_ _) | (with_reducible refine Kd.C_drew ?_))); (case side2 => exact HC0_1.out); rintro e w12 ⟨rfl, hb⟩; refine ⟨_, rfl, ?_⟩; have n0_ := Aside0.mk (blk_below (g := gb163) (o := .cells #[.int .i64 a0_0, .slice A0_1 l0_1.length c0_1] 24 (0, 0)) (by (with_reducible repeat (first | refine blk_drewN ?_ _ | refine blk_drew ?_ | refine blk_alloc ?_ _)); exact BK163.out) hb); have n1_ := Aside0.mk (below_step (by repeat (first | (with_reducible first | exact HB.out | apply below_alloc | apply pw_below_drewN | apply below_drew1 | refine below_set ?_ GE163.out) | exact HB.out)) hb); clear BK163; clear HB; have BK163 := n0_; have HB := n1_; clear n0_ n1_; (try clear hb); (try clear hb2); (try clear hk); (try clear hi)))
    go_ret
    exact ⟨by first | rfl | (simp [errW_none, errW_some] <;> rfl) | (simp [*, errW_none, errW_some] <;> rfl), by repeat (first | (with_reducible first | exact HB.out | apply below_alloc | apply pw_below_drewN | apply below_drew1 | refine below_set ?_ GE163.out) | exact HB.out)⟩

end Go.Proofs.Ytigpnafpdmdmhaa.P

namespace Go.Proofs.Ytigpnafpdmdmhaa.P
open Go.RowKit Go.Proofs.YtigpnafpdmdmhaaW.PrintWords Go.Proofs.YtigpnafpdmdmhaaW.PrintLast

/-! ### tensilelaw09_takes: function 29 -/
def tensilelaw09_takes.l0 : Nat → Int → Int → Int → Int → List (S57) → Option (Int)
  | 0, _, _, _, _, _ => none
  | k + 1, x1, x5, x6, x324000, x324001 => if x6 < x1 then (if x6 < (x324001.length : Int) then (if 0 ≤ x6 then (tensilelaw09_takes.l0 k x1 (wrap64 (x5 + ((rd_T57 x324001 x6).f0))) (wrap64 (x6 + 1)) x324000 x324001) else (none)) else (some x5)) else (some x5)
def tensilelaw09_takes.f (k : Nat) (a0_0 : Int) (l0_1 : List (S57)) (a1 : Int) : Option (Int) := tensilelaw09_takes.l0 k a1 0 0 a0_0 l0_1
theorem tensilelaw09_takes.mono_l : ∀ k, (∀ y0 y1 y2 y3 y4, LeO (tensilelaw09_takes.l0 k y0 y1 y2 y3 y4) (tensilelaw09_takes.l0 (k + 1) y0 y1 y2 y3 y4))
  | 0 => fun _ _ _ _ _ r h => by simp [tensilelaw09_takes.l0] at h
  | k + 1 => by
    have ih0 := tensilelaw09_takes.mono_l k
    · intro y0 y1 y2 y3 y4
      unfold tensilelaw09_takes.l0
      repeat' first
      | (with_reducible exact ih0 _ _ _ _ _)
      | (with_reducible exact LeO.refl _)
      | (with_reducible exact LeO.none _)
      | (with_reducible refine LeO.ite ?_ ?_)
      | (with_reducible refine LeO.bind ?_ (fun _ => ?_))
      | exact ih0 _ _ _ _ _
      | exact LeO.none _
      | refine LeO.ite ?_ ?_
      | refine LeO.bind ?_ (fun _ => ?_)
theorem tensilelaw09_takes.mono : ∀ a0 a1 a2 k, LeO (tensilelaw09_takes.f k a0 a1 a2) (tensilelaw09_takes.f (k + 1) a0 a1 a2) := by
  intro a0 a1 a2 k
  have ih0 := tensilelaw09_takes.mono_l k
  unfold tensilelaw09_takes.f
  repeat' first
      | (with_reducible exact ih0 _ _ _ _ _)
      | (with_reducible exact LeO.refl _)
      | (with_reducible exact LeO.none _)
      | (with_reducible refine LeO.ite ?_ ?_)
      | (with_reducible refine LeO.bind ?_ (fun _ => ?_))
      | exact ih0 _ _ _ _ _
      | exact LeO.none _
      | refine LeO.ite ?_ ?_
      | refine LeO.bind ?_ (fun _ => ?_)
set_option maxHeartbeats 8000000 in
set_option maxRecDepth 100000 in
theorem tensilelaw09_takes.calls (k : Nat) (a0_0 : Int) (A0_1 : Option Addr) (c0_1 : Nat) (l0_1 : List (S57)) (a1 : Int) (r : Int) (w : World) (hr0_1 : Kd.C k57 w A0_1 l0_1.length l0_1) (hc0_1 : l0_1.length ≤ c0_1) (h : tensilelaw09_takes.f k a0_0 l0_1 a1 = some r) :
    Calls Try.prog 29 #[.agg #[.int .i64 a0_0, .slice A0_1 l0_1.length c0_1], .int .i64 a1] w fun e w' => e = .returned (.int .i64 r) ∧ Below w.heap.size w w' := by
  have hu24 := Try.underlying24
  have HR0_1 := Aside0.mk hr0_1
  have HC0_1 := Aside0.mk hc0_1
  clear hr0_1 hc0_1
  have HB := Aside0.mk (Below.refl w.heap.size w)
  have H : (tensilelaw09_takes.l0 k a1 0 0 a0_0 l0_1) = some r := h
  clear h
  have H' := Aside0.mk H
  clear H
  go_enter Try.func29, Try.ntmps29
  go_wp2_with (first | ((with_reducible refine gate_dst (N := 2) rfl ?_); (try (refine gate_guard (by rfl) ?_; dsimp only)); refine box_event ?hg (N := 2) ?hd (cs := #[.int .i64 a0_0, .slice A0_1 l0_1.length c0_1]) (t := 24) ?hr ?_; (case hd => rfl); (case hg => rfl); (case hr => first | (go_simp; done) | (go_simp; rfl)); intro gb323 hg w3 hbox hb; have n0_ := Aside0.mk (below_step (by repeat (first | (with_reducible first | exact HB.out | apply below_alloc | apply pw_below_drewN | apply below_drew1) | exact HB.out)) hb); have n1_ := Aside0.mk (hbox); have n2_ := Aside0.mk ((by rw [hg]; exact (below_size (by repeat (first | (with_reducible first | exact HB.out | apply below_alloc | apply pw_below_drewN | apply below_drew1) | exact HB.out))) : w.heap.size ≤ gb323)); have n3_ := Aside0.mk ((by rw [hg]; exact (below_size (by repeat (first | (with_reducible first | exact HB.out | apply below_alloc | apply pw_below_drewN | apply below_drew1) | exact HB.out))) : w.heap.size ≤ gb323)); clear HB; have HB := n0_; have BK323 := n1_; have GW323 := n2_; have GE323 := n3_; clear n0_ n1_ n2_ n3_; clear hb hbox hg))
  go_loopg [5, 6] k (fun kq v5 v6 w' => ∃ (x5_1 : Int) (x6_1 : Int), v5 = .int .i64 x5_1 ∧ v6 = .int .i64 x6_1 ∧ Aside0 (tensilelaw09_takes.l0 kq a1 x5_1 x6_1 a0_0 l0_1 = some r) ∧ Aside0 (kq ≤ k) ∧ Aside0 (w'.heap[gb323]? = some (.cells #[.int .i64 a0_0, (.slice A0_1 l0_1.length c0_1)] 24 (0, 0))) ∧ Aside0 (Below w.heap.size w w'))
  case atStart => exact ⟨(0), (0), (by first | rfl | (simp; done) | (simp [*]; done)), (by first | rfl | (simp; done) | (simp [*]; done)), H', ⟨Nat.le_refl _⟩, ⟨by (with_reducible repeat (first | refine blk_drewN ?_ _ | refine blk_drew ?_ | refine blk_alloc ?_ _)); exact BK323.out⟩, ⟨by repeat (first | (with_reducible first | exact HB.out | apply below_alloc | apply pw_below_drewN | apply below_drew1 | refine below_set ?_ GE323.out) | exact HB.out)⟩⟩
  case round =>
    clear H'
    try clear c2
    try clear p2
    obtain ⟨x5_1, x6_1, rfl, rfl, HA, HK1, BK323, HB⟩ := hrel
    cases gk with
    | zero => exact absurd HA.out (by simp [tensilelaw09_takes.l0])
    | succ k1 =>
      have H := HA.out
      clear HA
      simp only [tensilelaw09_takes.l0] at H
      by_cases c4 : x6_1 < a1
      · rw [if_pos c4] at H
        have c4b0 : decide (x6_1 < a1) = true := decide_eq_true c4
        clear c4
        by_cases c5 : x6_1 < (l0_1.length : Int)
        · rw [if_pos c5] at H
          have c5b0 : decide (x6_1 < (l0_1.length : Int)) = true := decide_eq_true c5
          clear c5
          by_cases c6 : 0 ≤ x6_1
          · rw [if_pos c6] at H
            have c6b0 : decide (0 ≤ x6_1) = true := decide_eq_true c6
            clear c6
            have H' := Aside0.mk H
            clear H
            have hcz7_0 : wr.cell? ⟨gb323, 0, none⟩ = some (.int .i64 a0_0) := (blk_cell BK323.out 0).trans rfl
            have hcz7_1 : wr.cell? ⟨gb323, 1, none⟩ = some (.slice A0_1 l0_1.length c0_1) := (blk_cell BK323.out 1).trans rfl
            have hfz7_0 := blk_frozen BK323.out 0
            have hfz7_1 := blk_frozen BK323.out 1
            have p324 : 0 ≤ (x6_1 : Int) := of_decide_eq_true (by first | (with_reducible assumption) | assumption)
            have q324 : x6_1 < (l0_1.length : Int) := of_decide_eq_true (by first | (with_reducible assumption) | assumption)
            obtain ⟨ad324, e324, hx324_0, hx324_1, hx324_2⟩ := at_T57 HR0_1.out x6_1 p324 q324
            cases e324
            replace hx324_0 := (HB.out.cell (World.block_lt_of_cell? w _ hx324_0)).trans hx324_0
            replace hx324_1 := (HB.out.cell (World.block_lt_of_cell? w _ hx324_1)).trans hx324_1
            replace hx324_2 := (HB.out.cell (World.block_lt_of_cell? w _ hx324_2)).trans hx324_2
            replace p324 := eq_true p324
            replace q324 := eq_true q324
            go_wp2
            go_roundg k1
            case measure => have := HK1.out; omega
            case rel => exact ⟨(wrap64 (x5_1 + ((rd_T57 l0_1 x6_1).f0))), (wrap64 (x6_1 + 1)), (by first | rfl | (simp; done) | (simp [*]; done)), (by first | rfl | (simp; done) | (simp [*]; done)), H', ⟨by have := HK1.out; omega⟩, ⟨by (with_reducible repeat (first | refine blk_drewN ?_ _ | refine blk_drew ?_ | refine blk_alloc ?_ _)); exact BK323.out⟩, ⟨by repeat (first | (with_reducible first | exact HB.out | apply below_alloc | apply pw_below_drewN | apply below_drew1 | refine below_set ?_ GE323.out) | exact HB.out)⟩⟩
          · rw [if_neg c6] at H
            exact absurd H (by simp)
        · rw [if_neg c5] at H
          have c5b0 : decide (x6_1 < (l0_1.length : Int)) = false := decide_eq_false c5
          clear c5
          obtain rfl := Option.some.inj H
          have hcz8_0 : wr.cell? ⟨gb323, 0, none⟩ = some (.int .i64 a0_0) := (blk_cell BK323.out 0).trans rfl
          have hcz8_1 : wr.cell? ⟨gb323, 1, none⟩ = some (.slice A0_1 l0_1.length c0_1) := (blk_cell BK323.out 1).trans rfl
          have hfz8_0 := blk_frozen BK323.out 0
          have hfz8_1 := blk_frozen BK323.out 1
          go_wp2
          go_ret
          exact ⟨by first | rfl | (simp [errW_none, errW_some] <;> rfl) | (simp [*, errW_none, errW_some] <;> rfl), by repeat (first | (with_reducible first | exact HB.out | apply below_alloc | apply pw_below_drewN | apply below_drew1 | refine below_set ?_ GE323.out) | exact HB.out)⟩
      · rw [if_neg c4] at H
        have c4b0 : decide (x6_1 < a1) = false := decide_eq_false c4
        clear c4
        obtain rfl := Option.some.inj H
        go_wp2
        go_ret
        exact ⟨by first | rfl | (simp [errW_none, errW_some] <;> rfl) | (simp [*, errW_none, errW_some] <;> rfl), by repeat (first | (with_reducible first | exact HB.out | apply below_alloc | apply pw_below_drewN | apply below_drew1 | refine below_set ?_ GE323.out) | exact HB.out)⟩

end Go.Proofs.Ytigpnafpdmdmhaa.P

namespace Go.Proofs.Ytigpnafpdmdmhaa.P
open Go.RowKit Go.Proofs.YtigpnafpdmdmhaaW.PrintWords Go.Proofs.YtigpnafpdmdmhaaW.PrintLast

/-! ### tensilelaw09_PlanBetween: function 9 -/
def tensilelaw09_PlanBetween.f (k : Nat) (a0_0 : Int) (l0_1 : List (S57)) (a1 : Int) : Option (Bool) := (tensilelaw09_ready.f k a0_0 l0_1).bind fun t443 => (if t443 = true then ((tensilelaw09_Plan.f k a0_0 l0_1).bind fun bt445 => (if (wrap64 (a0_0 + 1)) = 0 then (none) else ((plan_Mean.f bt445.1 bt445.2 (Int.tmod (wrap64 (a1)) (wrap64 (a0_0 + 1)))).bind fun bt449 => (if 0 < (l0_1.length : Int) then (if bt449.2.2 = 0 then (if bt449.2.1 < 1 then (none) else (if bt449.1 < (wrap64 (((rd_T57 l0_1 0).f0) * bt449.2.1)) then (none) else ((tensilelaw09_takes.f k a0_0 l0_1 (l0_1.length : Int)).bind fun t455 => (if bt449.1 > (wrap64 (t455 * bt449.2.1)) then (none) else (if ((rd_T57 l0_1 0).f2) = (wrap64 (((rd_T57 l0_1 0).f1) + 1)) then (if bt449.1 = ((rd_T57 l0_1 0).f0) then (if bt449.2.1 = 1 then ((tensilelaw09_wakes.f).bind fun t456 => (some t456)) else (none)) else (none)) else ((tensilelaw09_wakes.f).bind fun t457 => (some t457))))))) else (none)) else (none))))) else ((tensilelaw09_wakes.f).bind fun t444 => (some t444)))
theorem tensilelaw09_PlanBetween.mono : ∀ a0 a1 a2 k, LeO (tensilelaw09_PlanBetween.f k a0 a1 a2) (tensilelaw09_PlanBetween.f (k + 1) a0 a1 a2) := by
  intro a0 a1 a2 k
  unfold tensilelaw09_PlanBetween.f
  repeat' first
      | (with_reducible exact tensilelaw09_Plan.mono _ _ _)
      | (with_reducible exact tensilelaw09_ready.mono _ _ _)
      | (with_reducible exact tensilelaw09_takes.mono _ _ _ _)
      | (with_reducible exact LeO.refl _)
      | (with_reducible exact LeO.none _)
      | (with_reducible refine LeO.ite ?_ ?_)
      | (with_reducible refine LeO.bind ?_ (fun _ => ?_))
      | exact tensilelaw09_Plan.mono _ _ _
      | exact tensilelaw09_ready.mono _ _ _
      | exact tensilelaw09_takes.mono _ _ _ _
      | exact LeO.none _
      | refine LeO.ite ?_ ?_
      | refine LeO.bind ?_ (fun _ => ?_)
def tensilelaw09_PlanBetween.T3 : Bool × List (List Nat × List Nat) := (true, [([], []), ([0], [0]), ([], []), ([2], [2]), ([], []), ([4], [4]), ([5], [5]), ([3, 6], [3, 6]), ([1, 7, 1], [1, 7]), ([8], [8]), ([9], [9]), ([9], [9]), ([], []), ([12, 10, 8, 0, 1, 2, 3, 4, 5, 6, 7, 8, 9, 10, 12], [10, 12]), ([11, 13, 0, 1, 2, 3, 4, 5, 6, 7, 8, 9, 10, 11, 12, 13], [11])])
def tensilelaw09_PlanBetween.B3 : List Nat := [0, 1, 0, 4, 0, 16, 48, 124, 255, 511, 1023, 1023, 0, 6143, 16383]
theorem tensilelaw09_PlanBetween.tab3 : rtab .any (opsOf Try.f9 3) = tensilelaw09_PlanBetween.T3 := by kernel_rfl
theorem tensilelaw09_PlanBetween.bits3 : waitsOk tensilelaw09_PlanBetween.T3.2 tensilelaw09_PlanBetween.B3 = true := by kernel_rfl
def tensilelaw09_PlanBetween.T5 : Bool × List (List Nat × List Nat) := (true, [([], []), ([0], [0]), ([1], [1]), ([2], [2]), ([3, 2], [2, 3]), ([4, 2], [2, 4]), ([2, 5], [2, 5]), ([6, 2], [6]), ([7], [7]), ([8, 7], [7, 8]), ([7], [7]), ([10, 7], [7, 10]), ([7], [7]), ([12, 7], [7, 12]), ([11, 13, 7], [7, 11, 13]), ([9, 14, 7], [7, 9, 14]), ([7, 15], [7, 15]), ([16, 7], [16]), ([17], [17]), ([18, 17], [17, 18]), ([17], [17]), ([17], [17]), ([21, 17], [17, 21]), ([22, 17], [17, 22]), ([20, 23, 17, 17], [17, 20, 23]), ([17], [17]), ([25, 17], [17, 25]), ([24, 26, 17], [17, 24, 26]), ([19, 27, 17], [17, 19, 27]), ([17, 28], [17, 28])])
def tensilelaw09_PlanBetween.B5 : List Nat := [0, 1, 3, 7, 15, 31, 63, 127, 255, 511, 255, 1279, 255, 4351, 15615, 32767, 65535, 131071, 262143, 524287, 262143, 262143, 2359295, 6553599, 15990783, 262143, 33816575, 133431295, 268435455, 536870911]
theorem tensilelaw09_PlanBetween.tab5 : rtab .any (opsOf Try.f9 5) = tensilelaw09_PlanBetween.T5 := by kernel_rfl
theorem tensilelaw09_PlanBetween.bits5 : waitsOk tensilelaw09_PlanBetween.T5.2 tensilelaw09_PlanBetween.B5 = true := by kernel_rfl
set_option maxHeartbeats 8000000 in
set_option maxRecDepth 100000 in
theorem tensilelaw09_PlanBetween.calls (k : Nat) (a0_0 : Int) (A0_1 : Option Addr) (c0_1 : Nat) (l0_1 : List (S57)) (a1 : Int) (r : Bool) (w : World) (hr0_1 : Kd.C k57 w A0_1 l0_1.length l0_1) (hc0_1 : l0_1.length ≤ c0_1) (h : tensilelaw09_PlanBetween.f k a0_0 l0_1 a1 = some r) :
    Calls Try.prog 9 #[.agg #[.int .i64 a0_0, .slice A0_1 l0_1.length c0_1], .int .u8 a1] w fun e w' => e = .returned (.bool r) ∧ Below w.heap.size w w' := by
  have hu24 := Try.underlying24
  have hu34 := Try.underlying34
  have hu57 := Try.underlying57
  have HR0_1 := Aside0.mk hr0_1
  have HC0_1 := Aside0.mk hc0_1
  clear hr0_1 hc0_1
  have HB := Aside0.mk (Below.refl w.heap.size w)
  have H : ((tensilelaw09_ready.f k a0_0 l0_1).bind fun t443 => (if t443 = true then ((tensilelaw09_Plan.f k a0_0 l0_1).bind fun bt445 => (if (wrap64 (a0_0 + 1)) = 0 then (none) else ((plan_Mean.f bt445.1 bt445.2 (Int.tmod (wrap64 (a1)) (wrap64 (a0_0 + 1)))).bind fun bt449 => (if 0 < (l0_1.length : Int) then (if bt449.2.2 = 0 then (if bt449.2.1 < 1 then (none) else (if bt449.1 < (wrap64 (((rd_T57 l0_1 0).f0) * bt449.2.1)) then (none) else ((tensilelaw09_takes.f k a0_0 l0_1 (l0_1.length : Int)).bind fun t455 => (if bt449.1 > (wrap64 (t455 * bt449.2.1)) then (none) else (if ((rd_T57 l0_1 0).f2) = (wrap64 (((rd_T57 l0_1 0).f1) + 1)) then (if bt449.1 = ((rd_T57 l0_1 0).f0) then (if bt449.2.1 = 1 then ((tensilelaw09_wakes.f).bind fun t456 => (some t456)) else (none)) else (none)) else ((tensilelaw09_wakes.f).bind fun t457 => (some t457))))))) else (none)) else (none))))) else ((tensilelaw09_wakes.f).bind fun t444 => (some t444)))) = some r := h
  clear h
  replace H := Option.bind_eq_some_iff.mp H
  obtain ⟨t443, A30, H⟩ := H
  replace H : (if t443 = true then ((tensilelaw09_Plan.f k a0_0 l0_1).bind fun bt445 => (if (wrap64 (a0_0 + 1)) = 0 then (none) else ((plan_Mean.f bt445.1 bt445.2 (Int.tmod (wrap64 (a1)) (wrap64 (a0_0 + 1)))).bind fun bt449 => (if 0 < (l0_1.length : Int) then (if bt449.2.2 = 0 then (if bt449.2.1 < 1 then (none) else (if bt449.1 < (wrap64 (((rd_T57 l0_1 0).f0) * bt449.2.1)) then (none) else ((tensilelaw09_takes.f k a0_0 l0_1 (l0_1.length : Int)).bind fun t455 => (if bt449.1 > (wrap64 (t455 * bt449.2.1)) then (none) else (if ((rd_T57 l0_1 0).f2) = (wrap64 (((rd_T57 l0_1 0).f1) + 1)) then (if bt449.1 = ((rd_T57 l0_1 0).f0) then (if bt449.2.1 = 1 then ((tensilelaw09_wakes.f).bind fun t456 => (some t456)) else (none)) else (none)) else ((tensilelaw09_wakes.f).bind fun t457 => (some t457))))))) else (none)) else (none))))) else ((tensilelaw09_wakes.f).bind fun t444 => (some t444))) = some r := H
  have A3 := Aside0.mk A30
  clear A30
  by_cases c4 : t443 = true
  · subst c4
    have H1 : ((tensilelaw09_Plan.f k a0_0 l0_1).bind fun bt445 => (if (wrap64 (a0_0 + 1)) = 0 then (none) else ((plan_Mean.f bt445.1 bt445.2 (Int.tmod (wrap64 (a1)) (wrap64 (a0_0 + 1)))).bind fun bt449 => (if 0 < (l0_1.length : Int) then (if bt449.2.2 = 0 then (if bt449.2.1 < 1 then (none) else (if bt449.1 < (wrap64 (((rd_T57 l0_1 0).f0) * bt449.2.1)) then (none) else ((tensilelaw09_takes.f k a0_0 l0_1 (l0_1.length : Int)).bind fun t455 => (if bt449.1 > (wrap64 (t455 * bt449.2.1)) then (none) else (if ((rd_T57 l0_1 0).f2) = (wrap64 (((rd_T57 l0_1 0).f1) + 1)) then (if bt449.1 = ((rd_T57 l0_1 0).f0) then (if bt449.2.1 = 1 then ((tensilelaw09_wakes.f).bind fun t456 => (some t456)) else (none)) else (none)) else ((tensilelaw09_wakes.f).bind fun t457 => (some t457))))))) else (none)) else (none))))) = some r := by rw [if_pos rfl] at H; exact H
    clear H
    have H := H1
    clear H1
    replace H := Option.bind_eq_some_iff.mp H
    obtain ⟨⟨t445, t446⟩, A50, H⟩ := H
    replace H : (if (wrap64 (a0_0 + 1)) = 0 then (none) else ((plan_Mean.f t445 t446 (Int.tmod (wrap64 (a1)) (wrap64 (a0_0 + 1)))).bind fun bt449 => (if 0 < (l0_1.length : Int) then (if bt449.2.2 = 0 then (if bt449.2.1 < 1 then (none) else (if bt449.1 < (wrap64 (((rd_T57 l0_1 0).f0) * bt449.2.1)) then (none) else ((tensilelaw09_takes.f k a0_0 l0_1 (l0_1.length : Int)).bind fun t455 => (if bt449.1 > (wrap64 (t455 * bt449.2.1)) then (none) else (if ((rd_T57 l0_1 0).f2) = (wrap64 (((rd_T57 l0_1 0).f1) + 1)) then (if bt449.1 = ((rd_T57 l0_1 0).f0) then (if bt449.2.1 = 1 then ((tensilelaw09_wakes.f).bind fun t456 => (some t456)) else (none)) else (none)) else ((tensilelaw09_wakes.f).bind fun t457 => (some t457))))))) else (none)) else (none)))) = some r := H
    have A5 := Aside0.mk A50
    clear A50
    by_cases c6 : (wrap64 (a0_0 + 1)) = 0
    · rw [if_pos c6] at H
      exact absurd H (by simp)
    · rw [if_neg c6] at H
      have c6b0 : ((wrap64 (a0_0 + 1)) == 0) = false := beq_eq_false_iff_ne.mpr c6
      have c6b1 : ((wrap64 (a0_0 + 1)) != 0) = true := bne_iff_ne.mpr c6
      replace H := Option.bind_eq_some_iff.mp H
      obtain ⟨⟨t449, t450, t451⟩, A70, H⟩ := H
      replace H : (if 0 < (l0_1.length : Int) then (if t451 = 0 then (if t450 < 1 then (none) else (if t449 < (wrap64 (((rd_T57 l0_1 0).f0) * t450)) then (none) else ((tensilelaw09_takes.f k a0_0 l0_1 (l0_1.length : Int)).bind fun t455 => (if t449 > (wrap64 (t455 * t450)) then (none) else (if ((rd_T57 l0_1 0).f2) = (wrap64 (((rd_T57 l0_1 0).f1) + 1)) then (if t449 = ((rd_T57 l0_1 0).f0) then (if t450 = 1 then ((tensilelaw09_wakes.f).bind fun t456 => (some t456)) else (none)) else (none)) else ((tensilelaw09_wakes.f).bind fun t457 => (some t457))))))) else (none)) else (none)) = some r := H
      have A7 := Aside0.mk A70
      clear A70
      by_cases c8 : 0 < (l0_1.length : Int)
      · rw [if_pos c8] at H
        have c8b0 : decide (0 < (l0_1.length : Int)) = true := decide_eq_true c8
        have c8b1 : decide (0 < l0_1.length) = true := decide_eq_true (by omega)
        clear c8
        by_cases c9 : t451 = 0
        · rw [if_pos c9] at H
          have c9b0 : (t451 == 0) = true := beq_iff_eq.mpr c9
          have c9b1 : (t451 != 0) = false := bne_eq_false_iff_eq.mpr c9
          clear c9
          by_cases c10 : t450 < 1
          · rw [if_pos c10] at H
            have c10b0 : decide (t450 < 1) = true := decide_eq_true c10
            clear c10
            exact absurd H (by simp)
          · rw [if_neg c10] at H
            have c10b0 : decide (t450 < 1) = false := decide_eq_false c10
            clear c10
            by_cases c11 : t449 < (wrap64 (((rd_T57 l0_1 0).f0) * t450))
            · rw [if_pos c11] at H
              have c11b0 : decide (t449 < (wrap64 (((rd_T57 l0_1 0).f0) * t450))) = true := decide_eq_true c11
              clear c11
              exact absurd H (by simp)
            · rw [if_neg c11] at H
              have c11b0 : decide (t449 < (wrap64 (((rd_T57 l0_1 0).f0) * t450))) = false := decide_eq_false c11
              clear c11
              replace H := Option.bind_eq_some_iff.mp H
              obtain ⟨t455, A120, H⟩ := H
              replace H : (if t449 > (wrap64 (t455 * t450)) then (none) else (if ((rd_T57 l0_1 0).f2) = (wrap64 (((rd_T57 l0_1 0).f1) + 1)) then (if t449 = ((rd_T57 l0_1 0).f0) then (if t450 = 1 then ((tensilelaw09_wakes.f).bind fun t456 => (some t456)) else (none)) else (none)) else ((tensilelaw09_wakes.f).bind fun t457 => (some t457)))) = some r := H
              have A12 := Aside0.mk A120
              clear A120
              by_cases c13 : t449 > (wrap64 (t455 * t450))
              · rw [if_pos c13] at H
                exact absurd H (by simp)
              · rw [if_neg c13] at H
                have c13b0 : decide ((wrap64 (t455 * t450)) < t449) = false := decide_eq_false c13
                clear c13
                by_cases c14 : ((rd_T57 l0_1 0).f2) = (wrap64 (((rd_T57 l0_1 0).f1) + 1))
                · rw [if_pos c14] at H
                  have c14b0 : (((rd_T57 l0_1 0).f2) == (wrap64 (((rd_T57 l0_1 0).f1) + 1))) = true := beq_iff_eq.mpr c14
                  have c14b1 : (((rd_T57 l0_1 0).f2) != (wrap64 (((rd_T57 l0_1 0).f1) + 1))) = false := bne_eq_false_iff_eq.mpr c14
                  clear c14
                  by_cases c15 : t449 = ((rd_T57 l0_1 0).f0)
                  · rw [if_pos c15] at H
                    have c15b0 : (t449 == ((rd_T57 l0_1 0).f0)) = true := beq_iff_eq.mpr c15
                    have c15b1 : (t449 != ((rd_T57 l0_1 0).f0)) = false := bne_eq_false_iff_eq.mpr c15
                    clear c15
                    by_cases c16 : t450 = 1
                    · rw [if_pos c16] at H
                      have c16b0 : (t450 == 1) = true := beq_iff_eq.mpr c16
                      have c16b1 : (t450 != 1) = false := bne_eq_false_iff_eq.mpr c16
                      clear c16
                      replace H := Option.bind_eq_some_iff.mp H
                      obtain ⟨t456, A170, H⟩ := H
                      replace H : (some t456) = some r := H
                      have A17 := Aside0.mk A170
                      clear A170
                      obtain rfl := Option.some.inj H
                      go_enter Try.func9, Try.ntmps9
                      try go_wp2_with (first | ((with_reducible refine gate_dst (N := 2) rfl ?_); (try (refine gate_guard (by rfl) ?_; dsimp only)); refine box_event ?hg (N := 2) ?hd (cs := #[.int .i64 a0_0, .slice A0_1 l0_1.length c0_1]) (t := 24) ?hr ?_; (case hd => rfl); (case hg => rfl); (case hr => first | (go_simp; done) | (go_simp; rfl)); intro gb442 hg w18 hbox hb; have n0_ := Aside0.mk (below_step (by repeat (first | (with_reducible first | exact HB.out | apply below_alloc | apply pw_below_drewN | apply below_drew1) | exact HB.out)) hb); have n1_ := Aside0.mk (hbox); have n2_ := Aside0.mk ((by rw [hg]; exact (below_size (by repeat (first | (with_reducible first | exact HB.out | apply below_alloc | apply pw_below_drewN | apply below_drew1) | exact HB.out))) : w.heap.size ≤ gb442)); have n3_ := Aside0.mk ((by rw [hg]; exact (below_size (by repeat (first | (with_reducible first | exact HB.out | apply below_alloc | apply pw_below_drewN | apply below_drew1) | exact HB.out))) : w.heap.size ≤ gb442)); clear HB; have HB := n0_; have BK442 := n1_; have GW442 := n2_; have GE442 := n3_; clear n0_ n1_ n2_ n3_; clear hb hbox hg; have hcz19_0 : w18.cell? ⟨gb442, 0, none⟩ = some (.int .i64 a0_0) := (blk_cell BK442.out 0).trans rfl; have hcz19_1 : w18.cell? ⟨gb442, 1, none⟩ = some (.slice A0_1 l0_1.length c0_1) := (blk_cell BK442.out 1).trans rfl; have hfz19_0 := blk_frozen BK442.out 0; have hfz19_1 := blk_frozen BK442.out 1) | ((with_reducible refine gate_callee (f := 26) rfl ?_); refine goesL_ (some 9) rfl rfl Try.func26 (by kernel_rfl) rfl #[.agg #[.int .i64 a0_0, .slice A0_1 l0_1.length c0_1]] rfl (by (try simp only [List.map_toArray, List.map_cons, List.map_nil]); first | done | rfl | (simp only [List.length_drop, List.length_take]; rfl)) ?_; (with_reducible refine (tensilelaw09_ready.calls k a0_0 _ _ l0_1 true _ ?side1 ?side2 A3.out).mono ?_); (case side1 => repeat (first | exact (Kd.C_below HR0_1.out HB.out) | (with_reducible refine Kd.C_alloc ?_ _) | (with_reducible refine Kd.C_drewN ?_ _) | (with_reducible refine Kd.C_drew ?_))); (case side2 => exact HC0_1.out); rintro e w20 ⟨rfl, hb⟩; refine ⟨_, rfl, ?_⟩; have n0_ := Aside0.mk (blk_below (g := gb442) (o := .cells #[.int .i64 a0_0, .slice A0_1 l0_1.length c0_1] 24 (0, 0)) (by (with_reducible repeat (first | refine blk_drewN ?_ _ | refine blk_drew ?_ | refine blk_alloc ?_ _)); exact BK442.out) hb); have n1_ := Aside0.mk (below_step (by repeat (first | (with_reducible first | exact HB.out | apply below_alloc | apply pw_below_drewN | apply below_drew1 | refine below_set ?_ GE442.out) | exact HB.out)) hb); clear BK442; clear HB; have BK442 := n0_; have HB := n1_; clear n0_ n1_; (try clear hb); (try clear hb2); (try clear hk); (try clear hi)))
                      have n0_ := Aside0.mk (blk_drew BK442.out)
                      have n1_ := Aside0.mk (below_drew1 HB.out)
                      clear BK442
                      clear HB
                      have BK442 := n0_
                      have HB := n1_
                      clear n0_ n1_
                      refine start_ (n := 15) (S := fun w' => w'.cell? ⟨gb442, 0, none⟩ = some (.int .i64 a0_0) ∧ w'.cell? ⟨gb442, 1, none⟩ = some (.slice A0_1 l0_1.length c0_1)) (ds := []) #[false, false, false, false, false, false, false, false, false, false, false, false, false, false, false] (by kernel_rfl) rfl rfl ⟨(blk_cell BK442.out 0).trans rfl, (blk_cell BK442.out 1).trans rfl⟩ (fun hHeld => ?_); refine with_tabW tensilelaw09_PlanBetween.tab3 tensilelaw09_PlanBetween.bits3 (fun HT_ HW_ => ?_)
                      generalize w20.drew = w21 at BK442 HB hHeld ⊢
                      refine pure_ (i := 2) (N := some 15) (v := ?_) (a' := ?_) #[false, false, true, false, false, false, false, false, false, false, false, false, false, false, false] rfl rfl (any_of HT_.out (by kernel_rfl)) (fun _ _ _ h => h) (Or.inl ⟨by rfl, ?_⟩) ?_ ?_
                      rotate_left
                      · intro w'
                        go_simp
                        with_reducible rfl
                      rotate_left
                      · simp only [Act.put, List.setIfInBounds_toArray, List.set_cons_zero, List.set_cons_succ, i64_w, i32_w]
                        rfl
                      refine pure_ (i := 3) (N := some 16) (v := ?_) (a' := ?_) #[false, false, true, true, false, false, false, false, false, false, false, false, false, false, false] rfl rfl (any_of HT_.out (by kernel_rfl)) (fun _ _ _ h => h) (Or.inl ⟨by rfl, ?_⟩) ?_ ?_
                      rotate_left
                      · intro w'
                        go_simp
                        with_reducible rfl
                      rotate_left
                      · simp only [Act.put, List.setIfInBounds_toArray, List.set_cons_zero, List.set_cons_succ, i64_w, i32_w]
                        rfl
                      refine pure_ (i := 4) (N := some 17) (v := ?_) (a' := ?_) #[false, false, true, true, true, false, false, false, false, false, false, false, false, false, false] rfl rfl (any_of HT_.out (by kernel_rfl)) (fun _ _ _ h => h) (Or.inl ⟨by rfl, ?_⟩) ?_ ?_
                      rotate_left
                      · intro w'
                        go_simp
                        with_reducible rfl
                      rotate_left
                      · simp only [Act.put, List.setIfInBounds_toArray, List.set_cons_zero, List.set_cons_succ, i64_w, i32_w]
                        rfl
                      refine take_ (i := 0) (N := some 13) (v := ?_) (a' := ?_) #[true, false, true, true, true, false, false, false, false, false, false, false, false, false, false] rfl rfl (take_ofW HT_.out HW_.out (by kernel_rfl)) (fun _ _ _ h => h) (Or.inl ⟨by rfl, ?_⟩) hHeld ?_ ?_
                      rotate_left
                      · rintro w' ⟨s0, s1⟩
                        go_simp
                        with_reducible rfl
                      rotate_left
                      · simp only [Act.put, List.setIfInBounds_toArray, List.set_cons_zero, List.set_cons_succ, i64_w, i32_w]
                        rfl
                      refine take_ (i := 5) (N := some 18) (v := ?_) (a' := ?_) #[true, false, true, true, true, true, false, false, false, false, false, false, false, false, false] rfl rfl (take_ofW HT_.out HW_.out (by kernel_rfl)) (fun _ _ _ h => h) (Or.inl ⟨by rfl, ?_⟩) hHeld ?_ ?_
                      rotate_left
                      · rintro w' ⟨s0, s1⟩
                        go_simp
                        with_reducible rfl
                      rotate_left
                      · simp only [Act.put, List.setIfInBounds_toArray, List.set_cons_zero, List.set_cons_succ, i64_w, i32_w]
                        rfl
                      refine pure_ (i := 6) (N := some 19) (v := ?_) (a' := ?_) #[true, false, true, true, true, true, true, false, false, false, false, false, false, false, false] rfl rfl (any_of HT_.out (by kernel_rfl)) (fun _ _ _ h => h) (Or.inl ⟨by rfl, ?_⟩) ?_ ?_
                      rotate_left
                      · intro w'
                        go_simp
                        with_reducible rfl
                      rotate_left
                      · simp only [Act.put, List.setIfInBounds_toArray, List.set_cons_zero, List.set_cons_succ, i64_w, i32_w]
                        rfl
                      refine pure_ (i := 7) (N := some 20) (v := ?_) (a' := ?_) #[true, false, true, true, true, true, true, true, false, false, false, false, false, false, false] rfl rfl (any_of HT_.out (by kernel_rfl)) (fun _ _ _ h => h) (Or.inl ⟨by rfl, ?_⟩) ?_ ?_
                      rotate_left
                      · intro w'
                        go_simp
                        with_reducible rfl
                      rotate_left
                      · simp only [Act.put, List.setIfInBounds_toArray, List.set_cons_zero, List.set_cons_succ, i64_w, i32_w]
                        rfl
                      refine join_ (σ := Value × Nat) 2 #[true, true, true, true, true, true, true, true, true, true, true, true, true, false, false] (fun s_ => [(14, .agg #[.int .i64 t445, s_.1]), (21, .tuple #[.agg #[.int .i64 t449, .int .i64 t450], .int .i64 t451]), (5, .pointer (some ⟨s_.2, 0, none⟩)), (12, .tuple #[.agg #[.int .i64 t449, .int .i64 t450], .int .i64 t451]), (22, .agg #[.int .i64 t449, .int .i64 t450]), (23, .int .i64 t451)]) (fun s_ w' => (w'.cell? ⟨gb442, 0, none⟩ = some (.int .i64 a0_0) ∧ w'.cell? ⟨gb442, 1, none⟩ = some (.slice A0_1 l0_1.length c0_1)) ∧ (Kd.R k61 61 w' w.heap.size (fun _ => True) s_.1 t446) ∧ (w'.heap[gb442]? = some (.cells #[.int .i64 a0_0, .slice A0_1 l0_1.length c0_1] 24 (0, 0))) ∧ (w'.heap[s_.2]? = some (.cells #[.int .i64 0, .int .i64 0] 34 (0, 0))) ∧ (w.heap.size ≤ s_.2) ∧ (w.heap.size ≤ s_.2) ∧ (gb442 ≠ s_.2) ∧ (s_.2 ≠ gb442) ∧ (Below w.heap.size w w')) ?_ ?_
                      rotate_left
                      · intro hCont
                        refine two_ (i := 1) (j := 12) (Ni := some 14) (Nj := some 5) #[true, true, true, true, true, true, true, true, false, false, false, false, false, false, false] #[true, false, true, true, true, true, true, true, false, false, false, false, true, false, false] rfl rfl rfl rfl (two_of HT_.out (by kernel_rfl)) (by decide) (by decide) (fun K hK => ?_) (fun K hK => ?_)
                        · skip
                          refine goes_ Try.func17 (by kernel_rfl) rfl #[.agg #[.int .i64 a0_0, .slice A0_1 l0_1.length c0_1]] (by rfl) rfl rfl (by (try simp only [List.map_toArray, List.map_cons, List.map_nil]); first | done | rfl | (simp only [List.length_drop, List.length_take]; rfl)) ?_
                          with_reducible refine (tensilelaw09_Plan.calls k a0_0 _ _ l0_1 t445 t446 _ ?side1 ?side2 A5.out).mono ?_
                          (case side1 => repeat (first | exact (Kd.C_below HR0_1.out HB.out) | (with_reducible refine Kd.C_alloc ?_ _) | (with_reducible refine Kd.C_drewN ?_ _) | (with_reducible refine Kd.C_drew ?_)))
                          (case side2 => exact HC0_1.out)
                          rintro e w22 ⟨v447, rfl, ho0, hb⟩
                          refine ⟨_, rfl, ?_⟩
                          have n0_ := Aside0.mk (Kd.R_lower ho0 (below_size (by repeat (first | (with_reducible first | exact HB.out | apply below_alloc | apply pw_below_drewN | apply below_drew1 | refine below_set ?_ GE442.out) | exact HB.out))))
                          have n1_ := Aside0.mk (blk_below (g := gb442) (o := .cells #[.int .i64 a0_0, .slice A0_1 l0_1.length c0_1] 24 (0, 0)) (by (with_reducible repeat (first | refine blk_drewN ?_ _ | refine blk_drew ?_ | refine blk_alloc ?_ _)); exact BK442.out) hb)
                          have n2_ := Aside0.mk (below_step (by repeat (first | (with_reducible first | exact HB.out | apply below_alloc | apply pw_below_drewN | apply below_drew1 | refine below_set ?_ GE442.out) | exact HB.out)) hb)
                          clear BK442
                          clear HB
                          have HO448 := n0_
                          have BK442 := n1_
                          have HB := n2_
                          clear n0_ n1_ n2_
                          (try clear hb)
                          (try clear hb2)
                          (try clear hk)
                          (try clear hi)
                          (try clear ho0)
                          obtain ⟨Ao23, co23, eo23⟩ := Kd.R_slice HO448.out
                          (first | subst eo23 | (injection eo23 with f1_ f2_ f3_; have f4_ := f1_.symm; have f5_ := f3_.symm; clear f1_ f2_ f3_; subst f4_; subst f5_))
                          refine hK.out _ _ ⟨(blk_cell BK442.out 0).trans rfl, (blk_cell BK442.out 1).trans rfl⟩ (fun hHeld => ?_)
                          clear hK K
                          refine norm_ (a' := ?_) ?_ ?_
                          rotate_left
                          · show Act.put _ (some 14) _ = _
                            simp only [Act.put, List.setIfInBounds_toArray, List.set_cons_zero, List.set_cons_succ, i64_w, i32_w]
                            rfl
                          refine two_ (i := 8) (j := 12) (Ni := some 21) (Nj := some 5) #[true, true, true, true, true, true, true, true, true, false, false, false, false, false, false] #[true, true, true, true, true, true, true, true, false, false, false, false, true, false, false] rfl rfl rfl rfl (two_of HT_.out (by kernel_rfl)) (by decide) (by decide) (fun K hK => ?_) (fun K hK => ?_)
                          · skip
                            refine goes_ Try.func23 (by kernel_rfl) rfl #[.agg #[.int .i64 t445, .slice Ao23 t446.length co23], .int .i64 (Int.tmod (wrap64 (a1)) (wrap64 (a0_0 + 1)))] (by rfl) rfl rfl (by (try simp only [List.map_toArray, List.map_cons, List.map_nil]); first | done | rfl | (simp only [List.length_drop, List.length_take]; rfl)) ?_
                            with_reducible refine (plan_Mean.calls t445 _ _ t446 (Int.tmod (wrap64 (a1)) (wrap64 (a0_0 + 1))) t449 t450 t451 _ ?side1 ?side2 A7.out).mono ?_
                            (case side1 => repeat (first | exact (Kd.R_reads' HO448.out).2.2 | (with_reducible refine Kd.C_alloc ?_ _) | (with_reducible refine Kd.C_drewN ?_ _) | (with_reducible refine Kd.C_drew ?_)))
                            (case side2 => exact (Kd.R_reads' HO448.out).2.1)
                            rintro e w24 ⟨rfl, hb⟩
                            refine ⟨_, rfl, ?_⟩
                            have n0_ := Aside0.mk (Kd.R_below (by (with_reducible repeat (first | apply Kd.R_alloc | apply Kd.R_drewN | apply Kd.R_drew)); exact HO448.out) hb)
                            have n1_ := Aside0.mk (blk_below (g := gb442) (o := .cells #[.int .i64 a0_0, .slice A0_1 l0_1.length c0_1] 24 (0, 0)) (by (with_reducible repeat (first | refine blk_drewN ?_ _ | refine blk_drew ?_ | refine blk_alloc ?_ _)); exact BK442.out) hb)
                            have n2_ := Aside0.mk (below_step (by repeat (first | (with_reducible first | exact HB.out | apply below_alloc | apply pw_below_drewN | apply below_drew1 | refine below_set ?_ GE442.out) | exact HB.out)) hb)
                            clear HO448
                            clear BK442
                            clear HB
                            have HO448 := n0_
                            have BK442 := n1_
                            have HB := n2_
                            clear n0_ n1_ n2_
                            (try clear hb)
                            (try clear hb2)
                            (try clear hk)
                            (try clear hi)
                            refine hK.out _ _ ⟨(blk_cell BK442.out 0).trans rfl, (blk_cell BK442.out 1).trans rfl⟩ (fun hHeld => ?_)
                            clear hK K
                            refine norm_ (a' := ?_) ?_ ?_
                            rotate_left
                            · show Act.put _ (some 21) _ = _
                              simp only [Act.put, List.setIfInBounds_toArray, List.set_cons_zero, List.set_cons_succ, i64_w, i32_w]
                              rfl
                            refine pure_ (i := 9) (N := some 12) (v := ?_) (a' := ?_) #[true, true, true, true, true, true, true, true, true, true, false, false, false, false, false] rfl rfl (any_of HT_.out (by kernel_rfl)) (fun _ _ _ h => h) (Or.inl ⟨by rfl, ?_⟩) ?_ ?_
                            rotate_left
                            · intro w'
                              go_simp
                              with_reducible rfl
                            rotate_left
                            · simp only [Act.put, List.setIfInBounds_toArray, List.set_cons_zero, List.set_cons_succ, i64_w, i32_w]
                              rfl
                            refine pure_ (i := 10) (N := some 22) (v := ?_) (a' := ?_) #[true, true, true, true, true, true, true, true, true, true, true, false, false, false, false] rfl rfl (any_of HT_.out (by kernel_rfl)) (fun _ _ _ h => h) (Or.inl ⟨by rfl, ?_⟩) ?_ ?_
                            rotate_left
                            · intro w'
                              go_simp
                              with_reducible rfl
                            rotate_left
                            · simp only [Act.put, List.setIfInBounds_toArray, List.set_cons_zero, List.set_cons_succ, i64_w, i32_w]
                              rfl
                            refine pure_ (i := 11) (N := some 23) (v := ?_) (a' := ?_) #[true, true, true, true, true, true, true, true, true, true, true, true, false, false, false] rfl rfl (any_of HT_.out (by kernel_rfl)) (fun _ _ _ h => h) (Or.inl ⟨by rfl, ?_⟩) ?_ ?_
                            rotate_left
                            · intro w'
                              go_simp
                              with_reducible rfl
                            rotate_left
                            · simp only [Act.put, List.setIfInBounds_toArray, List.set_cons_zero, List.set_cons_succ, i64_w, i32_w]
                              rfl
                            refine one_ (i := 12) (N := some 5) #[true, true, true, true, true, true, true, true, true, true, true, true, true, false, false] rfl rfl (one_of HT_.out (by kernel_rfl)) (by decide) (fun K hK => ?_)
                            refine box_step ?hg (N := 5) ?hd (cs := #[.int .i64 0, .int .i64 0]) (t := 34) ?hr ?_; (case hd => rfl); (case hg => rfl); (case hr => first | (go_simp; done) | (go_simp; rfl))
                            intro gb452 hg w25 hbox hb
                            have n0_ := Aside0.mk (Kd.R_below (by (with_reducible repeat (first | apply Kd.R_alloc | apply Kd.R_drewN | apply Kd.R_drew)); exact HO448.out) hb)
                            have n1_ := Aside0.mk (blk_below (g := gb442) (o := .cells #[.int .i64 a0_0, .slice A0_1 l0_1.length c0_1] 24 (0, 0)) (by (with_reducible repeat (first | refine blk_drewN ?_ _ | refine blk_drew ?_ | refine blk_alloc ?_ _)); exact BK442.out) hb)
                            have n2_ := Aside0.mk (below_step (by repeat (first | (with_reducible first | exact HB.out | apply below_alloc | apply pw_below_drewN | apply below_drew1 | refine below_set ?_ GE442.out) | exact HB.out)) hb)
                            have n3_ := Aside0.mk (hbox)
                            have n4_ := Aside0.mk ((by rw [hg]; exact (below_size (by repeat (first | (with_reducible first | exact HB.out | apply below_alloc | apply pw_below_drewN | apply below_drew1 | refine below_set ?_ GE442.out) | exact HB.out))) : w.heap.size ≤ gb452))
                            have n5_ := Aside0.mk ((by rw [hg]; exact (below_size (by repeat (first | (with_reducible first | exact HB.out | apply below_alloc | apply pw_below_drewN | apply below_drew1 | refine below_set ?_ GE442.out) | exact HB.out))) : w.heap.size ≤ gb452))
                            have n6_ := Aside0.mk ((by rw [hg]; exact Nat.ne_of_lt (blk_lt (g := gb442) (o := .cells #[.int .i64 a0_0, .slice A0_1 l0_1.length c0_1] 24 (0, 0)) (by (with_reducible repeat (first | refine blk_drewN ?_ _ | refine blk_drew ?_ | refine blk_alloc ?_ _)); exact BK442.out)) : gb442 ≠ gb452))
                            have n7_ := Aside0.mk ((by rw [hg]; exact Nat.ne_of_gt (blk_lt (g := gb442) (o := .cells #[.int .i64 a0_0, .slice A0_1 l0_1.length c0_1] 24 (0, 0)) (by (with_reducible repeat (first | refine blk_drewN ?_ _ | refine blk_drew ?_ | refine blk_alloc ?_ _)); exact BK442.out)) : gb452 ≠ gb442))
                            clear HO448
                            clear BK442
                            clear HB
                            have HO448 := n0_
                            have BK442 := n1_
                            have HB := n2_
                            have BK452 := n3_
                            have GW452 := n4_
                            have GE452 := n5_
                            have NB442_452 := n6_
                            have NB452_442 := n7_
                            clear n0_ n1_ n2_ n3_ n4_ n5_ n6_ n7_
                            clear hb hbox hg
                            refine hK.out _ _ ⟨(blk_cell BK442.out 0).trans rfl, (blk_cell BK442.out 1).trans rfl⟩ (fun hHeld => ?_)
                            clear hK K
                            refine norm_ (a' := ?_) ?_ ?_
                            rotate_left
                            · show Act.put _ (some 5) _ = _
                              simp only [Act.put, List.setIfInBounds_toArray, List.set_cons_zero, List.set_cons_succ, i64_w, i32_w]
                              rfl
                            exact norm_ (by simp only [putAll, Act.put, List.setIfInBounds_toArray, List.set_cons_zero, List.set_cons_succ]) (hCont (.slice Ao23 t446.length co23, gb452) _ ⟨hHeld, (by (with_reducible repeat (first | apply Kd.R_alloc | apply Kd.R_drewN | apply Kd.R_drew)); exact HO448.out), (by (with_reducible repeat (first | refine blk_drewN ?_ _ | refine blk_drew ?_ | refine blk_alloc ?_ _)); exact BK442.out), (by (with_reducible repeat (first | refine blk_drewN ?_ _ | refine blk_drew ?_ | refine blk_alloc ?_ _)); exact BK452.out), GW452.out, GE452.out, NB442_452.out, NB452_442.out, (by repeat (first | (with_reducible first | exact HB.out | apply below_alloc | apply pw_below_drewN | apply below_drew1 | refine below_set ?_ GE442.out | refine below_set ?_ GE452.out) | exact HB.out))⟩)
                          · skip
                            refine box_step ?hg (N := 5) ?hd (cs := #[.int .i64 0, .int .i64 0]) (t := 34) ?hr ?_; (case hd => rfl); (case hg => rfl); (case hr => first | (go_simp; done) | (go_simp; rfl))
                            intro gb452 hg w23 hbox hb
                            have n0_ := Aside0.mk (Kd.R_below (by (with_reducible repeat (first | apply Kd.R_alloc | apply Kd.R_drewN | apply Kd.R_drew)); exact HO448.out) hb)
                            have n1_ := Aside0.mk (blk_below (g := gb442) (o := .cells #[.int .i64 a0_0, .slice A0_1 l0_1.length c0_1] 24 (0, 0)) (by (with_reducible repeat (first | refine blk_drewN ?_ _ | refine blk_drew ?_ | refine blk_alloc ?_ _)); exact BK442.out) hb)
                            have n2_ := Aside0.mk (below_step (by repeat (first | (with_reducible first | exact HB.out | apply below_alloc | apply pw_below_drewN | apply below_drew1 | refine below_set ?_ GE442.out) | exact HB.out)) hb)
                            have n3_ := Aside0.mk (hbox)
                            have n4_ := Aside0.mk ((by rw [hg]; exact (below_size (by repeat (first | (with_reducible first | exact HB.out | apply below_alloc | apply pw_below_drewN | apply below_drew1 | refine below_set ?_ GE442.out) | exact HB.out))) : w.heap.size ≤ gb452))
                            have n5_ := Aside0.mk ((by rw [hg]; exact (below_size (by repeat (first | (with_reducible first | exact HB.out | apply below_alloc | apply pw_below_drewN | apply below_drew1 | refine below_set ?_ GE442.out) | exact HB.out))) : w.heap.size ≤ gb452))
                            have n6_ := Aside0.mk ((by rw [hg]; exact Nat.ne_of_lt (blk_lt (g := gb442) (o := .cells #[.int .i64 a0_0, .slice A0_1 l0_1.length c0_1] 24 (0, 0)) (by (with_reducible repeat (first | refine blk_drewN ?_ _ | refine blk_drew ?_ | refine blk_alloc ?_ _)); exact BK442.out)) : gb442 ≠ gb452))
                            have n7_ := Aside0.mk ((by rw [hg]; exact Nat.ne_of_gt (blk_lt (g := gb442) (o := .cells #[.int .i64 a0_0, .slice A0_1 l0_1.length c0_1] 24 (0, 0)) (by (with_reducible repeat (first | refine blk_drewN ?_ _ | refine blk_drew ?_ | refine blk_alloc ?_ _)); exact BK442.out)) : gb452 ≠ gb442))
                            clear HO448
                            clear BK442
                            clear HB
                            have HO448 := n0_
                            have BK442 := n1_
                            have HB := n2_
                            have BK452 := n3_
                            have GW452 := n4_
                            have GE452 := n5_
                            have NB442_452 := n6_
                            have NB452_442 := n7_
                            clear n0_ n1_ n2_ n3_ n4_ n5_ n6_ n7_
                            clear hb hbox hg
                            obtain ⟨Ao24, co24, eo24⟩ := Kd.R_slice HO448.out
                            (first | subst eo24 | (injection eo24 with f1_ f2_ f3_; have f4_ := f1_.symm; have f5_ := f3_.symm; clear f1_ f2_ f3_; subst f4_; subst f5_))
                            refine hK.out _ _ ⟨(blk_cell BK442.out 0).trans rfl, (blk_cell BK442.out 1).trans rfl⟩ (fun hHeld => ?_)
                            clear hK K
                            refine norm_ (a' := ?_) ?_ ?_
                            rotate_left
                            · show Act.put _ (some 5) _ = _
                              simp only [Act.put, List.setIfInBounds_toArray, List.set_cons_zero, List.set_cons_succ, i64_w, i32_w]
                              rfl
                            refine one_ (i := 8) (N := some 21) #[true, true, true, true, true, true, true, true, true, false, false, false, true, false, false] rfl rfl (one_of HT_.out (by kernel_rfl)) (by decide) (fun K hK => ?_)
                            refine goes_ Try.func23 (by kernel_rfl) rfl #[.agg #[.int .i64 t445, .slice Ao24 t446.length co24], .int .i64 (Int.tmod (wrap64 (a1)) (wrap64 (a0_0 + 1)))] (by rfl) rfl rfl (by (try simp only [List.map_toArray, List.map_cons, List.map_nil]); first | done | rfl | (simp only [List.length_drop, List.length_take]; rfl)) ?_
                            with_reducible refine (plan_Mean.calls t445 _ _ t446 (Int.tmod (wrap64 (a1)) (wrap64 (a0_0 + 1))) t449 t450 t451 _ ?side1 ?side2 A7.out).mono ?_
                            (case side1 => repeat (first | exact (Kd.R_reads' HO448.out).2.2 | (with_reducible refine Kd.C_alloc ?_ _) | (with_reducible refine Kd.C_drewN ?_ _) | (with_reducible refine Kd.C_drew ?_)))
                            (case side2 => exact (Kd.R_reads' HO448.out).2.1)
                            rintro e w25 ⟨rfl, hb⟩
                            refine ⟨_, rfl, ?_⟩
                            have n0_ := Aside0.mk (Kd.R_below (by (with_reducible repeat (first | apply Kd.R_alloc | apply Kd.R_drewN | apply Kd.R_drew)); exact HO448.out) hb)
                            have n1_ := Aside0.mk (blk_below (g := gb442) (o := .cells #[.int .i64 a0_0, .slice A0_1 l0_1.length c0_1] 24 (0, 0)) (by (with_reducible repeat (first | refine blk_drewN ?_ _ | refine blk_drew ?_ | refine blk_alloc ?_ _)); exact BK442.out) hb)
                            have n2_ := Aside0.mk (blk_below (g := gb452) (o := .cells #[.int .i64 0, .int .i64 0] 34 (0, 0)) (by (with_reducible repeat (first | refine blk_drewN ?_ _ | refine blk_drew ?_ | refine blk_alloc ?_ _)); exact BK452.out) hb)
                            have n3_ := Aside0.mk (below_step (by repeat (first | (with_reducible first | exact HB.out | apply below_alloc | apply pw_below_drewN | apply below_drew1 | refine below_set ?_ GE442.out | refine below_set ?_ GE452.out) | exact HB.out)) hb)
                            clear HO448
                            clear BK442
                            clear BK452
                            clear HB
                            have HO448 := n0_
                            have BK442 := n1_
                            have BK452 := n2_
                            have HB := n3_
                            clear n0_ n1_ n2_ n3_
                            (try clear hb)
                            (try clear hb2)
                            (try clear hk)
                            (try clear hi)
                            refine hK.out _ _ ⟨(blk_cell BK442.out 0).trans rfl, (blk_cell BK442.out 1).trans rfl⟩ (fun hHeld => ?_)
                            clear hK K
                            refine norm_ (a' := ?_) ?_ ?_
                            rotate_left
                            · show Act.put _ (some 21) _ = _
                              simp only [Act.put, List.setIfInBounds_toArray, List.set_cons_zero, List.set_cons_succ, i64_w, i32_w]
                              rfl
                            refine pure_ (i := 9) (N := some 12) (v := ?_) (a' := ?_) #[true, true, true, true, true, true, true, true, true, true, false, false, true, false, false] rfl rfl (any_of HT_.out (by kernel_rfl)) (fun _ _ _ h => h) (Or.inl ⟨by rfl, ?_⟩) ?_ ?_
                            rotate_left
                            · intro w'
                              go_simp
                              with_reducible rfl
                            rotate_left
                            · simp only [Act.put, List.setIfInBounds_toArray, List.set_cons_zero, List.set_cons_succ, i64_w, i32_w]
                              rfl
                            refine pure_ (i := 10) (N := some 22) (v := ?_) (a' := ?_) #[true, true, true, true, true, true, true, true, true, true, true, false, true, false, false] rfl rfl (any_of HT_.out (by kernel_rfl)) (fun _ _ _ h => h) (Or.inl ⟨by rfl, ?_⟩) ?_ ?_
                            rotate_left
                            · intro w'
                              go_simp
                              with_reducible rfl
                            rotate_left
                            · simp only [Act.put, List.setIfInBounds_toArray, List.set_cons_zero, List.set_cons_succ, i64_w, i32_w]
                              rfl
                            refine pure_ (i := 11) (N := some 23) (v := ?_) (a' := ?_) #[true, true, true, true, true, true, true, true, true, true, true, true, true, false, false] rfl rfl (any_of HT_.out (by kernel_rfl)) (fun _ _ _ h => h) (Or.inl ⟨by rfl, ?_⟩) ?_ ?_
                            rotate_left
                            · intro w'
                              go_simp
                              with_reducible rfl
                            rotate_left
                            · simp only [Act.put, List.setIfInBounds_toArray, List.set_cons_zero, List.set_cons_succ, i64_w, i32_w]
                              rfl
                            exact norm_ (by simp only [putAll, Act.put, List.setIfInBounds_toArray, List.set_cons_zero, List.set_cons_succ]) (hCont (.slice Ao24 t446.length co24, gb452) _ ⟨hHeld, (by (with_reducible repeat (first | apply Kd.R_alloc | apply Kd.R_drewN | apply Kd.R_drew)); exact HO448.out), (by (with_reducible repeat (first | refine blk_drewN ?_ _ | refine blk_drew ?_ | refine blk_alloc ?_ _)); exact BK442.out), (by (with_reducible repeat (first | refine blk_drewN ?_ _ | refine blk_drew ?_ | refine blk_alloc ?_ _)); exact BK452.out), GW452.out, GE452.out, NB442_452.out, NB452_442.out, (by repeat (first | (with_reducible first | exact HB.out | apply below_alloc | apply pw_below_drewN | apply below_drew1 | refine below_set ?_ GE442.out | refine below_set ?_ GE452.out) | exact HB.out))⟩)
                        · skip
                          refine box_step ?hg (N := 5) ?hd (cs := #[.int .i64 0, .int .i64 0]) (t := 34) ?hr ?_; (case hd => rfl); (case hg => rfl); (case hr => first | (go_simp; done) | (go_simp; rfl))
                          intro gb452 hg w22 hbox hb
                          have n0_ := Aside0.mk (blk_below (g := gb442) (o := .cells #[.int .i64 a0_0, .slice A0_1 l0_1.length c0_1] 24 (0, 0)) (by (with_reducible repeat (first | refine blk_drewN ?_ _ | refine blk_drew ?_ | refine blk_alloc ?_ _)); exact BK442.out) hb)
                          have n1_ := Aside0.mk (below_step (by repeat (first | (with_reducible first | exact HB.out | apply below_alloc | apply pw_below_drewN | apply below_drew1 | refine below_set ?_ GE442.out) | exact HB.out)) hb)
                          have n2_ := Aside0.mk (hbox)
                          have n3_ := Aside0.mk ((by rw [hg]; exact (below_size (by repeat (first | (with_reducible first | exact HB.out | apply below_alloc | apply pw_below_drewN | apply below_drew1 | refine below_set ?_ GE442.out) | exact HB.out))) : w.heap.size ≤ gb452))
                          have n4_ := Aside0.mk ((by rw [hg]; exact (below_size (by repeat (first | (with_reducible first | exact HB.out | apply below_alloc | apply pw_below_drewN | apply below_drew1 | refine below_set ?_ GE442.out) | exact HB.out))) : w.heap.size ≤ gb452))
                          have n5_ := Aside0.mk ((by rw [hg]; exact Nat.ne_of_lt (blk_lt (g := gb442) (o := .cells #[.int .i64 a0_0, .slice A0_1 l0_1.length c0_1] 24 (0, 0)) (by (with_reducible repeat (first | refine blk_drewN ?_ _ | refine blk_drew ?_ | refine blk_alloc ?_ _)); exact BK442.out)) : gb442 ≠ gb452))
                          have n6_ := Aside0.mk ((by rw [hg]; exact Nat.ne_of_gt (blk_lt (g := gb442) (o := .cells #[.int .i64 a0_0, .slice A0_1 l0_1.length c0_1] 24 (0, 0)) (by (with_reducible repeat (first | refine blk_drewN ?_ _ | refine blk_drew ?_ | refine blk_alloc ?_ _)); exact BK442.out)) : gb452 ≠ gb442))
                          clear BK442
                          clear HB
                          have BK442 := n0_
                          have HB := n1_
                          have BK452 := n2_
                          have GW452 := n3_
                          have GE452 := n4_
                          have NB442_452 := n5_
                          have NB452_442 := n6_
                          clear n0_ n1_ n2_ n3_ n4_ n5_ n6_
                          clear hb hbox hg
                          refine hK.out _ _ ⟨(blk_cell BK442.out 0).trans rfl, (blk_cell BK442.out 1).trans rfl⟩ (fun hHeld => ?_)
                          clear hK K
                          refine norm_ (a' := ?_) ?_ ?_
                          rotate_left
                          · show Act.put _ (some 5) _ = _
                            simp only [Act.put, List.setIfInBounds_toArray, List.set_cons_zero, List.set_cons_succ, i64_w, i32_w]
                            rfl
                          refine one_ (i := 1) (N := some 14) #[true, true, true, true, true, true, true, true, false, false, false, false, true, false, false] rfl rfl (one_of HT_.out (by kernel_rfl)) (by decide) (fun K hK => ?_)
                          refine goes_ Try.func17 (by kernel_rfl) rfl #[.agg #[.int .i64 a0_0, .slice A0_1 l0_1.length c0_1]] (by rfl) rfl rfl (by (try simp only [List.map_toArray, List.map_cons, List.map_nil]); first | done | rfl | (simp only [List.length_drop, List.length_take]; rfl)) ?_
                          with_reducible refine (tensilelaw09_Plan.calls k a0_0 _ _ l0_1 t445 t446 _ ?side1 ?side2 A5.out).mono ?_
                          (case side1 => repeat (first | exact (Kd.C_below HR0_1.out HB.out) | (with_reducible refine Kd.C_alloc ?_ _) | (with_reducible refine Kd.C_drewN ?_ _) | (with_reducible refine Kd.C_drew ?_)))
                          (case side2 => exact HC0_1.out)
                          rintro e w23 ⟨v447, rfl, ho0, hb⟩
                          refine ⟨_, rfl, ?_⟩
                          have n0_ := Aside0.mk (Kd.R_lower ho0 (below_size (by repeat (first | (with_reducible first | exact HB.out | apply below_alloc | apply pw_below_drewN | apply below_drew1 | refine below_set ?_ GE442.out | refine below_set ?_ GE452.out) | exact HB.out))))
                          have n1_ := Aside0.mk (blk_below (g := gb442) (o := .cells #[.int .i64 a0_0, .slice A0_1 l0_1.length c0_1] 24 (0, 0)) (by (with_reducible repeat (first | refine blk_drewN ?_ _ | refine blk_drew ?_ | refine blk_alloc ?_ _)); exact BK442.out) hb)
                          have n2_ := Aside0.mk (blk_below (g := gb452) (o := .cells #[.int .i64 0, .int .i64 0] 34 (0, 0)) (by (with_reducible repeat (first | refine blk_drewN ?_ _ | refine blk_drew ?_ | refine blk_alloc ?_ _)); exact BK452.out) hb)
                          have n3_ := Aside0.mk (below_step (by repeat (first | (with_reducible first | exact HB.out | apply below_alloc | apply pw_below_drewN | apply below_drew1 | refine below_set ?_ GE442.out | refine below_set ?_ GE452.out) | exact HB.out)) hb)
                          clear BK442
                          clear BK452
                          clear HB
                          have HO448 := n0_
                          have BK442 := n1_
                          have BK452 := n2_
                          have HB := n3_
                          clear n0_ n1_ n2_ n3_
                          (try clear hb)
                          (try clear hb2)
                          (try clear hk)
                          (try clear hi)
                          (try clear ho0)
                          obtain ⟨Ao24, co24, eo24⟩ := Kd.R_slice HO448.out
                          (first | subst eo24 | (injection eo24 with f1_ f2_ f3_; have f4_ := f1_.symm; have f5_ := f3_.symm; clear f1_ f2_ f3_; subst f4_; subst f5_))
                          refine hK.out _ _ ⟨(blk_cell BK442.out 0).trans rfl, (blk_cell BK442.out 1).trans rfl⟩ (fun hHeld => ?_)
                          clear hK K
                          refine norm_ (a' := ?_) ?_ ?_
                          rotate_left
                          · show Act.put _ (some 14) _ = _
                            simp only [Act.put, List.setIfInBounds_toArray, List.set_cons_zero, List.set_cons_succ, i64_w, i32_w]
                            rfl
                          refine one_ (i := 8) (N := some 21) #[true, true, true, true, true, true, true, true, true, false, false, false, true, false, false] rfl rfl (one_of HT_.out (by kernel_rfl)) (by decide) (fun K hK => ?_)
                          refine goes_ Try.func23 (by kernel_rfl) rfl #[.agg #[.int .i64 t445, .slice Ao24 t446.length co24], .int .i64 (Int.tmod (wrap64 (a1)) (wrap64 (a0_0 + 1)))] (by rfl) rfl rfl (by (try simp only [List.map_toArray, List.map_cons, List.map_nil]); first | done | rfl | (simp only [List.length_drop, List.length_take]; rfl)) ?_
                          with_reducible refine (plan_Mean.calls t445 _ _ t446 (Int.tmod (wrap64 (a1)) (wrap64 (a0_0 + 1))) t449 t450 t451 _ ?side1 ?side2 A7.out).mono ?_
                          (case side1 => repeat (first | exact (Kd.R_reads' HO448.out).2.2 | (with_reducible refine Kd.C_alloc ?_ _) | (with_reducible refine Kd.C_drewN ?_ _) | (with_reducible refine Kd.C_drew ?_)))
                          (case side2 => exact (Kd.R_reads' HO448.out).2.1)
                          rintro e w25 ⟨rfl, hb⟩
                          refine ⟨_, rfl, ?_⟩
                          have n0_ := Aside0.mk (Kd.R_below (by (with_reducible repeat (first | apply Kd.R_alloc | apply Kd.R_drewN | apply Kd.R_drew)); exact HO448.out) hb)
                          have n1_ := Aside0.mk (blk_below (g := gb442) (o := .cells #[.int .i64 a0_0, .slice A0_1 l0_1.length c0_1] 24 (0, 0)) (by (with_reducible repeat (first | refine blk_drewN ?_ _ | refine blk_drew ?_ | refine blk_alloc ?_ _)); exact BK442.out) hb)
                          have n2_ := Aside0.mk (blk_below (g := gb452) (o := .cells #[.int .i64 0, .int .i64 0] 34 (0, 0)) (by (with_reducible repeat (first | refine blk_drewN ?_ _ | refine blk_drew ?_ | refine blk_alloc ?_ _)); exact BK452.out) hb)
                          have n3_ := Aside0.mk (below_step (by repeat (first | (with_reducible first | exact HB.out | apply below_alloc | apply pw_below_drewN | apply below_drew1 | refine below_set ?_ GE442.out | refine below_set ?_ GE452.out) | exact HB.out)) hb)
                          clear HO448
                          clear BK442
                          clear BK452
                          clear HB
                          have HO448 := n0_
                          have BK442 := n1_
                          have BK452 := n2_
                          have HB := n3_
                          clear n0_ n1_ n2_ n3_
                          (try clear hb)
                          (try clear hb2)
                          (try clear hk)
                          (try clear hi)
                          refine hK.out _ _ ⟨(blk_cell BK442.out 0).trans rfl, (blk_cell BK442.out 1).trans rfl⟩ (fun hHeld => ?_)
                          clear hK K
                          refine norm_ (a' := ?_) ?_ ?_
                          rotate_left
                          · show Act.put _ (some 21) _ = _
                            simp only [Act.put, List.setIfInBounds_toArray, List.set_cons_zero, List.set_cons_succ, i64_w, i32_w]
                            rfl
                          refine pure_ (i := 9) (N := some 12) (v := ?_) (a' := ?_) #[true, true, true, true, true, true, true, true, true, true, false, false, true, false, false] rfl rfl (any_of HT_.out (by kernel_rfl)) (fun _ _ _ h => h) (Or.inl ⟨by rfl, ?_⟩) ?_ ?_
                          rotate_left
                          · intro w'
                            go_simp
                            with_reducible rfl
                          rotate_left
                          · simp only [Act.put, List.setIfInBounds_toArray, List.set_cons_zero, List.set_cons_succ, i64_w, i32_w]
                            rfl
                          refine pure_ (i := 10) (N := some 22) (v := ?_) (a' := ?_) #[true, true, true, true, true, true, true, true, true, true, true, false, true, false, false] rfl rfl (any_of HT_.out (by kernel_rfl)) (fun _ _ _ h => h) (Or.inl ⟨by rfl, ?_⟩) ?_ ?_
                          rotate_left
                          · intro w'
                            go_simp
                            with_reducible rfl
                          rotate_left
                          · simp only [Act.put, List.setIfInBounds_toArray, List.set_cons_zero, List.set_cons_succ, i64_w, i32_w]
                            rfl
                          refine pure_ (i := 11) (N := some 23) (v := ?_) (a' := ?_) #[true, true, true, true, true, true, true, true, true, true, true, true, true, false, false] rfl rfl (any_of HT_.out (by kernel_rfl)) (fun _ _ _ h => h) (Or.inl ⟨by rfl, ?_⟩) ?_ ?_
                          rotate_left
                          · intro w'
                            go_simp
                            with_reducible rfl
                          rotate_left
                          · simp only [Act.put, List.setIfInBounds_toArray, List.set_cons_zero, List.set_cons_succ, i64_w, i32_w]
                            rfl
                          exact norm_ (by simp only [putAll, Act.put, List.setIfInBounds_toArray, List.set_cons_zero, List.set_cons_succ]) (hCont (.slice Ao24 t446.length co24, gb452) _ ⟨hHeld, (by (with_reducible repeat (first | apply Kd.R_alloc | apply Kd.R_drewN | apply Kd.R_drew)); exact HO448.out), (by (with_reducible repeat (first | refine blk_drewN ?_ _ | refine blk_drew ?_ | refine blk_alloc ?_ _)); exact BK442.out), (by (with_reducible repeat (first | refine blk_drewN ?_ _ | refine blk_drew ?_ | refine blk_alloc ?_ _)); exact BK452.out), GW452.out, GE452.out, NB442_452.out, NB452_442.out, (by repeat (first | (with_reducible first | exact HB.out | apply below_alloc | apply pw_below_drewN | apply below_drew1 | refine below_set ?_ GE442.out | refine below_set ?_ GE452.out) | exact HB.out))⟩)
                      rintro ⟨v447, gb452⟩ w26 ⟨hS_, h0_, h1_, h2_, h3_, h4_, h5_, h6_, h7_⟩
                      have n0_ : Aside0 (Kd.R k61 61 w26 w.heap.size (fun _ => True) v447 t446) := ⟨h0_⟩
                      have n1_ : Aside0 (w26.heap[gb442]? = some (.cells #[.int .i64 a0_0, .slice A0_1 l0_1.length c0_1] 24 (0, 0))) := ⟨h1_⟩
                      have n2_ : Aside0 (w26.heap[gb452]? = some (.cells #[.int .i64 0, .int .i64 0] 34 (0, 0))) := ⟨h2_⟩
                      have n3_ : Aside0 (w.heap.size ≤ gb452) := ⟨h3_⟩
                      have n4_ : Aside0 (w.heap.size ≤ gb452) := ⟨h4_⟩
                      have n5_ : Aside0 (gb442 ≠ gb452) := ⟨h5_⟩
                      have n6_ : Aside0 (gb452 ≠ gb442) := ⟨h6_⟩
                      have n7_ : Aside0 (Below w.heap.size w w26) := ⟨h7_⟩
                      clear BK442
                      clear HB
                      clear h0_ h1_ h2_ h3_ h4_ h5_ h6_ h7_
                      have HO448 := n0_
                      have BK442 := n1_
                      have BK452 := n2_
                      have GW452 := n3_
                      have GE452 := n4_
                      have NB442_452 := n5_
                      have NB452_442 := n6_
                      have HB := n7_
                      clear n0_ n1_ n2_ n3_ n4_ n5_ n6_ n7_
                      have hHeld : w26.cell? ⟨gb442, 0, none⟩ = some (.int .i64 a0_0) ∧ w26.cell? ⟨gb442, 1, none⟩ = some (.slice A0_1 l0_1.length c0_1) := hS_
                      refine norm_ (a' := ?_) ?_ ?_
                      rotate_left
                      · simp only [putAll, Act.put, List.setIfInBounds_toArray, List.set_cons_zero, List.set_cons_succ]
                        rfl
                      refine one_ (i := 13) (N := none) #[true, true, true, true, true, true, true, true, true, true, true, true, true, true, false] rfl rfl (one_of HT_.out (by kernel_rfl)) (by decide) (fun K hK => ?_)
                      have hs27 : w26.cell? ⟨gb452, 0, none⟩ = some (.int .i64 0) := (blk_cell BK452.out 0).trans rfl
                      have hfs27 := blk_frozen BK452.out 0
                      have hns27_0 := NB442_452.out
                      have hms27_0 := NB452_442.out
                      have hs28 : w26.cell? ⟨gb452, 1, none⟩ = some (.int .i64 0) := (blk_cell BK452.out 1).trans rfl
                      have hfs28 := blk_frozen BK452.out 1
                      have hns28_0 := NB442_452.out
                      have hms28_0 := NB452_442.out
                      refine skip_ (w1 := ?_) (by rfl) rfl ?_ ?_
                      rotate_left
                      · go_simp
                        rfl
                      refine hK.out _ _ ⟨((cell_far (p := ⟨gb452, _, none⟩) NB442_452.out _).trans (((cell_far (p := ⟨gb452, _, none⟩) NB442_452.out _).trans (hHeld.1)))), ((cell_far (p := ⟨gb452, _, none⟩) NB442_452.out _).trans (((cell_far (p := ⟨gb452, _, none⟩) NB442_452.out _).trans (hHeld.2))))⟩ (fun hHeld => ?_)
                      clear hK K
                      refine pure_ (i := 14) (N := some 6) (v := ?_) (a' := ?_) #[true, true, true, true, true, true, true, true, true, true, true, true, true, true, true] rfl rfl (any_of HT_.out (by kernel_rfl)) (fun _ _ _ h => h) (Or.inl ⟨by rfl, ?_⟩) ?_ ?_
                      rotate_left
                      · intro w'
                        go_simp
                        with_reducible rfl
                      rotate_left
                      · simp only [Act.put, List.setIfInBounds_toArray, List.set_cons_zero, List.set_cons_succ, i64_w, i32_w]
                        rfl
                      refine done_ (done_of HT_.out (by kernel_rfl)) ?_
                      have hnb29 := NB442_452.out
                      have hnc29 := NB452_442.out
                      have hcz30_0 : w26.cell? ⟨gb442, 0, none⟩ = some (.int .i64 a0_0) := (blk_cell BK442.out 0).trans rfl
                      have hcz30_1 : w26.cell? ⟨gb442, 1, none⟩ = some (.slice A0_1 l0_1.length c0_1) := (blk_cell BK442.out 1).trans rfl
                      have hfz30_0 := blk_frozen BK442.out 0
                      have hfz30_1 := blk_frozen BK442.out 1
                      have p453 : 0 ≤ (0 : Int) := (by omega)
                      have q453 : 0 < (l0_1.length : Int) := of_decide_eq_true (by first | (with_reducible assumption) | assumption)
                      obtain ⟨ad453, e453, hx453_0, hx453_1, hx453_2⟩ := at_T57 HR0_1.out 0 p453 q453
                      cases e453
                      have qi453 : (0 < l0_1.length) = True := eq_true (by omega)
                      (try rw [show ((0 : Int)).toNat = 0 from rfl] at hx453_0)
                      (try rw [show 0 * 3 = 0 from rfl] at hx453_0)
                      (try rw [Addr.add_zero'] at hx453_0)
                      (try rw [show ((0 : Int)).toNat = 0 from rfl] at hx453_1)
                      (try rw [show 0 * 3 = 0 from rfl] at hx453_1)
                      (try rw [Addr.add_zero'] at hx453_1)
                      (try rw [show ((0 : Int)).toNat = 0 from rfl] at hx453_2)
                      (try rw [show 0 * 3 = 0 from rfl] at hx453_2)
                      (try rw [Addr.add_zero'] at hx453_2)
                      have hn453_0 : ad453.block ≠ gb452 := Nat.ne_of_lt (Nat.lt_of_lt_of_le (by have := World.block_lt_of_cell? _ _ hx453_0; first | rwa [add_block] at this | exact this) GW452.out)
                      have hn453_1 : ad453.block ≠ gb452 := Nat.ne_of_lt (Nat.lt_of_lt_of_le (by have := World.block_lt_of_cell? _ _ hx453_0; first | rwa [add_block] at this | exact this) GW452.out)
                      replace hx453_0 := (HB.out.cell (World.block_lt_of_cell? w _ hx453_0)).trans hx453_0
                      replace hx453_1 := (HB.out.cell (World.block_lt_of_cell? w _ hx453_1)).trans hx453_1
                      replace hx453_2 := (HB.out.cell (World.block_lt_of_cell? w _ hx453_2)).trans hx453_2
                      replace hx453_0 := (cell_far (p := ⟨gb452, 0, none⟩) (by first | (rw [add_block]; exact hn453_0) | (show (Addr.add _ _).block ≠ _; rw [add_block]; exact hn453_0) | exact hn453_0) (.int .i64 t449)).trans hx453_0
                      replace hx453_1 := (cell_far (p := ⟨gb452, 0, none⟩) (by first | (rw [add_block]; exact hn453_0) | (show (Addr.add _ _).block ≠ _; rw [add_block]; exact hn453_0) | exact hn453_0) (.int .i64 t449)).trans hx453_1
                      replace hx453_2 := (cell_far (p := ⟨gb452, 0, none⟩) (by first | (rw [add_block]; exact hn453_0) | (show (Addr.add _ _).block ≠ _; rw [add_block]; exact hn453_0) | exact hn453_0) (.int .i64 t449)).trans hx453_2
                      replace hx453_0 := (cell_far (p := ⟨gb452, 1, none⟩) (by first | (rw [add_block]; exact hn453_1) | (show (Addr.add _ _).block ≠ _; rw [add_block]; exact hn453_1) | exact hn453_1) (.int .i64 t450)).trans hx453_0
                      replace hx453_1 := (cell_far (p := ⟨gb452, 1, none⟩) (by first | (rw [add_block]; exact hn453_1) | (show (Addr.add _ _).block ≠ _; rw [add_block]; exact hn453_1) | exact hn453_1) (.int .i64 t450)).trans hx453_1
                      replace hx453_2 := (cell_far (p := ⟨gb452, 1, none⟩) (by first | (rw [add_block]; exact hn453_1) | (show (Addr.add _ _).block ≠ _; rw [add_block]; exact hn453_1) | exact hn453_1) (.int .i64 t450)).trans hx453_2
                      clear hn453_0
                      clear hn453_1
                      replace p453 := eq_true p453
                      replace q453 := eq_true q453
                      try go_wp2_with (first | ((with_reducible refine gate_dst (N := 7) rfl ?_); (try (refine gate_guard (by rfl) ?_; dsimp only)); refine box_event ?hg (N := 7) ?hd (cs := #[.int .i64 0, .int .i64 0, .int .i64 0]) (t := 57) ?hr ?_; (case hd => rfl); (case hg => rfl); (case hr => first | (go_simp; done) | (go_simp; rfl)); intro gb454 hg w31 hbox hb; have n0_ := Aside0.mk (Kd.R_below (by (with_reducible repeat (first | apply Kd.R_alloc | apply Kd.R_drewN | apply Kd.R_drew)); exact (Kd.R_mono (Kd.R_far (p := ⟨gb452, 1, none⟩) (Kd.R_far (p := ⟨gb452, 0, none⟩) (Kd.R_types HO448.out BK452.out (by decide)) (fun _ hk => hk.2) (.int .i64 t449)) (fun _ hk => hk.2) (.int .i64 t450)) (fun _ h_ => h_.1))) hb); have n1_ := Aside0.mk (blk_below (g := gb442) (o := .cells #[.int .i64 a0_0, .slice (some ad453) l0_1.length c0_1] 24 (0, 0)) (by (with_reducible repeat (first | refine blk_drewN ?_ _ | refine blk_drew ?_ | refine blk_alloc ?_ _)); refine blk_far ?_ NB442_452.out _; (with_reducible repeat (first | refine blk_drewN ?_ _ | refine blk_drew ?_ | refine blk_alloc ?_ _)); refine blk_far ?_ NB442_452.out _; (with_reducible repeat (first | refine blk_drewN ?_ _ | refine blk_drew ?_ | refine blk_alloc ?_ _)); exact BK442.out) hb); have n2_ := Aside0.mk (blk_below (g := gb452) (o := .cells #[.int .i64 t449, .int .i64 t450] 34 (0, 0)) (by (with_reducible repeat (first | refine blk_drewN ?_ _ | refine blk_drew ?_ | refine blk_alloc ?_ _)); refine blk_put (cs := #[.int .i64 t449, .int .i64 0]) ?_ 1 _ rfl; (with_reducible repeat (first | refine blk_drewN ?_ _ | refine blk_drew ?_ | refine blk_alloc ?_ _)); refine blk_put (cs := #[.int .i64 0, .int .i64 0]) ?_ 0 _ rfl; (with_reducible repeat (first | refine blk_drewN ?_ _ | refine blk_drew ?_ | refine blk_alloc ?_ _)); exact BK452.out) hb); have n3_ := Aside0.mk (below_step (by repeat (first | (with_reducible first | exact HB.out | apply below_alloc | apply pw_below_drewN | apply below_drew1 | refine below_set ?_ GE442.out | refine below_set ?_ GE452.out) | exact HB.out)) hb); have n4_ := Aside0.mk (hbox); have n5_ := Aside0.mk ((by rw [hg]; exact (below_size (by repeat (first | (with_reducible first | exact HB.out | apply below_alloc | apply pw_below_drewN | apply below_drew1 | refine below_set ?_ GE442.out | refine below_set ?_ GE452.out) | exact HB.out))) : w.heap.size ≤ gb454)); have n6_ := Aside0.mk ((by rw [hg]; exact (below_size (by repeat (first | (with_reducible first | exact HB.out | apply below_alloc | apply pw_below_drewN | apply below_drew1 | refine below_set ?_ GE442.out | refine below_set ?_ GE452.out) | exact HB.out))) : w.heap.size ≤ gb454)); have n7_ := Aside0.mk ((by rw [hg]; exact Nat.ne_of_lt (blk_lt (g := gb442) (o := .cells #[.int .i64 a0_0, .slice (some ad453) l0_1.length c0_1] 24 (0, 0)) (by (with_reducible repeat (first | refine blk_drewN ?_ _ | refine blk_drew ?_ | refine blk_alloc ?_ _)); refine blk_far ?_ NB442_452.out _; (with_reducible repeat (first | refine blk_drewN ?_ _ | refine blk_drew ?_ | refine blk_alloc ?_ _)); refine blk_far ?_ NB442_452.out _; (with_reducible repeat (first | refine blk_drewN ?_ _ | refine blk_drew ?_ | refine blk_alloc ?_ _)); exact BK442.out)) : gb442 ≠ gb454)); have n8_ := Aside0.mk ((by rw [hg]; exact Nat.ne_of_gt (blk_lt (g := gb442) (o := .cells #[.int .i64 a0_0, .slice (some ad453) l0_1.length c0_1] 24 (0, 0)) (by (with_reducible repeat (first | refine blk_drewN ?_ _ | refine blk_drew ?_ | refine blk_alloc ?_ _)); refine blk_far ?_ NB442_452.out _; (with_reducible repeat (first | refine blk_drewN ?_ _ | refine blk_drew ?_ | refine blk_alloc ?_ _)); refine blk_far ?_ NB442_452.out _; (with_reducible repeat (first | refine blk_drewN ?_ _ | refine blk_drew ?_ | refine blk_alloc ?_ _)); exact BK442.out)) : gb454 ≠ gb442)); have n9_ := Aside0.mk ((by rw [hg]; exact Nat.ne_of_lt (blk_lt (g := gb452) (o := .cells #[.int .i64 t449, .int .i64 t450] 34 (0, 0)) (by (with_reducible repeat (first | refine blk_drewN ?_ _ | refine blk_drew ?_ | refine blk_alloc ?_ _)); refine blk_put (cs := #[.int .i64 t449, .int .i64 0]) ?_ 1 _ rfl; (with_reducible repeat (first | refine blk_drewN ?_ _ | refine blk_drew ?_ | refine blk_alloc ?_ _)); refine blk_put (cs := #[.int .i64 0, .int .i64 0]) ?_ 0 _ rfl; (with_reducible repeat (first | refine blk_drewN ?_ _ | refine blk_drew ?_ | refine blk_alloc ?_ _)); exact BK452.out)) : gb452 ≠ gb454)); have n10_ := Aside0.mk ((by rw [hg]; exact Nat.ne_of_gt (blk_lt (g := gb452) (o := .cells #[.int .i64 t449, .int .i64 t450] 34 (0, 0)) (by (with_reducible repeat (first | refine blk_drewN ?_ _ | refine blk_drew ?_ | refine blk_alloc ?_ _)); refine blk_put (cs := #[.int .i64 t449, .int .i64 0]) ?_ 1 _ rfl; (with_reducible repeat (first | refine blk_drewN ?_ _ | refine blk_drew ?_ | refine blk_alloc ?_ _)); refine blk_put (cs := #[.int .i64 0, .int .i64 0]) ?_ 0 _ rfl; (with_reducible repeat (first | refine blk_drewN ?_ _ | refine blk_drew ?_ | refine blk_alloc ?_ _)); exact BK452.out)) : gb454 ≠ gb452)); clear HO448; clear BK442; clear BK452; clear HB; have HO448 := n0_; have BK442 := n1_; have BK452 := n2_; have HB := n3_; have BK454 := n4_; have GW454 := n5_; have GE454 := n6_; have NB442_454 := n7_; have NB454_442 := n8_; have NB452_454 := n9_; have NB454_452 := n10_; clear n0_ n1_ n2_ n3_ n4_ n5_ n6_ n7_ n8_ n9_ n10_; clear hb hbox hg; have hnb32 := NB454_442.out; have hnc32 := NB442_454.out; have hnb33 := NB454_452.out; have hnc33 := NB452_454.out; have hcz34_0 : w31.cell? ⟨gb454, 0, none⟩ = some (.int .i64 0) := (blk_cell BK454.out 0).trans rfl; have hcz34_1 : w31.cell? ⟨gb454, 1, none⟩ = some (.int .i64 0) := (blk_cell BK454.out 1).trans rfl; have hcz34_2 : w31.cell? ⟨gb454, 2, none⟩ = some (.int .i64 0) := (blk_cell BK454.out 2).trans rfl; have hfz34_0 := blk_frozen BK454.out 0; have hfz34_1 := blk_frozen BK454.out 1; have hfz34_2 := blk_frozen BK454.out 2))
                      have n0_ : Aside0 (Kd.R k61 61 (((w31.setCell ⟨gb454, 0, none⟩ (.int .i64 ((rd_T57 l0_1 0).f0))).setCell ⟨gb454, 1, none⟩ (.int .i64 ((rd_T57 l0_1 0).f1))).setCell ⟨gb454, 2, none⟩ (.int .i64 ((rd_T57 l0_1 0).f2))) w.heap.size (fun _ => True) v447 t446) := ⟨by (with_reducible repeat (first | apply Kd.R_alloc | apply Kd.R_drewN | apply Kd.R_drew)); exact Kd.R_mono (Kd.R_far (p := ⟨gb454, 2, none⟩) (Kd.R_far (p := ⟨gb454, 1, none⟩) (Kd.R_far (p := ⟨gb454, 0, none⟩) (Kd.R_types HO448.out BK454.out (by decide)) (fun _ hk => hk.2) (.int .i64 ((rd_T57 l0_1 0).f0))) (fun _ hk => hk.2) (.int .i64 ((rd_T57 l0_1 0).f1))) (fun _ hk => hk.2) (.int .i64 ((rd_T57 l0_1 0).f2))) (fun _ hk => trivial)⟩
                      have n1_ : Aside0 ((((w31.setCell ⟨gb454, 0, none⟩ (.int .i64 ((rd_T57 l0_1 0).f0))).setCell ⟨gb454, 1, none⟩ (.int .i64 ((rd_T57 l0_1 0).f1))).setCell ⟨gb454, 2, none⟩ (.int .i64 ((rd_T57 l0_1 0).f2))).heap[gb442]? = some (.cells #[.int .i64 a0_0, .slice (some ad453) l0_1.length c0_1] 24 (0, 0))) := ⟨by (with_reducible repeat (first | refine blk_drewN ?_ _ | refine blk_drew ?_ | refine blk_alloc ?_ _)); refine blk_far ?_ NB442_454.out _; (with_reducible repeat (first | refine blk_drewN ?_ _ | refine blk_drew ?_ | refine blk_alloc ?_ _)); refine blk_far ?_ NB442_454.out _; (with_reducible repeat (first | refine blk_drewN ?_ _ | refine blk_drew ?_ | refine blk_alloc ?_ _)); refine blk_far ?_ NB442_454.out _; (with_reducible repeat (first | refine blk_drewN ?_ _ | refine blk_drew ?_ | refine blk_alloc ?_ _)); exact BK442.out⟩
                      have n2_ : Aside0 ((((w31.setCell ⟨gb454, 0, none⟩ (.int .i64 ((rd_T57 l0_1 0).f0))).setCell ⟨gb454, 1, none⟩ (.int .i64 ((rd_T57 l0_1 0).f1))).setCell ⟨gb454, 2, none⟩ (.int .i64 ((rd_T57 l0_1 0).f2))).heap[gb452]? = some (.cells #[.int .i64 t449, .int .i64 t450] 34 (0, 0))) := ⟨by (with_reducible repeat (first | refine blk_drewN ?_ _ | refine blk_drew ?_ | refine blk_alloc ?_ _)); refine blk_far ?_ NB452_454.out _; (with_reducible repeat (first | refine blk_drewN ?_ _ | refine blk_drew ?_ | refine blk_alloc ?_ _)); refine blk_far ?_ NB452_454.out _; (with_reducible repeat (first | refine blk_drewN ?_ _ | refine blk_drew ?_ | refine blk_alloc ?_ _)); refine blk_far ?_ NB452_454.out _; (with_reducible repeat (first | refine blk_drewN ?_ _ | refine blk_drew ?_ | refine blk_alloc ?_ _)); exact BK452.out⟩
                      have n3_ : Aside0 ((((w31.setCell ⟨gb454, 0, none⟩ (.int .i64 ((rd_T57 l0_1 0).f0))).setCell ⟨gb454, 1, none⟩ (.int .i64 ((rd_T57 l0_1 0).f1))).setCell ⟨gb454, 2, none⟩ (.int .i64 ((rd_T57 l0_1 0).f2))).heap[gb454]? = some (.cells #[.int .i64 ((rd_T57 l0_1 0).f0), .int .i64 ((rd_T57 l0_1 0).f1), .int .i64 ((rd_T57 l0_1 0).f2)] 57 (0, 0))) := ⟨by (with_reducible repeat (first | refine blk_drewN ?_ _ | refine blk_drew ?_ | refine blk_alloc ?_ _)); refine blk_put (cs := #[.int .i64 ((rd_T57 l0_1 0).f0), .int .i64 ((rd_T57 l0_1 0).f1), .int .i64 0]) ?_ 2 _ rfl; (with_reducible repeat (first | refine blk_drewN ?_ _ | refine blk_drew ?_ | refine blk_alloc ?_ _)); refine blk_put (cs := #[.int .i64 ((rd_T57 l0_1 0).f0), .int .i64 0, .int .i64 0]) ?_ 1 _ rfl; (with_reducible repeat (first | refine blk_drewN ?_ _ | refine blk_drew ?_ | refine blk_alloc ?_ _)); refine blk_put (cs := #[.int .i64 0, .int .i64 0, .int .i64 0]) ?_ 0 _ rfl; (with_reducible repeat (first | refine blk_drewN ?_ _ | refine blk_drew ?_ | refine blk_alloc ?_ _)); exact BK454.out⟩
                      have n4_ : Aside0 (Below w.heap.size w (((w31.setCell ⟨gb454, 0, none⟩ (.int .i64 ((rd_T57 l0_1 0).f0))).setCell ⟨gb454, 1, none⟩ (.int .i64 ((rd_T57 l0_1 0).f1))).setCell ⟨gb454, 2, none⟩ (.int .i64 ((rd_T57 l0_1 0).f2)))) := ⟨by repeat (first | (with_reducible first | exact HB.out | apply below_alloc | apply pw_below_drewN | apply below_drew1 | refine below_set ?_ GE442.out | refine below_set ?_ GE452.out | refine below_set ?_ GE454.out) | exact HB.out)⟩
                      (try clear HO448)
                      (try clear BK442)
                      (try clear BK452)
                      (try clear BK454)
                      (try clear HB)
                      generalize (((w31.setCell ⟨gb454, 0, none⟩ (.int .i64 ((rd_T57 l0_1 0).f0))).setCell ⟨gb454, 1, none⟩ (.int .i64 ((rd_T57 l0_1 0).f1))).setCell ⟨gb454, 2, none⟩ (.int .i64 ((rd_T57 l0_1 0).f2))) = w35 at n0_ n1_ n2_ n3_ n4_ ⊢
                      have HO448 := n0_
                      have BK442 := n1_
                      have BK452 := n2_
                      have BK454 := n3_
                      have HB := n4_
                      clear n0_ n1_ n2_ n3_ n4_
                      have n0_ := Aside0.mk (Kd.R_drew HO448.out)
                      have n1_ := Aside0.mk (blk_drew BK442.out)
                      have n2_ := Aside0.mk (blk_drew BK452.out)
                      have n3_ := Aside0.mk (blk_drew BK454.out)
                      have n4_ := Aside0.mk (below_drew1 HB.out)
                      clear HO448
                      clear BK442
                      clear BK452
                      clear BK454
                      clear HB
                      have HO448 := n0_
                      have BK442 := n1_
                      have BK452 := n2_
                      have BK454 := n3_
                      have HB := n4_
                      clear n0_ n1_ n2_ n3_ n4_
                      refine start_ (n := 30) (S := fun w' => w'.cell? ⟨gb452, 0, none⟩ = some (.int .i64 t449) ∧ w'.cell? ⟨gb452, 1, none⟩ = some (.int .i64 t450) ∧ w'.cell? ⟨gb454, 0, none⟩ = some (.int .i64 ((rd_T57 l0_1 0).f0)) ∧ w'.cell? ⟨gb454, 1, none⟩ = some (.int .i64 ((rd_T57 l0_1 0).f1)) ∧ w'.cell? ⟨gb454, 2, none⟩ = some (.int .i64 ((rd_T57 l0_1 0).f2)) ∧ w'.cell? ⟨gb442, 0, none⟩ = some (.int .i64 a0_0) ∧ w'.cell? ⟨gb442, 1, none⟩ = some (.slice (some ad453) l0_1.length c0_1)) (ds := []) #[false, false, false, false, false, false, false, false, false, false, false, false, false, false, false, false, false, false, false, false, false, false, false, false, false, false, false, false, false, false] (by kernel_rfl) rfl rfl ⟨(blk_cell BK452.out 0).trans rfl, (blk_cell BK452.out 1).trans rfl, (blk_cell BK454.out 0).trans rfl, (blk_cell BK454.out 1).trans rfl, (blk_cell BK454.out 2).trans rfl, (blk_cell BK442.out 0).trans rfl, (blk_cell BK442.out 1).trans rfl⟩ (fun hHeld => ?_); refine with_tabW tensilelaw09_PlanBetween.tab5 tensilelaw09_PlanBetween.bits5 (fun HT_ HW_ => ?_)
                      generalize w35.drew = w36 at HO448 BK442 BK452 BK454 HB hHeld ⊢
                      refine pure_ (i := 0) (N := some 28) (v := ?_) (a' := ?_) #[true, false, false, false, false, false, false, false, false, false, false, false, false, false, false, false, false, false, false, false, false, false, false, false, false, false, false, false, false, false] rfl rfl (any_of HT_.out (by kernel_rfl)) (fun _ _ _ h => h) (Or.inl ⟨by rfl, ?_⟩) ?_ ?_
                      rotate_left
                      · intro w'
                        go_simp
                        with_reducible rfl
                      rotate_left
                      · simp only [Act.put, List.setIfInBounds_toArray, List.set_cons_zero, List.set_cons_succ, i64_w, i32_w]
                        rfl
                      refine pure_ (i := 1) (N := some 29) (v := ?_) (a' := ?_) #[true, true, false, false, false, false, false, false, false, false, false, false, false, false, false, false, false, false, false, false, false, false, false, false, false, false, false, false, false, false] rfl rfl (any_of HT_.out (by kernel_rfl)) (fun _ _ _ h => h) (Or.inl ⟨by rfl, ?_⟩) ?_ ?_
                      rotate_left
                      · intro w'
                        go_simp
                        with_reducible rfl
                      rotate_left
                      · simp only [Act.put, List.setIfInBounds_toArray, List.set_cons_zero, List.set_cons_succ, i64_w, i32_w]
                        rfl
                      refine pure_ (i := 2) (N := some 30) (v := ?_) (a' := ?_) #[true, true, true, false, false, false, false, false, false, false, false, false, false, false, false, false, false, false, false, false, false, false, false, false, false, false, false, false, false, false] rfl rfl (any_of HT_.out (by kernel_rfl)) (fun _ _ _ h => h) (Or.inl ⟨by rfl, ?_⟩) ?_ ?_
                      rotate_left
                      · intro w'
                        go_simp
                        with_reducible rfl
                      rotate_left
                      · simp only [Act.put, List.setIfInBounds_toArray, List.set_cons_zero, List.set_cons_succ, i64_w, i32_w]
                        rfl
                      refine pure_ (i := 3) (N := some 31) (v := ?_) (a' := ?_) #[true, true, true, true, false, false, false, false, false, false, false, false, false, false, false, false, false, false, false, false, false, false, false, false, false, false, false, false, false, false] rfl rfl (any_of HT_.out (by kernel_rfl)) (fun _ _ _ h => h) (Or.inl ⟨by rfl, ?_⟩) ?_ ?_
                      rotate_left
                      · intro w'
                        go_simp
                        with_reducible rfl
                      rotate_left
                      · simp only [Act.put, List.setIfInBounds_toArray, List.set_cons_zero, List.set_cons_succ, i64_w, i32_w]
                        rfl
                      refine take_ (i := 4) (N := some 32) (v := ?_) (a' := ?_) #[true, true, true, true, true, false, false, false, false, false, false, false, false, false, false, false, false, false, false, false, false, false, false, false, false, false, false, false, false, false] rfl rfl (take_ofW HT_.out HW_.out (by kernel_rfl)) (fun _ _ _ h => h) (Or.inl ⟨by rfl, ?_⟩) hHeld ?_ ?_
                      rotate_left
                      · rintro w' ⟨s0, s1, s2, s3, s4, s5, s6⟩
                        go_simp
                        with_reducible rfl
                      rotate_left
                      · simp only [Act.put, List.setIfInBounds_toArray, List.set_cons_zero, List.set_cons_succ, i64_w, i32_w]
                        rfl
                      refine pure_ (i := 5) (N := some 33) (v := ?_) (a' := ?_) #[true, true, true, true, true, true, false, false, false, false, false, false, false, false, false, false, false, false, false, false, false, false, false, false, false, false, false, false, false, false] rfl rfl (any_of HT_.out (by kernel_rfl)) (fun _ _ _ h => h) (Or.inl ⟨by rfl, ?_⟩) ?_ ?_
                      rotate_left
                      · intro w'
                        go_simp
                        with_reducible rfl
                      rotate_left
                      · simp only [Act.put, List.setIfInBounds_toArray, List.set_cons_zero, List.set_cons_succ, i64_w, i32_w]
                        rfl
                      refine pure_ (i := 6) (N := some 34) (v := ?_) (a' := ?_) #[true, true, true, true, true, true, true, false, false, false, false, false, false, false, false, false, false, false, false, false, false, false, false, false, false, false, false, false, false, false] rfl rfl (any_of HT_.out (by kernel_rfl)) (fun _ _ _ h => h) (Or.inl ⟨by rfl, ?_⟩) ?_ ?_
                      rotate_left
                      · intro w'
                        go_simp
                        with_reducible rfl
                      rotate_left
                      · simp only [Act.put, List.setIfInBounds_toArray, List.set_cons_zero, List.set_cons_succ, i64_w, i32_w]
                        rfl
                      refine pure_ (i := 7) (N := some 35) (v := ?_) (a' := ?_) #[true, true, true, true, true, true, true, true, false, false, false, false, false, false, false, false, false, false, false, false, false, false, false, false, false, false, false, false, false, false] rfl rfl (any_of HT_.out (by kernel_rfl)) (fun _ _ _ h => h) (Or.inl ⟨by rfl, ?_⟩) ?_ ?_
                      rotate_left
                      · intro w'
                        go_simp
                        with_reducible rfl
                      rotate_left
                      · simp only [Act.put, List.setIfInBounds_toArray, List.set_cons_zero, List.set_cons_succ, i64_w, i32_w]
                        rfl
                      refine pure_ (i := 8) (N := some 36) (v := ?_) (a' := ?_) #[true, true, true, true, true, true, true, true, true, false, false, false, false, false, false, false, false, false, false, false, false, false, false, false, false, false, false, false, false, false] rfl rfl (any_of HT_.out (by kernel_rfl)) (fun _ _ _ h => h) (Or.inl ⟨by rfl, ?_⟩) ?_ ?_
                      rotate_left
                      · intro w'
                        go_simp
                        with_reducible rfl
                      rotate_left
                      · simp only [Act.put, List.setIfInBounds_toArray, List.set_cons_zero, List.set_cons_succ, i64_w, i32_w]
                        rfl
                      refine pure_ (i := 10) (N := some 38) (v := ?_) (a' := ?_) #[true, true, true, true, true, true, true, true, true, false, true, false, false, false, false, false, false, false, false, false, false, false, false, false, false, false, false, false, false, false] rfl rfl (any_of HT_.out (by kernel_rfl)) (fun _ _ _ h => h) (Or.inl ⟨by rfl, ?_⟩) ?_ ?_
                      rotate_left
                      · intro w'
                        go_simp
                        with_reducible rfl
                      rotate_left
                      · simp only [Act.put, List.setIfInBounds_toArray, List.set_cons_zero, List.set_cons_succ, i64_w, i32_w]
                        rfl
                      refine pure_ (i := 12) (N := some 40) (v := ?_) (a' := ?_) #[true, true, true, true, true, true, true, true, true, false, true, false, true, false, false, false, false, false, false, false, false, false, false, false, false, false, false, false, false, false] rfl rfl (any_of HT_.out (by kernel_rfl)) (fun _ _ _ h => h) (Or.inl ⟨by rfl, ?_⟩) ?_ ?_
                      rotate_left
                      · intro w'
                        go_simp
                        with_reducible rfl
                      rotate_left
                      · simp only [Act.put, List.setIfInBounds_toArray, List.set_cons_zero, List.set_cons_succ, i64_w, i32_w]
                        rfl
                      refine take_ (i := 9) (N := some 37) (v := ?_) (a' := ?_) #[true, true, true, true, true, true, true, true, true, true, true, false, true, false, false, false, false, false, false, false, false, false, false, false, false, false, false, false, false, false] rfl rfl (take_ofW HT_.out HW_.out (by kernel_rfl)) (fun _ _ _ h => h) (Or.inl ⟨by rfl, ?_⟩) hHeld ?_ ?_
                      rotate_left
                      · rintro w' ⟨s0, s1, s2, s3, s4, s5, s6⟩
                        go_simp
                        with_reducible rfl
                      rotate_left
                      · simp only [Act.put, List.setIfInBounds_toArray, List.set_cons_zero, List.set_cons_succ, i64_w, i32_w]
                        rfl
                      refine take_ (i := 11) (N := some 39) (v := ?_) (a' := ?_) #[true, true, true, true, true, true, true, true, true, true, true, true, true, false, false, false, false, false, false, false, false, false, false, false, false, false, false, false, false, false] rfl rfl (take_ofW HT_.out HW_.out (by kernel_rfl)) (fun _ _ _ h => h) (Or.inl ⟨by rfl, ?_⟩) hHeld ?_ ?_
                      rotate_left
                      · rintro w' ⟨s0, s1, s2, s3, s4, s5, s6⟩
                        go_simp
                        with_reducible rfl
                      rotate_left
                      · simp only [Act.put, List.setIfInBounds_toArray, List.set_cons_zero, List.set_cons_succ, i64_w, i32_w]
                        rfl
                      refine take_ (i := 13) (N := some 41) (v := ?_) (a' := ?_) #[true, true, true, true, true, true, true, true, true, true, true, true, true, true, false, false, false, false, false, false, false, false, false, false, false, false, false, false, false, false] rfl rfl (take_ofW HT_.out HW_.out (by kernel_rfl)) (fun _ _ _ h => h) (Or.inl ⟨by rfl, ?_⟩) hHeld ?_ ?_
                      rotate_left
                      · rintro w' ⟨s0, s1, s2, s3, s4, s5, s6⟩
                        go_simp
                        with_reducible rfl
                      rotate_left
                      · simp only [Act.put, List.setIfInBounds_toArray, List.set_cons_zero, List.set_cons_succ, i64_w, i32_w]
                        rfl
                      refine pure_ (i := 14) (N := some 42) (v := ?_) (a' := ?_) #[true, true, true, true, true, true, true, true, true, true, true, true, true, true, true, false, false, false, false, false, false, false, false, false, false, false, false, false, false, false] rfl rfl (any_of HT_.out (by kernel_rfl)) (fun _ _ _ h => h) (Or.inl ⟨by rfl, ?_⟩) ?_ ?_
                      rotate_left
                      · intro w'
                        go_simp
                        with_reducible rfl
                      rotate_left
                      · simp only [Act.put, List.setIfInBounds_toArray, List.set_cons_zero, List.set_cons_succ, i64_w, i32_w]
                        rfl
                      refine pure_ (i := 15) (N := some 43) (v := ?_) (a' := ?_) #[true, true, true, true, true, true, true, true, true, true, true, true, true, true, true, true, false, false, false, false, false, false, false, false, false, false, false, false, false, false] rfl rfl (any_of HT_.out (by kernel_rfl)) (fun _ _ _ h => h) (Or.inl ⟨by rfl, ?_⟩) ?_ ?_
                      rotate_left
                      · intro w'
                        go_simp
                        with_reducible rfl
                      rotate_left
                      · simp only [Act.put, List.setIfInBounds_toArray, List.set_cons_zero, List.set_cons_succ, i64_w, i32_w]
                        rfl
                      refine pure_ (i := 16) (N := some 44) (v := ?_) (a' := ?_) #[true, true, true, true, true, true, true, true, true, true, true, true, true, true, true, true, true, false, false, false, false, false, false, false, false, false, false, false, false, false] rfl rfl (any_of HT_.out (by kernel_rfl)) (fun _ _ _ h => h) (Or.inl ⟨by rfl, ?_⟩) ?_ ?_
                      rotate_left
                      · intro w'
                        go_simp
                        with_reducible rfl
                      rotate_left
                      · simp only [Act.put, List.setIfInBounds_toArray, List.set_cons_zero, List.set_cons_succ, i64_w, i32_w]
                        rfl
                      refine pure_ (i := 17) (N := some 45) (v := ?_) (a' := ?_) #[true, true, true, true, true, true, true, true, true, true, true, true, true, true, true, true, true, true, false, false, false, false, false, false, false, false, false, false, false, false] rfl rfl (any_of HT_.out (by kernel_rfl)) (fun _ _ _ h => h) (Or.inl ⟨by rfl, ?_⟩) ?_ ?_
                      rotate_left
                      · intro w'
                        go_simp
                        with_reducible rfl
                      rotate_left
                      · simp only [Act.put, List.setIfInBounds_toArray, List.set_cons_zero, List.set_cons_succ, i64_w, i32_w]
                        rfl
                      refine pure_ (i := 18) (N := some 46) (v := ?_) (a' := ?_) #[true, true, true, true, true, true, true, true, true, true, true, true, true, true, true, true, true, true, true, false, false, false, false, false, false, false, false, false, false, false] rfl rfl (any_of HT_.out (by kernel_rfl)) (fun _ _ _ h => h) (Or.inl ⟨by rfl, ?_⟩) ?_ ?_
                      rotate_left
                      · intro w'
                        go_simp
                        with_reducible rfl
                      rotate_left
                      · simp only [Act.put, List.setIfInBounds_toArray, List.set_cons_zero, List.set_cons_succ, i64_w, i32_w]
                        rfl
                      refine pure_ (i := 21) (N := some 49) (v := ?_) (a' := ?_) #[true, true, true, true, true, true, true, true, true, true, true, true, true, true, true, true, true, true, true, false, false, true, false, false, false, false, false, false, false, false] rfl rfl (any_of HT_.out (by kernel_rfl)) (fun _ _ _ h => h) (Or.inl ⟨by rfl, ?_⟩) ?_ ?_
                      rotate_left
                      · intro w'
                        go_simp
                        with_reducible rfl
                      rotate_left
                      · simp only [Act.put, List.setIfInBounds_toArray, List.set_cons_zero, List.set_cons_succ, i64_w, i32_w]
                        rfl
                      refine pure_ (i := 25) (N := some 53) (v := ?_) (a' := ?_) #[true, true, true, true, true, true, true, true, true, true, true, true, true, true, true, true, true, true, true, false, false, true, false, false, false, true, false, false, false, false] rfl rfl (any_of HT_.out (by kernel_rfl)) (fun _ _ _ h => h) (Or.inl ⟨by rfl, ?_⟩) ?_ ?_
                      rotate_left
                      · intro w'
                        go_simp
                        with_reducible rfl
                      rotate_left
                      · simp only [Act.put, List.setIfInBounds_toArray, List.set_cons_zero, List.set_cons_succ, i64_w, i32_w]
                        rfl
                      refine take_ (i := 19) (N := some 47) (v := ?_) (a' := ?_) #[true, true, true, true, true, true, true, true, true, true, true, true, true, true, true, true, true, true, true, true, false, true, false, false, false, true, false, false, false, false] rfl rfl (take_ofW HT_.out HW_.out (by kernel_rfl)) (fun _ _ _ h => h) (Or.inl ⟨by rfl, ?_⟩) hHeld ?_ ?_
                      rotate_left
                      · rintro w' ⟨s0, s1, s2, s3, s4, s5, s6⟩
                        go_simp
                        with_reducible rfl
                      rotate_left
                      · simp only [Act.put, List.setIfInBounds_toArray, List.set_cons_zero, List.set_cons_succ, i64_w, i32_w]
                        rfl
                      refine take_ (i := 20) (N := some 48) (v := ?_) (a' := ?_) #[true, true, true, true, true, true, true, true, true, true, true, true, true, true, true, true, true, true, true, true, true, true, false, false, false, true, false, false, false, false] rfl rfl (take_ofW HT_.out HW_.out (by kernel_rfl)) (fun _ _ _ h => h) (Or.inl ⟨by rfl, ?_⟩) hHeld ?_ ?_
                      rotate_left
                      · rintro w' ⟨s0, s1, s2, s3, s4, s5, s6⟩
                        go_simp
                        with_reducible rfl
                      rotate_left
                      · simp only [Act.put, List.setIfInBounds_toArray, List.set_cons_zero, List.set_cons_succ, i64_w, i32_w]
                        rfl
                      refine take_ (i := 22) (N := some 50) (v := ?_) (a' := ?_) #[true, true, true, true, true, true, true, true, true, true, true, true, true, true, true, true, true, true, true, true, true, true, true, false, false, true, false, false, false, false] rfl rfl (take_ofW HT_.out HW_.out (by kernel_rfl)) (fun _ _ _ h => h) (Or.inl ⟨by rfl, ?_⟩) hHeld ?_ ?_
                      rotate_left
                      · rintro w' ⟨s0, s1, s2, s3, s4, s5, s6⟩
                        go_simp
                        with_reducible rfl
                      rotate_left
                      · simp only [Act.put, List.setIfInBounds_toArray, List.set_cons_zero, List.set_cons_succ, i64_w, i32_w]
                        rfl
                      refine pure_ (i := 23) (N := some 51) (v := ?_) (a' := ?_) #[true, true, true, true, true, true, true, true, true, true, true, true, true, true, true, true, true, true, true, true, true, true, true, true, false, true, false, false, false, false] rfl rfl (any_of HT_.out (by kernel_rfl)) (fun _ _ _ h => h) (Or.inl ⟨by rfl, ?_⟩) ?_ ?_
                      rotate_left
                      · intro w'
                        go_simp
                        with_reducible rfl
                      rotate_left
                      · simp only [Act.put, List.setIfInBounds_toArray, List.set_cons_zero, List.set_cons_succ, i64_w, i32_w]
                        rfl
                      refine take_ (i := 26) (N := some 54) (v := ?_) (a' := ?_) #[true, true, true, true, true, true, true, true, true, true, true, true, true, true, true, true, true, true, true, true, true, true, true, true, false, true, true, false, false, false] rfl rfl (take_ofW HT_.out HW_.out (by kernel_rfl)) (fun _ _ _ h => h) (Or.inl ⟨by rfl, ?_⟩) hHeld ?_ ?_
                      rotate_left
                      · rintro w' ⟨s0, s1, s2, s3, s4, s5, s6⟩
                        go_simp
                        with_reducible rfl
                      rotate_left
                      · simp only [Act.put, List.setIfInBounds_toArray, List.set_cons_zero, List.set_cons_succ, i64_w, i32_w]
                        rfl
                      refine one_ (i := 24) (N := some 52) #[true, true, true, true, true, true, true, true, true, true, true, true, true, true, true, true, true, true, true, true, true, true, true, true, true, true, true, false, false, false] rfl rfl (one_of HT_.out (by kernel_rfl)) (by decide) (fun K hK => ?_)
                      refine goes_ Try.func29 (by kernel_rfl) rfl #[.agg #[.int .i64 a0_0, .slice (some ad453) l0_1.length c0_1], .int .i64 (l0_1.length : Int)] (by rfl) rfl rfl (by (try simp only [List.map_toArray, List.map_cons, List.map_nil]); first | done | rfl | (simp only [List.length_drop, List.length_take]; rfl)) ?_
                      with_reducible refine (tensilelaw09_takes.calls k a0_0 _ _ l0_1 (l0_1.length : Int) t455 _ ?side1 ?side2 A12.out).mono ?_
                      (case side1 => repeat (first | exact (Kd.C_below HR0_1.out HB.out) | (with_reducible refine Kd.C_alloc ?_ _) | (with_reducible refine Kd.C_drewN ?_ _) | (with_reducible refine Kd.C_drew ?_)))
                      (case side2 => exact HC0_1.out)
                      rintro e w37 ⟨rfl, hb⟩
                      refine ⟨_, rfl, ?_⟩
                      have n0_ := Aside0.mk (Kd.R_below (by (with_reducible repeat (first | apply Kd.R_alloc | apply Kd.R_drewN | apply Kd.R_drew)); exact HO448.out) hb)
                      have n1_ := Aside0.mk (blk_below (g := gb442) (o := .cells #[.int .i64 a0_0, .slice (some ad453) l0_1.length c0_1] 24 (0, 0)) (by (with_reducible repeat (first | refine blk_drewN ?_ _ | refine blk_drew ?_ | refine blk_alloc ?_ _)); exact BK442.out) hb)
                      have n2_ := Aside0.mk (blk_below (g := gb452) (o := .cells #[.int .i64 t449, .int .i64 t450] 34 (0, 0)) (by (with_reducible repeat (first | refine blk_drewN ?_ _ | refine blk_drew ?_ | refine blk_alloc ?_ _)); exact BK452.out) hb)
                      have n3_ := Aside0.mk (blk_below (g := gb454) (o := .cells #[.int .i64 ((rd_T57 l0_1 0).f0), .int .i64 ((rd_T57 l0_1 0).f1), .int .i64 ((rd_T57 l0_1 0).f2)] 57 (0, 0)) (by (with_reducible repeat (first | refine blk_drewN ?_ _ | refine blk_drew ?_ | refine blk_alloc ?_ _)); exact BK454.out) hb)
                      have n4_ := Aside0.mk (below_step (by repeat (first | (with_reducible first | exact HB.out | apply below_alloc | apply pw_below_drewN | apply below_drew1 | refine below_set ?_ GE442.out | refine below_set ?_ GE452.out | refine below_set ?_ GE454.out) | exact HB.out)) hb)
                      clear HO448
                      clear BK442
                      clear BK452
                      clear BK454
                      clear HB
                      have HO448 := n0_
                      have BK442 := n1_
                      have BK452 := n2_
                      have BK454 := n3_
                      have HB := n4_
                      clear n0_ n1_ n2_ n3_ n4_
                      (try clear hb)
                      (try clear hb2)
                      (try clear hk)
                      (try clear hi)
                      refine hK.out _ _ ⟨(blk_cell BK452.out 0).trans rfl, (blk_cell BK452.out 1).trans rfl, (blk_cell BK454.out 0).trans rfl, (blk_cell BK454.out 1).trans rfl, (blk_cell BK454.out 2).trans rfl, (blk_cell BK442.out 0).trans rfl, (blk_cell BK442.out 1).trans rfl⟩ (fun hHeld => ?_)
                      clear hK K
                      refine norm_ (a' := ?_) ?_ ?_
                      rotate_left
                      · show Act.put _ (some 52) _ = _
                        simp only [Act.put, List.setIfInBounds_toArray, List.set_cons_zero, List.set_cons_succ, i64_w, i32_w]
                        rfl
                      refine pure_ (i := 27) (N := some 55) (v := ?_) (a' := ?_) #[true, true, true, true, true, true, true, true, true, true, true, true, true, true, true, true, true, true, true, true, true, true, true, true, true, true, true, true, false, false] rfl rfl (any_of HT_.out (by kernel_rfl)) (fun _ _ _ h => h) (Or.inl ⟨by rfl, ?_⟩) ?_ ?_
                      rotate_left
                      · intro w'
                        go_simp
                        with_reducible rfl
                      rotate_left
                      · simp only [Act.put, List.setIfInBounds_toArray, List.set_cons_zero, List.set_cons_succ, i64_w, i32_w]
                        rfl
                      refine pure_ (i := 28) (N := some 56) (v := ?_) (a' := ?_) #[true, true, true, true, true, true, true, true, true, true, true, true, true, true, true, true, true, true, true, true, true, true, true, true, true, true, true, true, true, false] rfl rfl (any_of HT_.out (by kernel_rfl)) (fun _ _ _ h => h) (Or.inl ⟨by rfl, ?_⟩) ?_ ?_
                      rotate_left
                      · intro w'
                        go_simp
                        with_reducible rfl
                      rotate_left
                      · simp only [Act.put, List.setIfInBounds_toArray, List.set_cons_zero, List.set_cons_succ, i64_w, i32_w]
                        rfl
                      refine pure_ (i := 29) (N := some 57) (v := ?_) (a' := ?_) #[true, true, true, true, true, true, true, true, true, true, true, true, true, true, true, true, true, true, true, true, true, true, true, true, true, true, true, true, true, true] rfl rfl (any_of HT_.out (by kernel_rfl)) (fun _ _ _ h => h) (Or.inl ⟨by rfl, ?_⟩) ?_ ?_
                      rotate_left
                      · intro w'
                        go_simp
                        with_reducible rfl
                      rotate_left
                      · simp only [Act.put, List.setIfInBounds_toArray, List.set_cons_zero, List.set_cons_succ, i64_w, i32_w]
                        rfl
                      refine done_ (done_of HT_.out (by kernel_rfl)) ?_
                      have hcz38_0 : w37.cell? ⟨gb454, 0, none⟩ = some (.int .i64 ((rd_T57 l0_1 0).f0)) := (blk_cell BK454.out 0).trans rfl
                      have hcz38_1 : w37.cell? ⟨gb454, 1, none⟩ = some (.int .i64 ((rd_T57 l0_1 0).f1)) := (blk_cell BK454.out 1).trans rfl
                      have hcz38_2 : w37.cell? ⟨gb454, 2, none⟩ = some (.int .i64 ((rd_T57 l0_1 0).f2)) := (blk_cell BK454.out 2).trans rfl
                      have hfz38_0 := blk_frozen BK454.out 0
                      have hfz38_1 := blk_frozen BK454.out 1
                      have hfz38_2 := blk_frozen BK454.out 2
                      have hcz39_0 : w37.cell? ⟨gb452, 0, none⟩ = some (.int .i64 t449) := (blk_cell BK452.out 0).trans rfl
                      have hcz39_1 : w37.cell? ⟨gb452, 1, none⟩ = some (.int .i64 t450) := (blk_cell BK452.out 1).trans rfl
                      have hfz39_0 := blk_frozen BK452.out 0
                      have hfz39_1 := blk_frozen BK452.out 1
                      try go_wp2_with (first | (go_at_call 15; (with_reducible refine (tensilelaw09_wakes.calls  t456 _ A17.out).mono ?_); rintro e w40 ⟨rfl, hb⟩; have n0_ := Aside0.mk (Kd.R_below (by (with_reducible repeat (first | apply Kd.R_alloc | apply Kd.R_drewN | apply Kd.R_drew)); exact HO448.out) hb); have n1_ := Aside0.mk (blk_below (g := gb442) (o := .cells #[.int .i64 a0_0, .slice (some ad453) l0_1.length c0_1] 24 (0, 0)) (by (with_reducible repeat (first | refine blk_drewN ?_ _ | refine blk_drew ?_ | refine blk_alloc ?_ _)); exact BK442.out) hb); have n2_ := Aside0.mk (blk_below (g := gb452) (o := .cells #[.int .i64 t449, .int .i64 t450] 34 (0, 0)) (by (with_reducible repeat (first | refine blk_drewN ?_ _ | refine blk_drew ?_ | refine blk_alloc ?_ _)); exact BK452.out) hb); have n3_ := Aside0.mk (blk_below (g := gb454) (o := .cells #[.int .i64 ((rd_T57 l0_1 0).f0), .int .i64 ((rd_T57 l0_1 0).f1), .int .i64 ((rd_T57 l0_1 0).f2)] 57 (0, 0)) (by (with_reducible repeat (first | refine blk_drewN ?_ _ | refine blk_drew ?_ | refine blk_alloc ?_ _)); exact BK454.out) hb); have n4_ := Aside0.mk (below_step (by repeat (first | (with_reducible first | exact HB.out | apply below_alloc | apply pw_below_drewN | apply below_drew1 | refine below_set ?_ GE442.out | refine below_set ?_ GE452.out | refine below_set ?_ GE454.out) | exact HB.out)) hb); clear HO448; clear BK442; clear BK452; clear BK454; clear HB; have HO448 := n0_; have BK442 := n1_; have BK452 := n2_; have BK454 := n3_; have HB := n4_; clear n0_ n1_ n2_ n3_ n4_; (try clear hb); (try clear hb2); (try clear hk); (try clear hi)))
                      go_ret
                      exact ⟨by first | rfl | (simp [errW_none, errW_some] <;> rfl) | (simp [*, errW_none, errW_some] <;> rfl), by repeat (first | (with_reducible first | exact HB.out | apply below_alloc | apply pw_below_drewN | apply below_drew1 | refine below_set ?_ GE442.out | refine below_set ?_ GE452.out | refine below_set ?_ GE454.out) | exact HB.out)⟩
                    · rw [if_neg c16] at H
                      exact absurd H (by simp)
                  · rw [if_neg c15] at H
                    exact absurd H (by simp)
                · rw [if_neg c14] at H
                  have c14b0 : (((rd_T57 l0_1 0).f2) == (wrap64 (((rd_T57 l0_1 0).f1) + 1))) = false := beq_eq_false_iff_ne.mpr c14
                  have c14b1 : (((rd_T57 l0_1 0).f2) != (wrap64 (((rd_T57 l0_1 0).f1) + 1))) = true := bne_iff_ne.mpr c14
                  replace H := Option.bind_eq_some_iff.mp H
                  obtain ⟨t457, A410, H⟩ := H
                  replace H : (some t457) = some r := H
                  have A41 := Aside0.mk A410
                  clear A410
                  obtain rfl := Option.some.inj H
                  go_enter Try.func9, Try.ntmps9
                  try go_wp2_with (first | ((with_reducible refine gate_dst (N := 2) rfl ?_); (try (refine gate_guard (by rfl) ?_; dsimp only)); refine box_event ?hg (N := 2) ?hd (cs := #[.int .i64 a0_0, .slice A0_1 l0_1.length c0_1]) (t := 24) ?hr ?_; (case hd => rfl); (case hg => rfl); (case hr => first | (go_simp; done) | (go_simp; rfl)); intro gb442 hg w42 hbox hb; have n0_ := Aside0.mk (below_step (by repeat (first | (with_reducible first | exact HB.out | apply below_alloc | apply pw_below_drewN | apply below_drew1) | exact HB.out)) hb); have n1_ := Aside0.mk (hbox); have n2_ := Aside0.mk ((by rw [hg]; exact (below_size (by repeat (first | (with_reducible first | exact HB.out | apply below_alloc | apply pw_below_drewN | apply below_drew1) | exact HB.out))) : w.heap.size ≤ gb442)); have n3_ := Aside0.mk ((by rw [hg]; exact (below_size (by repeat (first | (with_reducible first | exact HB.out | apply below_alloc | apply pw_below_drewN | apply below_drew1) | exact HB.out))) : w.heap.size ≤ gb442)); clear HB; have HB := n0_; have BK442 := n1_; have GW442 := n2_; have GE442 := n3_; clear n0_ n1_ n2_ n3_; clear hb hbox hg; have hcz43_0 : w42.cell? ⟨gb442, 0, none⟩ = some (.int .i64 a0_0) := (blk_cell BK442.out 0).trans rfl; have hcz43_1 : w42.cell? ⟨gb442, 1, none⟩ = some (.slice A0_1 l0_1.length c0_1) := (blk_cell BK442.out 1).trans rfl; have hfz43_0 := blk_frozen BK442.out 0; have hfz43_1 := blk_frozen BK442.out 1) | ((with_reducible refine gate_callee (f := 26) rfl ?_); refine goesL_ (some 9) rfl rfl Try.func26 (by kernel_rfl) rfl #[.agg #[.int .i64 a0_0, .slice A0_1 l0_1.length c0_1]] rfl (by (try simp only [List.map_toArray, List.map_cons, List.map_nil]); first | done | rfl | (simp only [List.length_drop, List.length_take]; rfl)) ?_; (with_reducible refine (tensilelaw09_ready.calls k a0_0 _ _ l0_1 true _ ?side1 ?side2 A3.out).mono ?_); (case side1 => repeat (first | exact (Kd.C_below HR0_1.out HB.out) | (with_reducible refine Kd.C_alloc ?_ _) | (with_reducible refine Kd.C_drewN ?_ _) | (with_reducible refine Kd.C_drew ?_))); (case side2 => exact HC0_1.out); rintro e w44 ⟨rfl, hb⟩; refine ⟨_, rfl, ?_⟩; have n0_ := Aside0.mk (blk_below (g := gb442) (o := .cells #[.int .i64 a0_0, .slice A0_1 l0_1.length c0_1] 24 (0, 0)) (by (with_reducible repeat (first | refine blk_drewN ?_ _ | refine blk_drew ?_ | refine blk_alloc ?_ _)); exact BK442.out) hb); have n1_ := Aside0.mk (below_step (by repeat (first | (with_reducible first | exact HB.out | apply below_alloc | apply pw_below_drewN | apply below_drew1 | refine below_set ?_ GE442.out) | exact HB.out)) hb); clear BK442; clear HB; have BK442 := n0_; have HB := n1_; clear n0_ n1_; (try clear hb); (try clear hb2); (try clear hk); (try clear hi)))
                  have n0_ := Aside0.mk (blk_drew BK442.out)
                  have n1_ := Aside0.mk (below_drew1 HB.out)
                  clear BK442
                  clear HB
                  have BK442 := n0_
                  have HB := n1_
                  clear n0_ n1_
                  refine start_ (n := 15) (S := fun w' => w'.cell? ⟨gb442, 0, none⟩ = some (.int .i64 a0_0) ∧ w'.cell? ⟨gb442, 1, none⟩ = some (.slice A0_1 l0_1.length c0_1)) (ds := []) #[false, false, false, false, false, false, false, false, false, false, false, false, false, false, false] (by kernel_rfl) rfl rfl ⟨(blk_cell BK442.out 0).trans rfl, (blk_cell BK442.out 1).trans rfl⟩ (fun hHeld => ?_); refine with_tabW tensilelaw09_PlanBetween.tab3 tensilelaw09_PlanBetween.bits3 (fun HT_ HW_ => ?_)
                  generalize w44.drew = w45 at BK442 HB hHeld ⊢
                  refine pure_ (i := 2) (N := some 15) (v := ?_) (a' := ?_) #[false, false, true, false, false, false, false, false, false, false, false, false, false, false, false] rfl rfl (any_of HT_.out (by kernel_rfl)) (fun _ _ _ h => h) (Or.inl ⟨by rfl, ?_⟩) ?_ ?_
                  rotate_left
                  · intro w'
                    go_simp
                    with_reducible rfl
                  rotate_left
                  · simp only [Act.put, List.setIfInBounds_toArray, List.set_cons_zero, List.set_cons_succ, i64_w, i32_w]
                    rfl
                  refine pure_ (i := 3) (N := some 16) (v := ?_) (a' := ?_) #[false, false, true, true, false, false, false, false, false, false, false, false, false, false, false] rfl rfl (any_of HT_.out (by kernel_rfl)) (fun _ _ _ h => h) (Or.inl ⟨by rfl, ?_⟩) ?_ ?_
                  rotate_left
                  · intro w'
                    go_simp
                    with_reducible rfl
                  rotate_left
                  · simp only [Act.put, List.setIfInBounds_toArray, List.set_cons_zero, List.set_cons_succ, i64_w, i32_w]
                    rfl
                  refine pure_ (i := 4) (N := some 17) (v := ?_) (a' := ?_) #[false, false, true, true, true, false, false, false, false, false, false, false, false, false, false] rfl rfl (any_of HT_.out (by kernel_rfl)) (fun _ _ _ h => h) (Or.inl ⟨by rfl, ?_⟩) ?_ ?_
                  rotate_left
                  · intro w'
                    go_simp
                    with_reducible rfl
                  rotate_left
                  · simp only [Act.put, List.setIfInBounds_toArray, List.set_cons_zero, List.set_cons_succ, i64_w, i32_w]
                    rfl
                  refine take_ (i := 0) (N := some 13) (v := ?_) (a' := ?_) #[true, false, true, true, true, false, false, false, false, false, false, false, false, false, false] rfl rfl (take_ofW HT_.out HW_.out (by kernel_rfl)) (fun _ _ _ h => h) (Or.inl ⟨by rfl, ?_⟩) hHeld ?_ ?_
                  rotate_left
                  · rintro w' ⟨s0, s1⟩
                    go_simp
                    with_reducible rfl
                  rotate_left
                  · simp only [Act.put, List.setIfInBounds_toArray, List.set_cons_zero, List.set_cons_succ, i64_w, i32_w]
                    rfl
                  refine take_ (i := 5) (N := some 18) (v := ?_) (a' := ?_) #[true, false, true, true, true, true, false, false, false, false, false, false, false, false, false] rfl rfl (take_ofW HT_.out HW_.out (by kernel_rfl)) (fun _ _ _ h => h) (Or.inl ⟨by rfl, ?_⟩) hHeld ?_ ?_
                  rotate_left
                  · rintro w' ⟨s0, s1⟩
                    go_simp
                    with_reducible rfl
                  rotate_left
                  · simp only [Act.put, List.setIfInBounds_toArray, List.set_cons_zero, List.set_cons_succ, i64_w, i32_w]
                    rfl
                  refine pure_ (i := 6) (N := some 19) (v := ?_) (a' := ?_) #[true, false, true, true, true, true, true, false, false, false, false, false, false, false, false] rfl rfl (any_of HT_.out (by kernel_rfl)) (fun _ _ _ h => h) (Or.inl ⟨by rfl, ?_⟩) ?_ ?_
                  rotate_left
                  · intro w'
                    go_simp
                    with_reducible rfl
                  rotate_left
                  · simp only [Act.put, List.setIfInBounds_toArray, List.set_cons_zero, List.set_cons_succ, i64_w, i32_w]
                    rfl
                  refine pure_ (i := 7) (N := some 20) (v := ?_) (a' := ?_) #[true, false, true, true, true, true, true, true, false, false, false, false, false, false, false] rfl rfl (any_of HT_.out (by kernel_rfl)) (fun _ _ _ h => h) (Or.inl ⟨by rfl, ?_⟩) ?_ ?_
                  rotate_left
                  · intro w'
                    go_simp
                    with_reducible rfl
                  rotate_left
                  · simp only [Act.put, List.setIfInBounds_toArray, List.set_cons_zero, List.set_cons_succ, i64_w, i32_w]
                    rfl
                  refine join_ (σ := Value × Nat) 2 #[true, true, true, true, true, true, true, true, true, true, true, true, true, false, false] (fun s_ => [(14, .agg #[.int .i64 t445, s_.1]), (21, .tuple #[.agg #[.int .i64 t449, .int .i64 t450], .int .i64 t451]), (5, .pointer (some ⟨s_.2, 0, none⟩)), (12, .tuple #[.agg #[.int .i64 t449, .int .i64 t450], .int .i64 t451]), (22, .agg #[.int .i64 t449, .int .i64 t450]), (23, .int .i64 t451)]) (fun s_ w' => (w'.cell? ⟨gb442, 0, none⟩ = some (.int .i64 a0_0) ∧ w'.cell? ⟨gb442, 1, none⟩ = some (.slice A0_1 l0_1.length c0_1)) ∧ (Kd.R k61 61 w' w.heap.size (fun _ => True) s_.1 t446) ∧ (w'.heap[gb442]? = some (.cells #[.int .i64 a0_0, .slice A0_1 l0_1.length c0_1] 24 (0, 0))) ∧ (w'.heap[s_.2]? = some (.cells #[.int .i64 0, .int .i64 0] 34 (0, 0))) ∧ (w.heap.size ≤ s_.2) ∧ (w.heap.size ≤ s_.2) ∧ (gb442 ≠ s_.2) ∧ (s_.2 ≠ gb442) ∧ (Below w.heap.size w w')) ?_ ?_
                  rotate_left
                  · intro hCont
                    refine two_ (i := 1) (j := 12) (Ni := some 14) (Nj := some 5) #[true, true, true, true, true, true, true, true, false, false, false, false, false, false, false] #[true, false, true, true, true, true, true, true, false, false, false, false, true, false, false] rfl rfl rfl rfl (two_of HT_.out (by kernel_rfl)) (by decide) (by decide) (fun K hK => ?_) (fun K hK => ?_)
                    · skip
                      refine goes_ Try.func17 (by kernel_rfl) rfl #[.agg #[.int .i64 a0_0, .slice A0_1 l0_1.length c0_1]] (by rfl) rfl rfl (by (try simp only [List.map_toArray, List.map_cons, List.map_nil]); first | done | rfl | (simp only [List.length_drop, List.length_take]; rfl)) ?_
                      with_reducible refine (tensilelaw09_Plan.calls k a0_0 _ _ l0_1 t445 t446 _ ?side1 ?side2 A5.out).mono ?_
                      (case side1 => repeat (first | exact (Kd.C_below HR0_1.out HB.out) | (with_reducible refine Kd.C_alloc ?_ _) | (with_reducible refine Kd.C_drewN ?_ _) | (with_reducible refine Kd.C_drew ?_)))
                      (case side2 => exact HC0_1.out)
                      rintro e w46 ⟨v447, rfl, ho0, hb⟩
                      refine ⟨_, rfl, ?_⟩
                      have n0_ := Aside0.mk (Kd.R_lower ho0 (below_size (by repeat (first | (with_reducible first | exact HB.out | apply below_alloc | apply pw_below_drewN | apply below_drew1 | refine below_set ?_ GE442.out) | exact HB.out))))
                      have n1_ := Aside0.mk (blk_below (g := gb442) (o := .cells #[.int .i64 a0_0, .slice A0_1 l0_1.length c0_1] 24 (0, 0)) (by (with_reducible repeat (first | refine blk_drewN ?_ _ | refine blk_drew ?_ | refine blk_alloc ?_ _)); exact BK442.out) hb)
                      have n2_ := Aside0.mk (below_step (by repeat (first | (with_reducible first | exact HB.out | apply below_alloc | apply pw_below_drewN | apply below_drew1 | refine below_set ?_ GE442.out) | exact HB.out)) hb)
                      clear BK442
                      clear HB
                      have HO448 := n0_
                      have BK442 := n1_
                      have HB := n2_
                      clear n0_ n1_ n2_
                      (try clear hb)
                      (try clear hb2)
                      (try clear hk)
                      (try clear hi)
                      (try clear ho0)
                      obtain ⟨Ao47, co47, eo47⟩ := Kd.R_slice HO448.out
                      (first | subst eo47 | (injection eo47 with f1_ f2_ f3_; have f4_ := f1_.symm; have f5_ := f3_.symm; clear f1_ f2_ f3_; subst f4_; subst f5_))
                      refine hK.out _ _ ⟨(blk_cell BK442.out 0).trans rfl, (blk_cell BK442.out 1).trans rfl⟩ (fun hHeld => ?_)
                      clear hK K
                      refine norm_ (a' := ?_) ?_ ?_
                      rotate_left
                      · show Act.put _ (some 14) _ = _
                        simp only [Act.put, List.setIfInBounds_toArray, List.set_cons_zero, List.set_cons_succ, i64_w, i32_w]
                        rfl
                      refine two_ (i := 8) (j := 12) (Ni := some 21) (Nj := some 5) #[true, true, true, true, true, true, true, true, true, false, false, false, false, false, false] #[true, true, true, true, true, true, true, true, false, false, false, false, true, false, false] rfl rfl rfl rfl (two_of HT_.out (by kernel_rfl)) (by decide) (by decide) (fun K hK => ?_) (fun K hK => ?_)
                      · skip
                        refine goes_ Try.func23 (by kernel_rfl) rfl #[.agg #[.int .i64 t445, .slice Ao47 t446.length co47], .int .i64 (Int.tmod (wrap64 (a1)) (wrap64 (a0_0 + 1)))] (by rfl) rfl rfl (by (try simp only [List.map_toArray, List.map_cons, List.map_nil]); first | done | rfl | (simp only [List.length_drop, List.length_take]; rfl)) ?_
                        with_reducible refine (plan_Mean.calls t445 _ _ t446 (Int.tmod (wrap64 (a1)) (wrap64 (a0_0 + 1))) t449 t450 t451 _ ?side1 ?side2 A7.out).mono ?_
                        (case side1 => repeat (first | exact (Kd.R_reads' HO448.out).2.2 | (with_reducible refine Kd.C_alloc ?_ _) | (with_reducible refine Kd.C_drewN ?_ _) | (with_reducible refine Kd.C_drew ?_)))
                        (case side2 => exact (Kd.R_reads' HO448.out).2.1)
                        rintro e w48 ⟨rfl, hb⟩
                        refine ⟨_, rfl, ?_⟩
                        have n0_ := Aside0.mk (Kd.R_below (by (with_reducible repeat (first | apply Kd.R_alloc | apply Kd.R_drewN | apply Kd.R_drew)); exact HO448.out) hb)
                        have n1_ := Aside0.mk (blk_below (g := gb442) (o := .cells #[.int .i64 a0_0, .slice A0_1 l0_1.length c0_1] 24 (0, 0)) (by (with_reducible repeat (first | refine blk_drewN ?_ _ | refine blk_drew ?_ | refine blk_alloc ?_ _)); exact BK442.out) hb)
                        have n2_ := Aside0.mk (below_step (by repeat (first | (with_reducible first | exact HB.out | apply below_alloc | apply pw_below_drewN | apply below_drew1 | refine below_set ?_ GE442.out) | exact HB.out)) hb)
                        clear HO448
                        clear BK442
                        clear HB
                        have HO448 := n0_
                        have BK442 := n1_
                        have HB := n2_
                        clear n0_ n1_ n2_
                        (try clear hb)
                        (try clear hb2)
                        (try clear hk)
                        (try clear hi)
                        refine hK.out _ _ ⟨(blk_cell BK442.out 0).trans rfl, (blk_cell BK442.out 1).trans rfl⟩ (fun hHeld => ?_)
                        clear hK K
                        refine norm_ (a' := ?_) ?_ ?_
                        rotate_left
                        · show Act.put _ (some 21) _ = _
                          simp only [Act.put, List.setIfInBounds_toArray, List.set_cons_zero, List.set_cons_succ, i64_w, i32_w]
                          rfl
                        refine pure_ (i := 9) (N := some 12) (v := ?_) (a' := ?_) #[true, true, true, true, true, true, true, true, true, true, false, false, false, false, false] rfl rfl (any_of HT_.out (by kernel_rfl)) (fun _ _ _ h => h) (Or.inl ⟨by rfl, ?_⟩) ?_ ?_
                        rotate_left
                        · intro w'
                          go_simp
                          with_reducible rfl
                        rotate_left
                        · simp only [Act.put, List.setIfInBounds_toArray, List.set_cons_zero, List.set_cons_succ, i64_w, i32_w]
                          rfl
                        refine pure_ (i := 10) (N := some 22) (v := ?_) (a' := ?_) #[true, true, true, true, true, true, true, true, true, true, true, false, false, false, false] rfl rfl (any_of HT_.out (by kernel_rfl)) (fun _ _ _ h => h) (Or.inl ⟨by rfl, ?_⟩) ?_ ?_
                        rotate_left
                        · intro w'
                          go_simp
                          with_reducible rfl
                        rotate_left
                        · simp only [Act.put, List.setIfInBounds_toArray, List.set_cons_zero, List.set_cons_succ, i64_w, i32_w]
                          rfl
                        refine pure_ (i := 11) (N := some 23) (v := ?_) (a' := ?_) #[true, true, true, true, true, true, true, true, true, true, true, true, false, false, false] rfl rfl (any_of HT_.out (by kernel_rfl)) (fun _ _ _ h => h) (Or.inl ⟨by rfl, ?_⟩) ?_ ?_
                        rotate_left
                        · intro w'
                          go_simp
                          with_reducible rfl
                        rotate_left
                        · simp only [Act.put, List.setIfInBounds_toArray, List.set_cons_zero, List.set_cons_succ, i64_w, i32_w]
                          rfl
                        refine one_ (i := 12) (N := some 5) #[true, true, true, true, true, true, true, true, true, true, true, true, true, false, false] rfl rfl (one_of HT_.out (by kernel_rfl)) (by decide) (fun K hK => ?_)
                        refine box_step ?hg (N := 5) ?hd (cs := #[.int .i64 0, .int .i64 0]) (t := 34) ?hr ?_; (case hd => rfl); (case hg => rfl); (case hr => first | (go_simp; done) | (go_simp; rfl))
                        intro gb452 hg w49 hbox hb
                        have n0_ := Aside0.mk (Kd.R_below (by (with_reducible repeat (first | apply Kd.R_alloc | apply Kd.R_drewN | apply Kd.R_drew)); exact HO448.out) hb)
                        have n1_ := Aside0.mk (blk_below (g := gb442) (o := .cells #[.int .i64 a0_0, .slice A0_1 l0_1.length c0_1] 24 (0, 0)) (by (with_reducible repeat (first | refine blk_drewN ?_ _ | refine blk_drew ?_ | refine blk_alloc ?_ _)); exact BK442.out) hb)
                        have n2_ := Aside0.mk (below_step (by repeat (first | (with_reducible first | exact HB.out | apply below_alloc | apply pw_below_drewN | apply below_drew1 | refine below_set ?_ GE442.out) | exact HB.out)) hb)
                        have n3_ := Aside0.mk (hbox)
                        have n4_ := Aside0.mk ((by rw [hg]; exact (below_size (by repeat (first | (with_reducible first | exact HB.out | apply below_alloc | apply pw_below_drewN | apply below_drew1 | refine below_set ?_ GE442.out) | exact HB.out))) : w.heap.size ≤ gb452))
                        have n5_ := Aside0.mk ((by rw [hg]; exact (below_size (by repeat (first | (with_reducible first | exact HB.out | apply below_alloc | apply pw_below_drewN | apply below_drew1 | refine below_set ?_ GE442.out) | exact HB.out))) : w.heap.size ≤ gb452))
                        have n6_ := Aside0.mk ((by rw [hg]; exact Nat.ne_of_lt (blk_lt (g := gb442) (o := .cells #[.int .i64 a0_0, .slice A0_1 l0_1.length c0_1] 24 (0, 0)) (by (with_reducible repeat (first | refine blk_drewN ?_ _ | refine blk_drew ?_ | refine blk_alloc ?_ _)); exact BK442.out)) : gb442 ≠ gb452))
                        have n7_ := Aside0.mk ((by rw [hg]; exact Nat.ne_of_gt (blk_lt (g := gb442) (o := .cells #[.int .i64 a0_0, .slice A0_1 l0_1.length c0_1] 24 (0, 0)) (by (with_reducible repeat (first | refine blk_drewN ?_ _ | refine blk_drew ?_ | refine blk_alloc ?_ _)); exact BK442.out)) : gb452 ≠ gb442))
                        clear HO448
                        clear BK442
                        clear HB
                        have HO448 := n0_
                        have BK442 := n1_
                        have HB := n2_
                        have BK452 := n3_
                        have GW452 := n4_
                        have GE452 := n5_
                        have NB442_452 := n6_
                        have NB452_442 := n7_
                        clear n0_ n1_ n2_ n3_ n4_ n5_ n6_ n7_
                        clear hb hbox hg
                        refine hK.out _ _ ⟨(blk_cell BK442.out 0).trans rfl, (blk_cell BK442.out 1).trans rfl⟩ (fun hHeld => ?_)
                        clear hK K
                        refine norm_ (a' := ?_) ?_ ?_
                        rotate_left
                        · show Act.put _ (some 5) _ = _
                          simp only [Act.put, List.setIfInBounds_toArray, List.set_cons_zero, List.set_cons_succ, i64_w, i32_w]
                          rfl
                        exact norm_ (by simp only [putAll, Act.put, List.setIfInBounds_toArray, List.set_cons_zero, List.set_cons_succ]) (hCont (.slice Ao47 t446.length co47, gb452) _ ⟨hHeld, (by (with_reducible repeat (first | apply Kd.R_alloc | apply Kd.R_drewN | apply Kd.R_drew)); exact HO448.out), (by (with_reducible repeat (first | refine blk_drewN ?_ _ | refine blk_drew ?_ | refine blk_alloc ?_ _)); exact BK442.out), (by (with_reducible repeat (first | refine blk_drewN ?_ _ | refine blk_drew ?_ | refine blk_alloc ?_ _)); exact BK452.out), GW452.out, GE452.out, NB442_452.out, NB452_442.out, (by repeat (first | (with_reducible first | exact HB.out | apply below_alloc | apply pw_below_drewN | apply below_drew1 | refine below_set ?_ GE442.out | refine below_set ?_ GE452.out) | exact HB.out))⟩)
                      · skip
                        refine box_step ?hg (N := 5) ?hd (cs := #[.int .i64 0, .int .i64 0]) (t := 34) ?hr ?_; (case hd => rfl); (case hg => rfl); (case hr => first | (go_simp; done) | (go_simp; rfl))
                        intro gb452 hg w47 hbox hb
                        have n0_ := Aside0.mk (Kd.R_below (by (with_reducible repeat (first | apply Kd.R_alloc | apply Kd.R_drewN | apply Kd.R_drew)); exact HO448.out) hb)
                        have n1_ := Aside0.mk (blk_below (g := gb442) (o := .cells #[.int .i64 a0_0, .slice A0_1 l0_1.length c0_1] 24 (0, 0)) (by (with_reducible repeat (first | refine blk_drewN ?_ _ | refine blk_drew ?_ | refine blk_alloc ?_ _)); exact BK442.out) hb)
                        have n2_ := Aside0.mk (below_step (by repeat (first | (with_reducible first | exact HB.out | apply below_alloc | apply pw_below_drewN | apply below_drew1 | refine below_set ?_ GE442.out) | exact HB.out)) hb)
                        have n3_ := Aside0.mk (hbox)
                        have n4_ := Aside0.mk ((by rw [hg]; exact (below_size (by repeat (first | (with_reducible first | exact HB.out | apply below_alloc | apply pw_below_drewN | apply below_drew1 | refine below_set ?_ GE442.out) | exact HB.out))) : w.heap.size ≤ gb452))
                        have n5_ := Aside0.mk ((by rw [hg]; exact (below_size (by repeat (first | (with_reducible first | exact HB.out | apply below_alloc | apply pw_below_drewN | apply below_drew1 | refine below_set ?_ GE442.out) | exact HB.out))) : w.heap.size ≤ gb452))
                        have n6_ := Aside0.mk ((by rw [hg]; exact Nat.ne_of_lt (blk_lt (g := gb442) (o := .cells #[.int .i64 a0_0, .slice A0_1 l0_1.length c0_1] 24 (0, 0)) (by (with_reducible repeat (first | refine blk_drewN ?_ _ | refine blk_drew ?_ | refine blk_alloc ?_ _)); exact BK442.out)) : gb442 ≠ gb452))
                        have n7_ := Aside0.mk ((by rw [hg]; exact Nat.ne_of_gt (blk_lt (g := gb442) (o := .cells #[.int .i64 a0_0, .slice A0_1 l0_1.length c0_1] 24 (0, 0)) (by (with_reducible repeat (first | refine blk_drewN ?_ _ | refine blk_drew ?_ | refine blk_alloc ?_ _)); exact BK442.out)) : gb452 ≠ gb442))
                        clear HO448
                        clear BK442
                        clear HB
                        have HO448 := n0_
                        have BK442 := n1_
                        have HB := n2_
                        have BK452 := n3_
                        have GW452 := n4_
                        have GE452 := n5_
                        have NB442_452 := n6_
                        have NB452_442 := n7_
                        clear n0_ n1_ n2_ n3_ n4_ n5_ n6_ n7_
                        clear hb hbox hg
                        obtain ⟨Ao48, co48, eo48⟩ := Kd.R_slice HO448.out
                        (first | subst eo48 | (injection eo48 with f1_ f2_ f3_; have f4_ := f1_.symm; have f5_ := f3_.symm; clear f1_ f2_ f3_; subst f4_; subst f5_))
                        refine hK.out _ _ ⟨(blk_cell BK442.out 0).trans rfl, (blk_cell BK442.out 1).trans rfl⟩ (fun hHeld => ?_)
                        clear hK K
                        refine norm_ (a' := ?_) ?_ ?_
                        rotate_left
                        · show Act.put _ (some 5) _ = _
                          simp only [Act.put, List.setIfInBounds_toArray, List.set_cons_zero, List.set_cons_succ, i64_w, i32_w]
                          rfl
                        refine one_ (i := 8) (N := some 21) #[true, true, true, true, true, true, true, true, true, false, false, false, true, false, false] rfl rfl (one_of HT_.out (by kernel_rfl)) (by decide) (fun K hK => ?_)
                        refine goes_ Try.func23 (by kernel_rfl) rfl #[.agg #[.int .i64 t445, .slice Ao48 t446.length co48], .int .i64 (Int.tmod (wrap64 (a1)) (wrap64 (a0_0 + 1)))] (by rfl) rfl rfl (by (try simp only [List.map_toArray, List.map_cons, List.map_nil]); first | done | rfl | (simp only [List.length_drop, List.length_take]; rfl)) ?_
                        with_reducible refine (plan_Mean.calls t445 _ _ t446 (Int.tmod (wrap64 (a1)) (wrap64 (a0_0 + 1))) t449 t450 t451 _ ?side1 ?side2 A7.out).mono ?_
                        (case side1 => repeat (first | exact (Kd.R_reads' HO448.out).2.2 | (with_reducible refine Kd.C_alloc ?_ _) | (with_reducible refine Kd.C_drewN ?_ _) | (with_reducible refine Kd.C_drew ?_)))
                        (case side2 => exact (Kd.R_reads' HO448.out).2.1)
                        rintro e w49 ⟨rfl, hb⟩
                        refine ⟨_, rfl, ?_⟩
                        have n0_ := Aside0.mk (Kd.R_below (by (with_reducible repeat (first | apply Kd.R_alloc | apply Kd.R_drewN | apply Kd.R_drew)); exact HO448.out) hb)
                        have n1_ := Aside0.mk (blk_below (g := gb442) (o := .cells #[.int .i64 a0_0, .slice A0_1 l0_1.length c0_1] 24 (0, 0)) (by (with_reducible repeat (first | refine blk_drewN ?_ _ | refine blk_drew ?_ | refine blk_alloc ?_ _)); exact BK442.out) hb)
                        have n2_ := Aside0.mk (blk_below (g := gb452) (o := .cells #[.int .i64 0, .int .i64 0] 34 (0, 0)) (by (with_reducible repeat (first | refine blk_drewN ?_ _ | refine blk_drew ?_ | refine blk_alloc ?_ _)); exact BK452.out) hb)
                        have n3_ := Aside0.mk (below_step (by repeat (first | (with_reducible first | exact HB.out | apply below_alloc | apply pw_below_drewN | apply below_drew1 | refine below_set ?_ GE442.out | refine below_set ?_ GE452.out) | exact HB.out)) hb)
                        clear HO448
                        clear BK442
                        clear BK452
                        clear HB
                        have HO448 := n0_
                        have BK442 := n1_
                        have BK452 := n2_
                        have HB := n3_
                        clear n0_ n1_ n2_ n3_
                        (try clear hb)
                        (try clear hb2)
                        (try clear hk)
                        (try clear hi)
                        refine hK.out _ _ ⟨(blk_cell BK442.out 0).trans rfl, (blk_cell BK442.out 1).trans rfl⟩ (fun hHeld => ?_)
                        clear hK K
                        refine norm_ (a' := ?_) ?_ ?_
                        rotate_left
                        · show Act.put _ (some 21) _ = _
                          simp only [Act.put, List.setIfInBounds_toArray, List.set_cons_zero, List.set_cons_succ, i64_w, i32_w]
                          rfl
                        refine pure_ (i := 9) (N := some 12) (v := ?_) (a' := ?_) #[true, true, true, true, true, true, true, true, true, true, false, false, true, false, false] rfl rfl (any_of HT_.out (by kernel_rfl)) (fun _ _ _ h => h) (Or.inl ⟨by rfl, ?_⟩) ?_ ?_
                        rotate_left
                        · intro w'
                          go_simp
                          with_reducible rfl
                        rotate_left
                        · simp only [Act.put, List.setIfInBounds_toArray, List.set_cons_zero, List.set_cons_succ, i64_w, i32_w]
                          rfl
                        refine pure_ (i := 10) (N := some 22) (v := ?_) (a' := ?_) #[true, true, true, true, true, true, true, true, true, true, true, false, true, false, false] rfl rfl (any_of HT_.out (by kernel_rfl)) (fun _ _ _ h => h) (Or.inl ⟨by rfl, ?_⟩) ?_ ?_
                        rotate_left
                        · intro w'
                          go_simp
                          with_reducible rfl
                        rotate_left
                        · simp only [Act.put, List.setIfInBounds_toArray, List.set_cons_zero, List.set_cons_succ, i64_w, i32_w]
                          rfl
                        refine pure_ (i := 11) (N := some 23) (v := ?_) (a' := ?_) #[true, true, true, true, true, true, true, true, true, true, true, true, true, false, false] rfl rfl (any_of HT_.out (by kernel_rfl)) (fun _ _ _ h => h) (Or.inl ⟨by rfl, ?_⟩) ?_ ?_
                        rotate_left
                        · intro w'
                          go_simp
                          with_reducible rfl
                        rotate_left
                        · simp only [Act.put, List.setIfInBounds_toArray, List.set_cons_zero, List.set_cons_succ, i64_w, i32_w]
                          rfl
                        exact norm_ (by simp only [putAll, Act.put, List.setIfInBounds_toArray, List.set_cons_zero, List.set_cons_succ]) (hCont (.slice Ao48 t446.length co48, gb452) _ ⟨hHeld, (by (with_reducible repeat (first | apply Kd.R_alloc | apply Kd.R_drewN | apply Kd.R_drew)); exact HO448.out), (by (with_reducible repeat (first | refine blk_drewN ?_ _ | refine blk_drew ?_ | refine blk_alloc ?_ _)); exact BK442.out), (by (with_reducible repeat (first | refine blk_drewN ?_ _ | refine blk_drew ?_ | refine blk_alloc ?_ _)); exact BK452.out), GW452.out, GE452.out, NB442_452.out, NB452_442.out, (by repeat (first | (with_reducible first | exact HB.out | apply below_alloc | apply pw_below_drewN | apply below_drew1 | refine below_set ?_ GE442.out | refine below_set ?_ GE452.out) | exact HB.out))⟩)
                    · skip
                      refine box_step ?hg (N := 5) ?hd (cs := #[.int .i64 0, .int .i64 0]) (t := 34) ?hr ?_; (case hd => rfl); (case hg => rfl); (case hr => first | (go_simp; done) | (go_simp; rfl))
                      intro gb452 hg w46 hbox hb
                      have n0_ := Aside0.mk (blk_below (g := gb442) (o := .cells #[.int .i64 a0_0, .slice A0_1 l0_1.length c0_1] 24 (0, 0)) (by (with_reducible repeat (first | refine blk_drewN ?_ _ | refine blk_drew ?_ | refine blk_alloc ?_ _)); exact BK442.out) hb)
                      have n1_ := Aside0.mk (below_step (by repeat (first | (with_reducible first | exact HB.out | apply below_alloc | apply pw_below_drewN | apply below_drew1 | refine below_set ?_ GE442.out) | exact HB.out)) hb)
                      have n2_ := Aside0.mk (hbox)
                      have n3_ := Aside0.mk ((by rw [hg]; exact (below_size (by repeat (first | (with_reducible first | exact HB.out | apply below_alloc | apply pw_below_drewN | apply below_drew1 | refine below_set ?_ GE442.out) | exact HB.out))) : w.heap.size ≤ gb452))
                      have n4_ := Aside0.mk ((by rw [hg]; exact (below_size (by repeat (first | (with_reducible first | exact HB.out | apply below_alloc | apply pw_below_drewN | apply below_drew1 | refine below_set ?_ GE442.out) | exact HB.out))) : w.heap.size ≤ gb452))
                      have n5_ := Aside0.mk ((by rw [hg]; exact Nat.ne_of_lt (blk_lt (g := gb442) (o := .cells #[.int .i64 a0_0, .slice A0_1 l0_1.length c0_1] 24 (0, 0)) (by (with_reducible repeat (first | refine blk_drewN ?_ _ | refine blk_drew ?_ | refine blk_alloc ?_ _)); exact BK442.out)) : gb442 ≠ gb452))
                      have n6_ := Aside0.mk ((by rw [hg]; exact Nat.ne_of_gt (blk_lt (g := gb442) (o := .cells #[.int .i64 a0_0, .slice A0_1 l0_1.length c0_1] 24 (0, 0)) (by (with_reducible repeat (first | refine blk_drewN ?_ _ | refine blk_drew ?_ | refine blk_alloc ?_ _)); exact BK442.out)) : gb452 ≠ gb442))
                      clear BK442
                      clear HB
                      have BK442 := n0_
                      have HB := n1_
                      have BK452 := n2_
                      have GW452 := n3_
                      have GE452 := n4_
                      have NB442_452 := n5_
                      have NB452_442 := n6_
                      clear n0_ n1_ n2_ n3_ n4_ n5_ n6_
                      clear hb hbox hg
                      refine hK.out _ _ ⟨(blk_cell BK442.out 0).trans rfl, (blk_cell BK442.out 1).trans rfl⟩ (fun hHeld => ?_)
                      clear hK K
                      refine norm_ (a' := ?_) ?_ ?_
                      rotate_left
                      · show Act.put _ (some 5) _ = _
                        simp only [Act.put, List.setIfInBounds_toArray, List.set_cons_zero, List.set_cons_succ, i64_w, i32_w]
                        rfl
                      refine one_ (i := 1) (N := some 14) #[true, true, true, true, true, true, true, true, false, false, false, false, true, false, false] rfl rfl (one_of HT_.out (by kernel_rfl)) (by decide) (fun K hK => ?_)
                      refine goes_ Try.func17 (by kernel_rfl) rfl #[.agg #[.int .i64 a0_0, .slice A0_1 l0_1.length c0_1]] (by rfl) rfl rfl (by (try simp only [List.map_toArray, List.map_cons, List.map_nil]); first | done | rfl | (simp only [List.length_drop, List.length_take]; rfl)) ?_
                      with_reducible refine (tensilelaw09_Plan.calls k a0_0 _ _ l0_1 t445 t446 _ ?side1 ?side2 A5.out).mono ?_
                      (case side1 => repeat (first | exact (Kd.C_below HR0_1.out HB.out) | (with_reducible refine Kd.C_alloc ?_ _) | (with_reducible refine Kd.C_drewN ?_ _) | (with_reducible refine Kd.C_drew ?_)))
                      (case side2 => exact HC0_1.out)
                      rintro e w47 ⟨v447, rfl, ho0, hb⟩
                      refine ⟨_, rfl, ?_⟩
                      have n0_ := Aside0.mk (Kd.R_lower ho0 (below_size (by repeat (first | (with_reducible first | exact HB.out | apply below_alloc | apply pw_below_drewN | apply below_drew1 | refine below_set ?_ GE442.out | refine below_set ?_ GE452.out) | exact HB.out))))
                      have n1_ := Aside0.mk (blk_below (g := gb442) (o := .cells #[.int .i64 a0_0, .slice A0_1 l0_1.length c0_1] 24 (0, 0)) (by (with_reducible repeat (first | refine blk_drewN ?_ _ | refine blk_drew ?_ | refine blk_alloc ?_ _)); exact BK442.out) hb)
                      have n2_ := Aside0.mk (blk_below (g := gb452) (o := .cells #[.int .i64 0, .int .i64 0] 34 (0, 0)) (by (with_reducible repeat (first | refine blk_drewN ?_ _ | refine blk_drew ?_ | refine blk_alloc ?_ _)); exact BK452.out) hb)
                      have n3_ := Aside0.mk (below_step (by repeat (first | (with_reducible first | exact HB.out | apply below_alloc | apply pw_below_drewN | apply below_drew1 | refine below_set ?_ GE442.out | refine below_set ?_ GE452.out) | exact HB.out)) hb)
                      clear BK442
                      clear BK452
                      clear HB
                      have HO448 := n0_
                      have BK442 := n1_
                      have BK452 := n2_
                      have HB := n3_
                      clear n0_ n1_ n2_ n3_
                      (try clear hb)
                      (try clear hb2)
                      (try clear hk)
                      (try clear hi)
                      (try clear ho0)
                      obtain ⟨Ao48, co48, eo48⟩ := Kd.R_slice HO448.out
                      (first | subst eo48 | (injection eo48 with f1_ f2_ f3_; have f4_ := f1_.symm; have f5_ := f3_.symm; clear f1_ f2_ f3_; subst f4_; subst f5_))
                      refine hK.out _ _ ⟨(blk_cell BK442.out 0).trans rfl, (blk_cell BK442.out 1).trans rfl⟩ (fun hHeld => ?_)
                      clear hK K
                      refine norm_ (a' := ?_) ?_ ?_
                      rotate_left
                      · show Act.put _ (some 14) _ = _
                        simp only [Act.put, List.setIfInBounds_toArray, List.set_cons_zero, List.set_cons_succ, i64_w, i32_w]
                        rfl
                      refine one_ (i := 8) (N := some 21) #[true, true, true, true, true, true, true, true, true, false, false, false, true, false, false] rfl rfl (one_of HT_.out (by kernel_rfl)) (by decide) (fun K hK => ?_)
                      refine goes_ Try.func23 (by kernel_rfl) rfl #[.agg #[.int .i64 t445, .slice Ao48 t446.length co48], .int .i64 (Int.tmod (wrap64 (a1)) (wrap64 (a0_0 + 1)))] (by rfl) rfl rfl (by (try simp only [List.map_toArray, List.map_cons, List.map_nil]); first | done | rfl | (simp only [List.length_drop, List.length_take]; rfl)) ?_
                      with_reducible refine (plan_Mean.calls t445 _ _ t446 (Int.tmod (wrap64 (a1)) (wrap64 (a0_0 + 1))) t449 t450 t451 _ ?side1 ?side2 A7.out).mono ?_
                      (case side1 => repeat (first | exact (Kd.R_reads' HO448.out).2.2 | (with_reducible refine Kd.C_alloc ?_ _) | (with_reducible refine Kd.C_drewN ?_ _) | (with_reducible refine Kd.C_drew ?_)))
                      (case side2 => exact (Kd.R_reads' HO448.out).2.1)
                      rintro e w49 ⟨rfl, hb⟩
                      refine ⟨_, rfl, ?_⟩
                      have n0_ := Aside0.mk (Kd.R_below (by (with_reducible repeat (first | apply Kd.R_alloc | apply Kd.R_drewN | apply Kd.R_drew)); exact HO448.out) hb)
                      have n1_ := Aside0.mk (blk_below (g := gb442) (o := .cells #[.int .i64 a0_0, .slice A0_1 l0_1.length c0_1] 24 (0, 0)) (by (with_reducible repeat (first | refine blk_drewN ?_ _ | refine blk_drew ?_ | refine blk_alloc ?_ _)); exact BK442.out) hb)
                      have n2_ := Aside0.mk (blk_below (g := gb452) (o := .cells #[.int .i64 0, .int .i64 0] 34 (0, 0)) (by (with_reducible repeat (first | refine blk_drewN ?_ _ | refine blk_drew ?_ | refine blk_alloc ?_ _)); exact BK452.out) hb)
                      have n3_ := Aside0.mk (below_step (by repeat (first | (with_reducible first | exact HB.out | apply below_alloc | apply pw_below_drewN | apply below_drew1 | refine below_set ?_ GE442.out | refine below_set ?_ GE452.out) | exact HB.out)) hb)
                      clear HO448
                      clear BK442
                      clear BK452
                      clear HB
                      have HO448 := n0_
                      have BK442 := n1_
                      have BK452 := n2_
                      have HB := n3_
                      clear n0_ n1_ n2_ n3_
                      (try clear hb)
                      (try clear hb2)
                      (try clear hk)
                      (try clear hi)
                      refine hK.out _ _ ⟨(blk_cell BK442.out 0).trans rfl, (blk_cell BK442.out 1).trans rfl⟩ (fun hHeld => ?_)
                      clear hK K
                      refine norm_ (a' := ?_) ?_ ?_
                      rotate_left
                      · show Act.put _ (some 21) _ = _
                        simp only [Act.put, List.setIfInBounds_toArray, List.set_cons_zero, List.set_cons_succ, i64_w, i32_w]
                        rfl
                      refine pure_ (i := 9) (N := some 12) (v := ?_) (a' := ?_) #[true, true, true, true, true, true, true, true, true, true, false, false, true, false, false] rfl rfl (any_of HT_.out (by kernel_rfl)) (fun _ _ _ h => h) (Or.inl ⟨by rfl, ?_⟩) ?_ ?_
                      rotate_left
                      · intro w'
                        go_simp
                        with_reducible rfl
                      rotate_left
                      · simp only [Act.put, List.setIfInBounds_toArray, List.set_cons_zero, List.set_cons_succ, i64_w, i32_w]
                        rfl
                      refine pure_ (i := 10) (N := some 22) (v := ?_) (a' := ?_) #[true, true, true, true, true, true, true, true, true, true, true, false, true, false, false] rfl rfl (any_of HT_.out (by kernel_rfl)) (fun _ _ _ h => h) (Or.inl ⟨by rfl, ?_⟩) ?_ ?_
                      rotate_left
                      · intro w'
                        go_simp
                        with_reducible rfl
                      rotate_left
                      · simp only [Act.put, List.setIfInBounds_toArray, List.set_cons_zero, List.set_cons_succ, i64_w, i32_w]
                        rfl
                      refine pure_ (i := 11) (N := some 23) (v := ?_) (a' := ?_) #[true, true, true, true, true, true, true, true, true, true, true, true, true, false, false] rfl rfl (any_of HT_.out (by kernel_rfl)) (fun _ _ _ h => h) (Or.inl ⟨by rfl, ?_⟩) ?_ ?_
                      rotate_left
                      · intro w'
                        go_simp
                        with_reducible rfl
                      rotate_left
                      · simp only [Act.put, List.setIfInBounds_toArray, List.set_cons_zero, List.set_cons_succ, i64_w, i32_w]
                        rfl
                      exact norm_ (by simp only [putAll, Act.put, List.setIfInBounds_toArray, List.set_cons_zero, List.set_cons_succ]) (hCont (.slice Ao48 t446.length co48, gb452) _ ⟨hHeld, (by (with_reducible repeat (first | apply Kd.R_alloc | apply Kd.R_drewN | apply Kd.R_drew)); exact HO448.out), (by (with_reducible repeat (first | refine blk_drewN ?_ _ | refine blk_drew ?_ | refine blk_alloc ?_ _)); exact BK442.out), (by (with_reducible repeat (first | refine blk_drewN ?_ _ | refine blk_drew ?_ | refine blk_alloc ?_ _)); exact BK452.out), GW452.out, GE452.out, NB442_452.out, NB452_442.out, (by repeat (first | (with_reducible first | exact HB.out | apply below_alloc | apply pw_below_drewN | apply below_drew1 | refine below_set ?_ GE442.out | refine below_set ?_ GE452.out) | exact HB.out))⟩)
                  rintro ⟨v447, gb452⟩ w50 ⟨hS_, h0_, h1_, h2_, h3_, h4_, h5_, h6_, h7_⟩
                  have n0_ : Aside0 (Kd.R k61 61 w50 w.heap.size (fun _ => True) v447 t446) := ⟨h0_⟩
                  have n1_ : Aside0 (w50.heap[gb442]? = some (.cells #[.int .i64 a0_0, .slice A0_1 l0_1.length c0_1] 24 (0, 0))) := ⟨h1_⟩
                  have n2_ : Aside0 (w50.heap[gb452]? = some (.cells #[.int .i64 0, .int .i64 0] 34 (0, 0))) := ⟨h2_⟩
                  have n3_ : Aside0 (w.heap.size ≤ gb452) := ⟨h3_⟩
                  have n4_ : Aside0 (w.heap.size ≤ gb452) := ⟨h4_⟩
                  have n5_ : Aside0 (gb442 ≠ gb452) := ⟨h5_⟩
                  have n6_ : Aside0 (gb452 ≠ gb442) := ⟨h6_⟩
                  have n7_ : Aside0 (Below w.heap.size w w50) := ⟨h7_⟩
                  clear BK442
                  clear HB
                  clear h0_ h1_ h2_ h3_ h4_ h5_ h6_ h7_
                  have HO448 := n0_
                  have BK442 := n1_
                  have BK452 := n2_
                  have GW452 := n3_
                  have GE452 := n4_
                  have NB442_452 := n5_
                  have NB452_442 := n6_
                  have HB := n7_
                  clear n0_ n1_ n2_ n3_ n4_ n5_ n6_ n7_
                  have hHeld : w50.cell? ⟨gb442, 0, none⟩ = some (.int .i64 a0_0) ∧ w50.cell? ⟨gb442, 1, none⟩ = some (.slice A0_1 l0_1.length c0_1) := hS_
                  refine norm_ (a' := ?_) ?_ ?_
                  rotate_left
                  · simp only [putAll, Act.put, List.setIfInBounds_toArray, List.set_cons_zero, List.set_cons_succ]
                    rfl
                  refine one_ (i := 13) (N := none) #[true, true, true, true, true, true, true, true, true, true, true, true, true, true, false] rfl rfl (one_of HT_.out (by kernel_rfl)) (by decide) (fun K hK => ?_)
                  have hs51 : w50.cell? ⟨gb452, 0, none⟩ = some (.int .i64 0) := (blk_cell BK452.out 0).trans rfl
                  have hfs51 := blk_frozen BK452.out 0
                  have hns51_0 := NB442_452.out
                  have hms51_0 := NB452_442.out
                  have hs52 : w50.cell? ⟨gb452, 1, none⟩ = some (.int .i64 0) := (blk_cell BK452.out 1).trans rfl
                  have hfs52 := blk_frozen BK452.out 1
                  have hns52_0 := NB442_452.out
                  have hms52_0 := NB452_442.out
                  refine skip_ (w1 := ?_) (by rfl) rfl ?_ ?_
                  rotate_left
                  · go_simp
                    rfl
                  refine hK.out _ _ ⟨((cell_far (p := ⟨gb452, _, none⟩) NB442_452.out _).trans (((cell_far (p := ⟨gb452, _, none⟩) NB442_452.out _).trans (hHeld.1)))), ((cell_far (p := ⟨gb452, _, none⟩) NB442_452.out _).trans (((cell_far (p := ⟨gb452, _, none⟩) NB442_452.out _).trans (hHeld.2))))⟩ (fun hHeld => ?_)
                  clear hK K
                  refine pure_ (i := 14) (N := some 6) (v := ?_) (a' := ?_) #[true, true, true, true, true, true, true, true, true, true, true, true, true, true, true] rfl rfl (any_of HT_.out (by kernel_rfl)) (fun _ _ _ h => h) (Or.inl ⟨by rfl, ?_⟩) ?_ ?_
                  rotate_left
                  · intro w'
                    go_simp
                    with_reducible rfl
                  rotate_left
                  · simp only [Act.put, List.setIfInBounds_toArray, List.set_cons_zero, List.set_cons_succ, i64_w, i32_w]
                    rfl
                  refine done_ (done_of HT_.out (by kernel_rfl)) ?_
                  have hnb53 := NB442_452.out
                  have hnc53 := NB452_442.out
                  have hcz54_0 : w50.cell? ⟨gb442, 0, none⟩ = some (.int .i64 a0_0) := (blk_cell BK442.out 0).trans rfl
                  have hcz54_1 : w50.cell? ⟨gb442, 1, none⟩ = some (.slice A0_1 l0_1.length c0_1) := (blk_cell BK442.out 1).trans rfl
                  have hfz54_0 := blk_frozen BK442.out 0
                  have hfz54_1 := blk_frozen BK442.out 1
                  have p453 : 0 ≤ (0 : Int) := (by omega)
                  have q453 : 0 < (l0_1.length : Int) := of_decide_eq_true (by first | (with_reducible assumption) | assumption)
                  obtain ⟨ad453, e453, hx453_0, hx453_1, hx453_2⟩ := at_T57 HR0_1.out 0 p453 q453
                  cases e453
                  have qi453 : (0 < l0_1.length) = True := eq_true (by omega)
                  (try rw [show ((0 : Int)).toNat = 0 from rfl] at hx453_0)
                  (try rw [show 0 * 3 = 0 from rfl] at hx453_0)
                  (try rw [Addr.add_zero'] at hx453_0)
                  (try rw [show ((0 : Int)).toNat = 0 from rfl] at hx453_1)
                  (try rw [show 0 * 3 = 0 from rfl] at hx453_1)
                  (try rw [Addr.add_zero'] at hx453_1)
                  (try rw [show ((0 : Int)).toNat = 0 from rfl] at hx453_2)
                  (try rw [show 0 * 3 = 0 from rfl] at hx453_2)
                  (try rw [Addr.add_zero'] at hx453_2)
                  have hn453_0 : ad453.block ≠ gb452 := Nat.ne_of_lt (Nat.lt_of_lt_of_le (by have := World.block_lt_of_cell? _ _ hx453_0; first | rwa [add_block] at this | exact this) GW452.out)
                  have hn453_1 : ad453.block ≠ gb452 := Nat.ne_of_lt (Nat.lt_of_lt_of_le (by have := World.block_lt_of_cell? _ _ hx453_0; first | rwa [add_block] at this | exact this) GW452.out)
                  replace hx453_0 := (HB.out.cell (World.block_lt_of_cell? w _ hx453_0)).trans hx453_0
                  replace hx453_1 := (HB.out.cell (World.block_lt_of_cell? w _ hx453_1)).trans hx453_1
                  replace hx453_2 := (HB.out.cell (World.block_lt_of_cell? w _ hx453_2)).trans hx453_2
                  replace hx453_0 := (cell_far (p := ⟨gb452, 0, none⟩) (by first | (rw [add_block]; exact hn453_0) | (show (Addr.add _ _).block ≠ _; rw [add_block]; exact hn453_0) | exact hn453_0) (.int .i64 t449)).trans hx453_0
                  replace hx453_1 := (cell_far (p := ⟨gb452, 0, none⟩) (by first | (rw [add_block]; exact hn453_0) | (show (Addr.add _ _).block ≠ _; rw [add_block]; exact hn453_0) | exact hn453_0) (.int .i64 t449)).trans hx453_1
                  replace hx453_2 := (cell_far (p := ⟨gb452, 0, none⟩) (by first | (rw [add_block]; exact hn453_0) | (show (Addr.add _ _).block ≠ _; rw [add_block]; exact hn453_0) | exact hn453_0) (.int .i64 t449)).trans hx453_2
                  replace hx453_0 := (cell_far (p := ⟨gb452, 1, none⟩) (by first | (rw [add_block]; exact hn453_1) | (show (Addr.add _ _).block ≠ _; rw [add_block]; exact hn453_1) | exact hn453_1) (.int .i64 t450)).trans hx453_0
                  replace hx453_1 := (cell_far (p := ⟨gb452, 1, none⟩) (by first | (rw [add_block]; exact hn453_1) | (show (Addr.add _ _).block ≠ _; rw [add_block]; exact hn453_1) | exact hn453_1) (.int .i64 t450)).trans hx453_1
                  replace hx453_2 := (cell_far (p := ⟨gb452, 1, none⟩) (by first | (rw [add_block]; exact hn453_1) | (show (Addr.add _ _).block ≠ _; rw [add_block]; exact hn453_1) | exact hn453_1) (.int .i64 t450)).trans hx453_2
                  clear hn453_0
                  clear hn453_1
                  replace p453 := eq_true p453
                  replace q453 := eq_true q453
                  try go_wp2_with (first | ((with_reducible refine gate_dst (N := 7) rfl ?_); (try (refine gate_guard (by rfl) ?_; dsimp only)); refine box_event ?hg (N := 7) ?hd (cs := #[.int .i64 0, .int .i64 0, .int .i64 0]) (t := 57) ?hr ?_; (case hd => rfl); (case hg => rfl); (case hr => first | (go_simp; done) | (go_simp; rfl)); intro gb454 hg w55 hbox hb; have n0_ := Aside0.mk (Kd.R_below (by (with_reducible repeat (first | apply Kd.R_alloc | apply Kd.R_drewN | apply Kd.R_drew)); exact (Kd.R_mono (Kd.R_far (p := ⟨gb452, 1, none⟩) (Kd.R_far (p := ⟨gb452, 0, none⟩) (Kd.R_types HO448.out BK452.out (by decide)) (fun _ hk => hk.2) (.int .i64 t449)) (fun _ hk => hk.2) (.int .i64 t450)) (fun _ h_ => h_.1))) hb); have n1_ := Aside0.mk (blk_below (g := gb442) (o := .cells #[.int .i64 a0_0, .slice (some ad453) l0_1.length c0_1] 24 (0, 0)) (by (with_reducible repeat (first | refine blk_drewN ?_ _ | refine blk_drew ?_ | refine blk_alloc ?_ _)); refine blk_far ?_ NB442_452.out _; (with_reducible repeat (first | refine blk_drewN ?_ _ | refine blk_drew ?_ | refine blk_alloc ?_ _)); refine blk_far ?_ NB442_452.out _; (with_reducible repeat (first | refine blk_drewN ?_ _ | refine blk_drew ?_ | refine blk_alloc ?_ _)); exact BK442.out) hb); have n2_ := Aside0.mk (blk_below (g := gb452) (o := .cells #[.int .i64 t449, .int .i64 t450] 34 (0, 0)) (by (with_reducible repeat (first | refine blk_drewN ?_ _ | refine blk_drew ?_ | refine blk_alloc ?_ _)); refine blk_put (cs := #[.int .i64 t449, .int .i64 0]) ?_ 1 _ rfl; (with_reducible repeat (first | refine blk_drewN ?_ _ | refine blk_drew ?_ | refine blk_alloc ?_ _)); refine blk_put (cs := #[.int .i64 0, .int .i64 0]) ?_ 0 _ rfl; (with_reducible repeat (first | refine blk_drewN ?_ _ | refine blk_drew ?_ | refine blk_alloc ?_ _)); exact BK452.out) hb); have n3_ := Aside0.mk (below_step (by repeat (first | (with_reducible first | exact HB.out | apply below_alloc | apply pw_below_drewN | apply below_drew1 | refine below_set ?_ GE442.out | refine below_set ?_ GE452.out) | exact HB.out)) hb); have n4_ := Aside0.mk (hbox); have n5_ := Aside0.mk ((by rw [hg]; exact (below_size (by repeat (first | (with_reducible first | exact HB.out | apply below_alloc | apply pw_below_drewN | apply below_drew1 | refine below_set ?_ GE442.out | refine below_set ?_ GE452.out) | exact HB.out))) : w.heap.size ≤ gb454)); have n6_ := Aside0.mk ((by rw [hg]; exact (below_size (by repeat (first | (with_reducible first | exact HB.out | apply below_alloc | apply pw_below_drewN | apply below_drew1 | refine below_set ?_ GE442.out | refine below_set ?_ GE452.out) | exact HB.out))) : w.heap.size ≤ gb454)); have n7_ := Aside0.mk ((by rw [hg]; exact Nat.ne_of_lt (blk_lt (g := gb442) (o := .cells #[.int .i64 a0_0, .slice (some ad453) l0_1.length c0_1] 24 (0, 0)) (by (with_reducible repeat (first | refine blk_drewN ?_ _ | refine blk_drew ?_ | refine blk_alloc ?_ _)); refine blk_far ?_ NB442_452.out _; (with_reducible repeat (first | refine blk_drewN ?_ _ | refine blk_drew ?_ | refine blk_alloc ?_ _)); refine blk_far ?_ NB442_452.out _; (with_reducible repeat (first | refine blk_drewN ?_ _ | refine blk_drew ?_ | refine blk_alloc ?_ _)); exact BK442.out)) : gb442 ≠ gb454)); have n8_ := Aside0.mk ((by rw [hg]; exact Nat.ne_of_gt (blk_lt (g := gb442) (o := .cells #[.int .i64 a0_0, .slice (some ad453) l0_1.length c0_1] 24 (0, 0)) (by (with_reducible repeat (first | refine blk_drewN ?_ _ | refine blk_drew ?_ | refine blk_alloc ?_ _)); refine blk_far ?_ NB442_452.out _; (with_reducible repeat (first | refine blk_drewN ?_ _ | refine blk_drew ?_ | refine blk_alloc ?_ _)); refine blk_far ?_ NB442_452.out _; (with_reducible repeat (first | refine blk_drewN ?_ _ | refine blk_drew ?_ | refine blk_alloc ?_ _)); exact BK442.out)) : gb454 ≠ gb442)); have n9_ := Aside0.mk ((by rw [hg]; exact Nat.ne_of_lt (blk_lt (g := gb452) (o := .cells #[.int .i64 t449, .int .i64 t450] 34 (0, 0)) (by (with_reducible repeat (first | refine blk_drewN ?_ _ | refine blk_drew ?_ | refine blk_alloc ?_ _)); refine blk_put (cs := #[.int .i64 t449, .int .i64 0]) ?_ 1 _ rfl; (with_reducible repeat (first | refine blk_drewN ?_ _ | refine blk_drew ?_ | refine blk_alloc ?_ _)); refine blk_put (cs := #[.int .i64 0, .int .i64 0]) ?_ 0 _ rfl; (with_reducible repeat (first | refine blk_drewN ?_ _ | refine blk_drew ?_ | refine blk_alloc ?_ _)); exact BK452.out)) : gb452 ≠ gb454)); have n10_ := Aside0.mk ((by rw [hg]; exact Nat.ne_of_gt (blk_lt (g := gb452) (o := .cells #[.int .i64 t449, .int .i64 t450] 34 (0, 0)) (by (with_reducible repeat (first | refine blk_drewN ?_ _ | refine blk_drew ?_ | refine blk_alloc ?_ _)); refine blk_put (cs := #[.int .i64 t449, .int .i64 0]) ?_ 1 _ rfl; (with_reducible repeat (first | refine blk_drewN ?_ _ | refine blk_drew ?_ | refine blk_alloc ?_ _)); refine blk_put (cs := #[.int .i64 0, .int .i64 0]) ?_ 0 _ rfl; (with_reducible repeat (first | refine blk_drewN ?_ _ | refine blk_drew ?_ | refine blk_alloc ?_ _)); exact BK452.out)) : gb454 ≠ gb452)); clear HO448; clear BK442; clear BK452; clear HB; have HO448 := n0_; have BK442 := n1_; have BK452 := n2_; have HB := n3_; have BK454 := n4_; have GW454 := n5_; have GE454 := n6_; have NB442_454 := n7_; have NB454_442 := n8_; have NB452_454 := n9_; have NB454_452 := n10_; clear n0_ n1_ n2_ n3_ n4_ n5_ n6_ n7_ n8_ n9_ n10_; clear hb hbox hg; have hnb56 := NB454_442.out; have hnc56 := NB442_454.out; have hnb57 := NB454_452.out; have hnc57 := NB452_454.out; have hcz58_0 : w55.cell? ⟨gb454, 0, none⟩ = some (.int .i64 0) := (blk_cell BK454.out 0).trans rfl; have hcz58_1 : w55.cell? ⟨gb454, 1, none⟩ = some (.int .i64 0) := (blk_cell BK454.out 1).trans rfl; have hcz58_2 : w55.cell? ⟨gb454, 2, none⟩ = some (.int .i64 0) := (blk_cell BK454.out 2).trans rfl; have hfz58_0 := blk_frozen BK454.out 0; have hfz58_1 := blk_frozen BK454.out 1; have hfz58_2 := blk_frozen BK454.out 2))
                  have n0_ : Aside0 (Kd.R k61 61 (((w55.setCell ⟨gb454, 0, none⟩ (.int .i64 ((rd_T57 l0_1 0).f0))).setCell ⟨gb454, 1, none⟩ (.int .i64 ((rd_T57 l0_1 0).f1))).setCell ⟨gb454, 2, none⟩ (.int .i64 ((rd_T57 l0_1 0).f2))) w.heap.size (fun _ => True) v447 t446) := ⟨by (with_reducible repeat (first | apply Kd.R_alloc | apply Kd.R_drewN | apply Kd.R_drew)); exact Kd.R_mono (Kd.R_far (p := ⟨gb454, 2, none⟩) (Kd.R_far (p := ⟨gb454, 1, none⟩) (Kd.R_far (p := ⟨gb454, 0, none⟩) (Kd.R_types HO448.out BK454.out (by decide)) (fun _ hk => hk.2) (.int .i64 ((rd_T57 l0_1 0).f0))) (fun _ hk => hk.2) (.int .i64 ((rd_T57 l0_1 0).f1))) (fun _ hk => hk.2) (.int .i64 ((rd_T57 l0_1 0).f2))) (fun _ hk => trivial)⟩
                  have n1_ : Aside0 ((((w55.setCell ⟨gb454, 0, none⟩ (.int .i64 ((rd_T57 l0_1 0).f0))).setCell ⟨gb454, 1, none⟩ (.int .i64 ((rd_T57 l0_1 0).f1))).setCell ⟨gb454, 2, none⟩ (.int .i64 ((rd_T57 l0_1 0).f2))).heap[gb442]? = some (.cells #[.int .i64 a0_0, .slice (some ad453) l0_1.length c0_1] 24 (0, 0))) := ⟨by (with_reducible repeat (first | refine blk_drewN ?_ _ | refine blk_drew ?_ | refine blk_alloc ?_ _)); refine blk_far ?_ NB442_454.out _; (with_reducible repeat (first | refine blk_drewN ?_ _ | refine blk_drew ?_ | refine blk_alloc ?_ _)); refine blk_far ?_ NB442_454.out _; (with_reducible repeat (first | refine blk_drewN ?_ _ | refine blk_drew ?_ | refine blk_alloc ?_ _)); refine blk_far ?_ NB442_454.out _; (with_reducible repeat (first | refine blk_drewN ?_ _ | refine blk_drew ?_ | refine blk_alloc ?_ _)); exact BK442.out⟩
                  have n2_ : Aside0 ((((w55.setCell ⟨gb454, 0, none⟩ (.int .i64 ((rd_T57 l0_1 0).f0))).setCell ⟨gb454, 1, none⟩ (.int .i64 ((rd_T57 l0_1 0).f1))).setCell ⟨gb454, 2, none⟩ (.int .i64 ((rd_T57 l0_1 0).f2))).heap[gb452]? = some (.cells #[.int .i64 t449, .int .i64 t450] 34 (0, 0))) := ⟨by (with_reducible repeat (first | refine blk_drewN ?_ _ | refine blk_drew ?_ | refine blk_alloc ?_ _)); refine blk_far ?_ NB452_454.out _; (with_reducible repeat (first | refine blk_drewN ?_ _ | refine blk_drew ?_ | refine blk_alloc ?_ _)); refine blk_far ?_ NB452_454.out _; (with_reducible repeat (first | refine blk_drewN ?_ _ | refine blk_drew ?_ | refine blk_alloc ?_ _)); refine blk_far ?_ NB452_454.out _; (with_reducible repeat (first | refine blk_drewN ?_ _ | refine blk_drew ?_ | refine blk_alloc ?_ _)); exact BK452.out⟩
                  have n3_ : Aside0 ((((w55.setCell ⟨gb454, 0, none⟩ (.int .i64 ((rd_T57 l0_1 0).f0))).setCell ⟨gb454, 1, none⟩ (.int .i64 ((rd_T57 l0_1 0).f1))).setCell ⟨gb454, 2, none⟩ (.int .i64 ((rd_T57 l0_1 0).f2))).heap[gb454]? = some (.cells #[.int .i64 ((rd_T57 l0_1 0).f0), .int .i64 ((rd_T57 l0_1 0).f1), .int .i64 ((rd_T57 l0_1 0).f2)] 57 (0, 0))) := ⟨by (with_reducible repeat (first | refine blk_drewN ?_ _ | refine blk_drew ?_ | refine blk_alloc ?_ _)); refine blk_put (cs := #[.int .i64 ((rd_T57 l0_1 0).f0), .int .i64 ((rd_T57 l0_1 0).f1), .int .i64 0]) ?_ 2 _ rfl; (with_reducible repeat (first | refine blk_drewN ?_ _ | refine blk_drew ?_ | refine blk_alloc ?_ _)); refine blk_put (cs := #[.int .i64 ((rd_T57 l0_1 0).f0), .int .i64 0, .int .i64 0]) ?_ 1 _ rfl; (with_reducible repeat (first | refine blk_drewN ?_ _ | refine blk_drew ?_ | refine blk_alloc ?_ _)); refine blk_put (cs := #[.int .i64 0, .int .i64 0, .int .i64 0]) ?_ 0 _ rfl; (with_reducible repeat (first | refine blk_drewN ?_ _ | refine blk_drew ?_ | refine blk_alloc ?_ _)); exact BK454.out⟩
                  have n4_ : Aside0 (Below w.heap.size w (((w55.setCell ⟨gb454, 0, none⟩ (.int .i64 ((rd_T57 l0_1 0).f0))).setCell ⟨gb454, 1, none⟩ (.int .i64 ((rd_T57 l0_1 0).f1))).setCell ⟨gb454, 2, none⟩ (.int .i64 ((rd_T57 l0_1 0).f2)))) := ⟨by repeat (first | (with_reducible first | exact HB.out | apply below_alloc | apply pw_below_drewN | apply below_drew1 | refine below_set ?_ GE442.out | refine below_set ?_ GE452.out | refine below_set ?_ GE454.out) | exact HB.out)⟩
                  (try clear HO448)
                  (try clear BK442)
                  (try clear BK452)
                  (try clear BK454)
                  (try clear HB)
                  generalize (((w55.setCell ⟨gb454, 0, none⟩ (.int .i64 ((rd_T57 l0_1 0).f0))).setCell ⟨gb454, 1, none⟩ (.int .i64 ((rd_T57 l0_1 0).f1))).setCell ⟨gb454, 2, none⟩ (.int .i64 ((rd_T57 l0_1 0).f2))) = w59 at n0_ n1_ n2_ n3_ n4_ ⊢
                  have HO448 := n0_
                  have BK442 := n1_
                  have BK452 := n2_
                  have BK454 := n3_
                  have HB := n4_
                  clear n0_ n1_ n2_ n3_ n4_
                  have n0_ := Aside0.mk (Kd.R_drew HO448.out)
                  have n1_ := Aside0.mk (blk_drew BK442.out)
                  have n2_ := Aside0.mk (blk_drew BK452.out)
                  have n3_ := Aside0.mk (blk_drew BK454.out)
                  have n4_ := Aside0.mk (below_drew1 HB.out)
                  clear HO448
                  clear BK442
                  clear BK452
                  clear BK454
                  clear HB
                  have HO448 := n0_
                  have BK442 := n1_
                  have BK452 := n2_
                  have BK454 := n3_
                  have HB := n4_
                  clear n0_ n1_ n2_ n3_ n4_
                  refine start_ (n := 30) (S := fun w' => w'.cell? ⟨gb452, 0, none⟩ = some (.int .i64 t449) ∧ w'.cell? ⟨gb452, 1, none⟩ = some (.int .i64 t450) ∧ w'.cell? ⟨gb454, 0, none⟩ = some (.int .i64 ((rd_T57 l0_1 0).f0)) ∧ w'.cell? ⟨gb454, 1, none⟩ = some (.int .i64 ((rd_T57 l0_1 0).f1)) ∧ w'.cell? ⟨gb454, 2, none⟩ = some (.int .i64 ((rd_T57 l0_1 0).f2)) ∧ w'.cell? ⟨gb442, 0, none⟩ = some (.int .i64 a0_0) ∧ w'.cell? ⟨gb442, 1, none⟩ = some (.slice (some ad453) l0_1.length c0_1)) (ds := []) #[false, false, false, false, false, false, false, false, false, false, false, false, false, false, false, false, false, false, false, false, false, false, false, false, false, false, false, false, false, false] (by kernel_rfl) rfl rfl ⟨(blk_cell BK452.out 0).trans rfl, (blk_cell BK452.out 1).trans rfl, (blk_cell BK454.out 0).trans rfl, (blk_cell BK454.out 1).trans rfl, (blk_cell BK454.out 2).trans rfl, (blk_cell BK442.out 0).trans rfl, (blk_cell BK442.out 1).trans rfl⟩ (fun hHeld => ?_); refine with_tabW tensilelaw09_PlanBetween.tab5 tensilelaw09_PlanBetween.bits5 (fun HT_ HW_ => ?_)
                  generalize w59.drew = w60 at HO448 BK442 BK452 BK454 HB hHeld ⊢
                  refine pure_ (i := 0) (N := some 28) (v := ?_) (a' := ?_) #[true, false, false, false, false, false, false, false, false, false, false, false, false, false, false, false, false, false, false, false, false, false, false, false, false, false, false, false, false, false] rfl rfl (any_of HT_.out (by kernel_rfl)) (fun _ _ _ h => h) (Or.inl ⟨by rfl, ?_⟩) ?_ ?_
                  rotate_left
                  · intro w'
                    go_simp
                    with_reducible rfl
                  rotate_left
                  · simp only [Act.put, List.setIfInBounds_toArray, List.set_cons_zero, List.set_cons_succ, i64_w, i32_w]
                    rfl
                  refine pure_ (i := 1) (N := some 29) (v := ?_) (a' := ?_) #[true, true, false, false, false, false, false, false, false, false, false, false, false, false, false, false, false, false, false, false, false, false, false, false, false, false, false, false, false, false] rfl rfl (any_of HT_.out (by kernel_rfl)) (fun _ _ _ h => h) (Or.inl ⟨by rfl, ?_⟩) ?_ ?_
                  rotate_left
                  · intro w'
                    go_simp
                    with_reducible rfl
                  rotate_left
                  · simp only [Act.put, List.setIfInBounds_toArray, List.set_cons_zero, List.set_cons_succ, i64_w, i32_w]
                    rfl
                  refine pure_ (i := 2) (N := some 30) (v := ?_) (a' := ?_) #[true, true, true, false, false, false, false, false, false, false, false, false, false, false, false, false, false, false, false, false, false, false, false, false, false, false, false, false, false, false] rfl rfl (any_of HT_.out (by kernel_rfl)) (fun _ _ _ h => h) (Or.inl ⟨by rfl, ?_⟩) ?_ ?_
                  rotate_left
                  · intro w'
                    go_simp
                    with_reducible rfl
                  rotate_left
                  · simp only [Act.put, List.setIfInBounds_toArray, List.set_cons_zero, List.set_cons_succ, i64_w, i32_w]
                    rfl
                  refine pure_ (i := 3) (N := some 31) (v := ?_) (a' := ?_) #[true, true, true, true, false, false, false, false, false, false, false, false, false, false, false, false, false, false, false, false, false, false, false, false, false, false, false, false, false, false] rfl rfl (any_of HT_.out (by kernel_rfl)) (fun _ _ _ h => h) (Or.inl ⟨by rfl, ?_⟩) ?_ ?_
                  rotate_left
                  · intro w'
                    go_simp
                    with_reducible rfl
                  rotate_left
                  · simp only [Act.put, List.setIfInBounds_toArray, List.set_cons_zero, List.set_cons_succ, i64_w, i32_w]
                    rfl
                  refine take_ (i := 4) (N := some 32) (v := ?_) (a' := ?_) #[true, true, true, true, true, false, false, false, false, false, false, false, false, false, false, false, false, false, false, false, false, false, false, false, false, false, false, false, false, false] rfl rfl (take_ofW HT_.out HW_.out (by kernel_rfl)) (fun _ _ _ h => h) (Or.inl ⟨by rfl, ?_⟩) hHeld ?_ ?_
                  rotate_left
                  · rintro w' ⟨s0, s1, s2, s3, s4, s5, s6⟩
                    go_simp
                    with_reducible rfl
                  rotate_left
                  · simp only [Act.put, List.setIfInBounds_toArray, List.set_cons_zero, List.set_cons_succ, i64_w, i32_w]
                    rfl
                  refine pure_ (i := 5) (N := some 33) (v := ?_) (a' := ?_) #[true, true, true, true, true, true, false, false, false, false, false, false, false, false, false, false, false, false, false, false, false, false, false, false, false, false, false, false, false, false] rfl rfl (any_of HT_.out (by kernel_rfl)) (fun _ _ _ h => h) (Or.inl ⟨by rfl, ?_⟩) ?_ ?_
                  rotate_left
                  · intro w'
                    go_simp
                    with_reducible rfl
                  rotate_left
                  · simp only [Act.put, List.setIfInBounds_toArray, List.set_cons_zero, List.set_cons_succ, i64_w, i32_w]
                    rfl
                  refine pure_ (i := 6) (N := some 34) (v := ?_) (a' := ?_) #[true, true, true, true, true, true, true, false, false, false, false, false, false, false, false, false, false, false, false, false, false, false, false, false, false, false, false, false, false, false] rfl rfl (any_of HT_.out (by kernel_rfl)) (fun _ _ _ h => h) (Or.inl ⟨by rfl, ?_⟩) ?_ ?_
                  rotate_left
                  · intro w'
                    go_simp
                    with_reducible rfl
                  rotate_left
                  · simp only [Act.put, List.setIfInBounds_toArray, List.set_cons_zero, List.set_cons_succ, i64_w, i32_w]
                    rfl
                  refine pure_ (i := 7) (N := some 35) (v := ?_) (a' := ?_) #[true, true, true, true, true, true, true, true, false, false, false, false, false, false, false, false, false, false, false, false, false, false, false, false, false, false, false, false, false, false] rfl rfl (any_of HT_.out (by kernel_rfl)) (fun _ _ _ h => h) (Or.inl ⟨by rfl, ?_⟩) ?_ ?_
                  rotate_left
                  · intro w'
                    go_simp
                    with_reducible rfl
                  rotate_left
                  · simp only [Act.put, List.setIfInBounds_toArray, List.set_cons_zero, List.set_cons_succ, i64_w, i32_w]
                    rfl
                  refine pure_ (i := 8) (N := some 36) (v := ?_) (a' := ?_) #[true, true, true, true, true, true, true, true, true, false, false, false, false, false, false, false, false, false, false, false, false, false, false, false, false, false, false, false, false, false] rfl rfl (any_of HT_.out (by kernel_rfl)) (fun _ _ _ h => h) (Or.inl ⟨by rfl, ?_⟩) ?_ ?_
                  rotate_left
                  · intro w'
                    go_simp
                    with_reducible rfl
                  rotate_left
                  · simp only [Act.put, List.setIfInBounds_toArray, List.set_cons_zero, List.set_cons_succ, i64_w, i32_w]
                    rfl
                  refine pure_ (i := 10) (N := some 38) (v := ?_) (a' := ?_) #[true, true, true, true, true, true, true, true, true, false, true, false, false, false, false, false, false, false, false, false, false, false, false, false, false, false, false, false, false, false] rfl rfl (any_of HT_.out (by kernel_rfl)) (fun _ _ _ h => h) (Or.inl ⟨by rfl, ?_⟩) ?_ ?_
                  rotate_left
                  · intro w'
                    go_simp
                    with_reducible rfl
                  rotate_left
                  · simp only [Act.put, List.setIfInBounds_toArray, List.set_cons_zero, List.set_cons_succ, i64_w, i32_w]
                    rfl
                  refine pure_ (i := 12) (N := some 40) (v := ?_) (a' := ?_) #[true, true, true, true, true, true, true, true, true, false, true, false, true, false, false, false, false, false, false, false, false, false, false, false, false, false, false, false, false, false] rfl rfl (any_of HT_.out (by kernel_rfl)) (fun _ _ _ h => h) (Or.inl ⟨by rfl, ?_⟩) ?_ ?_
                  rotate_left
                  · intro w'
                    go_simp
                    with_reducible rfl
                  rotate_left
                  · simp only [Act.put, List.setIfInBounds_toArray, List.set_cons_zero, List.set_cons_succ, i64_w, i32_w]
                    rfl
                  refine take_ (i := 9) (N := some 37) (v := ?_) (a' := ?_) #[true, true, true, true, true, true, true, true, true, true, true, false, true, false, false, false, false, false, false, false, false, false, false, false, false, false, false, false, false, false] rfl rfl (take_ofW HT_.out HW_.out (by kernel_rfl)) (fun _ _ _ h => h) (Or.inl ⟨by rfl, ?_⟩) hHeld ?_ ?_
                  rotate_left
                  · rintro w' ⟨s0, s1, s2, s3, s4, s5, s6⟩
                    go_simp
                    with_reducible rfl
                  rotate_left
                  · simp only [Act.put, List.setIfInBounds_toArray, List.set_cons_zero, List.set_cons_succ, i64_w, i32_w]
                    rfl
                  refine take_ (i := 11) (N := some 39) (v := ?_) (a' := ?_) #[true, true, true, true, true, true, true, true, true, true, true, true, true, false, false, false, false, false, false, false, false, false, false, false, false, false, false, false, false, false] rfl rfl (take_ofW HT_.out HW_.out (by kernel_rfl)) (fun _ _ _ h => h) (Or.inl ⟨by rfl, ?_⟩) hHeld ?_ ?_
                  rotate_left
                  · rintro w' ⟨s0, s1, s2, s3, s4, s5, s6⟩
                    go_simp
                    with_reducible rfl
                  rotate_left
                  · simp only [Act.put, List.setIfInBounds_toArray, List.set_cons_zero, List.set_cons_succ, i64_w, i32_w]
                    rfl
                  refine take_ (i := 13) (N := some 41) (v := ?_) (a' := ?_) #[true, true, true, true, true, true, true, true, true, true, true, true, true, true, false, false, false, false, false, false, false, false, false, false, false, false, false, false, false, false] rfl rfl (take_ofW HT_.out HW_.out (by kernel_rfl)) (fun _ _ _ h => h) (Or.inl ⟨by rfl, ?_⟩) hHeld ?_ ?_
                  rotate_left
                  · rintro w' ⟨s0, s1, s2, s3, s4, s5, s6⟩
                    go_simp
                    with_reducible rfl
                  rotate_left
                  · simp only [Act.put, List.setIfInBounds_toArray, List.set_cons_zero, List.set_cons_succ, i64_w, i32_w]
                    rfl
                  refine pure_ (i := 14) (N := some 42) (v := ?_) (a' := ?_) #[true, true, true, true, true, true, true, true, true, true, true, true, true, true, true, false, false, false, false, false, false, false, false, false, false, false, false, false, false, false] rfl rfl (any_of HT_.out (by kernel_rfl)) (fun _ _ _ h => h) (Or.inl ⟨by rfl, ?_⟩) ?_ ?_
                  rotate_left
                  · intro w'
                    go_simp
                    with_reducible rfl
                  rotate_left
                  · simp only [Act.put, List.setIfInBounds_toArray, List.set_cons_zero, List.set_cons_succ, i64_w, i32_w]
                    rfl
                  refine pure_ (i := 15) (N := some 43) (v := ?_) (a' := ?_) #[true, true, true, true, true, true, true, true, true, true, true, true, true, true, true, true, false, false, false, false, false, false, false, false, false, false, false, false, false, false] rfl rfl (any_of HT_.out (by kernel_rfl)) (fun _ _ _ h => h) (Or.inl ⟨by rfl, ?_⟩) ?_ ?_
                  rotate_left
                  · intro w'
                    go_simp
                    with_reducible rfl
                  rotate_left
                  · simp only [Act.put, List.setIfInBounds_toArray, List.set_cons_zero, List.set_cons_succ, i64_w, i32_w]
                    rfl
                  refine pure_ (i := 16) (N := some 44) (v := ?_) (a' := ?_) #[true, true, true, true, true, true, true, true, true, true, true, true, true, true, true, true, true, false, false, false, false, false, false, false, false, false, false, false, false, false] rfl rfl (any_of HT_.out (by kernel_rfl)) (fun _ _ _ h => h) (Or.inl ⟨by rfl, ?_⟩) ?_ ?_
                  rotate_left
                  · intro w'
                    go_simp
                    with_reducible rfl
                  rotate_left
                  · simp only [Act.put, List.setIfInBounds_toArray, List.set_cons_zero, List.set_cons_succ, i64_w, i32_w]
                    rfl
                  refine pure_ (i := 17) (N := some 45) (v := ?_) (a' := ?_) #[true, true, true, true, true, true, true, true, true, true, true, true, true, true, true, true, true, true, false, false, false, false, false, false, false, false, false, false, false, false] rfl rfl (any_of HT_.out (by kernel_rfl)) (fun _ _ _ h => h) (Or.inl ⟨by rfl, ?_⟩) ?_ ?_
                  rotate_left
                  · intro w'
                    go_simp
                    with_reducible rfl
                  rotate_left
                  · simp only [Act.put, List.setIfInBounds_toArray, List.set_cons_zero, List.set_cons_succ, i64_w, i32_w]
                    rfl
                  refine pure_ (i := 18) (N := some 46) (v := ?_) (a' := ?_) #[true, true, true, true, true, true, true, true, true, true, true, true, true, true, true, true, true, true, true, false, false, false, false, false, false, false, false, false, false, false] rfl rfl (any_of HT_.out (by kernel_rfl)) (fun _ _ _ h => h) (Or.inl ⟨by rfl, ?_⟩) ?_ ?_
                  rotate_left
                  · intro w'
                    go_simp
                    with_reducible rfl
                  rotate_left
                  · simp only [Act.put, List.setIfInBounds_toArray, List.set_cons_zero, List.set_cons_succ, i64_w, i32_w]
                    rfl
                  refine pure_ (i := 21) (N := some 49) (v := ?_) (a' := ?_) #[true, true, true, true, true, true, true, true, true, true, true, true, true, true, true, true, true, true, true, false, false, true, false, false, false, false, false, false, false, false] rfl rfl (any_of HT_.out (by kernel_rfl)) (fun _ _ _ h => h) (Or.inl ⟨by rfl, ?_⟩) ?_ ?_
                  rotate_left
                  · intro w'
                    go_simp
                    with_reducible rfl
                  rotate_left
                  · simp only [Act.put, List.setIfInBounds_toArray, List.set_cons_zero, List.set_cons_succ, i64_w, i32_w]
                    rfl
                  refine pure_ (i := 25) (N := some 53) (v := ?_) (a' := ?_) #[true, true, true, true, true, true, true, true, true, true, true, true, true, true, true, true, true, true, true, false, false, true, false, false, false, true, false, false, false, false] rfl rfl (any_of HT_.out (by kernel_rfl)) (fun _ _ _ h => h) (Or.inl ⟨by rfl, ?_⟩) ?_ ?_
                  rotate_left
                  · intro w'
                    go_simp
                    with_reducible rfl
                  rotate_left
                  · simp only [Act.put, List.setIfInBounds_toArray, List.set_cons_zero, List.set_cons_succ, i64_w, i32_w]
                    rfl
                  refine take_ (i := 19) (N := some 47) (v := ?_) (a' := ?_) #[true, true, true, true, true, true, true, true, true, true, true, true, true, true, true, true, true, true, true, true, false, true, false, false, false, true, false, false, false, false] rfl rfl (take_ofW HT_.out HW_.out (by kernel_rfl)) (fun _ _ _ h => h) (Or.inl ⟨by rfl, ?_⟩) hHeld ?_ ?_
                  rotate_left
                  · rintro w' ⟨s0, s1, s2, s3, s4, s5, s6⟩
                    go_simp
                    with_reducible rfl
                  rotate_left
                  · simp only [Act.put, List.setIfInBounds_toArray, List.set_cons_zero, List.set_cons_succ, i64_w, i32_w]
                    rfl
                  refine take_ (i := 20) (N := some 48) (v := ?_) (a' := ?_) #[true, true, true, true, true, true, true, true, true, true, true, true, true, true, true, true, true, true, true, true, true, true, false, false, false, true, false, false, false, false] rfl rfl (take_ofW HT_.out HW_.out (by kernel_rfl)) (fun _ _ _ h => h) (Or.inl ⟨by rfl, ?_⟩) hHeld ?_ ?_
                  rotate_left
                  · rintro w' ⟨s0, s1, s2, s3, s4, s5, s6⟩
                    go_simp
                    with_reducible rfl
                  rotate_left
                  · simp only [Act.put, List.setIfInBounds_toArray, List.set_cons_zero, List.set_cons_succ, i64_w, i32_w]
                    rfl
                  refine take_ (i := 22) (N := some 50) (v := ?_) (a' := ?_) #[true, true, true, true, true, true, true, true, true, true, true, true, true, true, true, true, true, true, true, true, true, true, true, false, false, true, false, false, false, false] rfl rfl (take_ofW HT_.out HW_.out (by kernel_rfl)) (fun _ _ _ h => h) (Or.inl ⟨by rfl, ?_⟩) hHeld ?_ ?_
                  rotate_left
                  · rintro w' ⟨s0, s1, s2, s3, s4, s5, s6⟩
                    go_simp
                    with_reducible rfl
                  rotate_left
                  · simp only [Act.put, List.setIfInBounds_toArray, List.set_cons_zero, List.set_cons_succ, i64_w, i32_w]
                    rfl
                  refine pure_ (i := 23) (N := some 51) (v := ?_) (a' := ?_) #[true, true, true, true, true, true, true, true, true, true, true, true, true, true, true, true, true, true, true, true, true, true, true, true, false, true, false, false, false, false] rfl rfl (any_of HT_.out (by kernel_rfl)) (fun _ _ _ h => h) (Or.inl ⟨by rfl, ?_⟩) ?_ ?_
                  rotate_left
                  · intro w'
                    go_simp
                    with_reducible rfl
                  rotate_left
                  · simp only [Act.put, List.setIfInBounds_toArray, List.set_cons_zero, List.set_cons_succ, i64_w, i32_w]
                    rfl
                  refine take_ (i := 26) (N := some 54) (v := ?_) (a' := ?_) #[true, true, true, true, true, true, true, true, true, true, true, true, true, true, true, true, true, true, true, true, true, true, true, true, false, true, true, false, false, false] rfl rfl (take_ofW HT_.out HW_.out (by kernel_rfl)) (fun _ _ _ h => h) (Or.inl ⟨by rfl, ?_⟩) hHeld ?_ ?_
                  rotate_left
                  · rintro w' ⟨s0, s1, s2, s3, s4, s5, s6⟩
                    go_simp
                    with_reducible rfl
                  rotate_left
                  · simp only [Act.put, List.setIfInBounds_toArray, List.set_cons_zero, List.set_cons_succ, i64_w, i32_w]
                    rfl
                  refine one_ (i := 24) (N := some 52) #[true, true, true, true, true, true, true, true, true, true, true, true, true, true, true, true, true, true, true, true, true, true, true, true, true, true, true, false, false, false] rfl rfl (one_of HT_.out (by kernel_rfl)) (by decide) (fun K hK => ?_)
                  refine goes_ Try.func29 (by kernel_rfl) rfl #[.agg #[.int .i64 a0_0, .slice (some ad453) l0_1.length c0_1], .int .i64 (l0_1.length : Int)] (by rfl) rfl rfl (by (try simp only [List.map_toArray, List.map_cons, List.map_nil]); first | done | rfl | (simp only [List.length_drop, List.length_take]; rfl)) ?_
                  with_reducible refine (tensilelaw09_takes.calls k a0_0 _ _ l0_1 (l0_1.length : Int) t455 _ ?side1 ?side2 A12.out).mono ?_
                  (case side1 => repeat (first | exact (Kd.C_below HR0_1.out HB.out) | (with_reducible refine Kd.C_alloc ?_ _) | (with_reducible refine Kd.C_drewN ?_ _) | (with_reducible refine Kd.C_drew ?_)))
                  (case side2 => exact HC0_1.out)
                  rintro e w61 ⟨rfl, hb⟩
                  refine ⟨_, rfl, ?_⟩
                  have n0_ := Aside0.mk (Kd.R_below (by (with_reducible repeat (first | apply Kd.R_alloc | apply Kd.R_drewN | apply Kd.R_drew)); exact HO448.out) hb)
                  have n1_ := Aside0.mk (blk_below (g := gb442) (o := .cells #[.int .i64 a0_0, .slice (some ad453) l0_1.length c0_1] 24 (0, 0)) (by (with_reducible repeat (first | refine blk_drewN ?_ _ | refine blk_drew ?_ | refine blk_alloc ?_ _)); exact BK442.out) hb)
                  have n2_ := Aside0.mk (blk_below (g := gb452) (o := .cells #[.int .i64 t449, .int .i64 t450] 34 (0, 0)) (by (with_reducible repeat (first | refine blk_drewN ?_ _ | refine blk_drew ?_ | refine blk_alloc ?_ _)); exact BK452.out) hb)
                  have n3_ := Aside0.mk (blk_below (g := gb454) (o := .cells #[.int .i64 ((rd_T57 l0_1 0).f0), .int .i64 ((rd_T57 l0_1 0).f1), .int .i64 ((rd_T57 l0_1 0).f2)] 57 (0, 0)) (by (with_reducible repeat (first | refine blk_drewN ?_ _ | refine blk_drew ?_ | refine blk_alloc ?_ _)); exact BK454.out) hb)
                  have n4_ := Aside0.mk (below_step (by repeat (first | (with_reducible first | exact HB.out | apply below_alloc | apply pw_below_drewN | apply below_drew1 | refine below_set ?_ GE442.out | refine below_set ?_ GE452.out | refine below_set ?_ GE454.out) | exact HB.out)) hb)
                  clear HO448
                  clear BK442
                  clear BK452
                  clear BK454
                  clear HB
                  have HO448 := n0_
                  have BK442 := n1_
                  have BK452 := n2_
                  have BK454 := n3_
                  have HB := n4_
                  clear n0_ n1_ n2_ n3_ n4_
                  (try clear hb)
                  (try clear hb2)
                  (try clear hk)
                  (try clear hi)
                  refine hK.out _ _ ⟨(blk_cell BK452.out 0).trans rfl, (blk_cell BK452.out 1).trans rfl, (blk_cell BK454.out 0).trans rfl, (blk_cell BK454.out 1).trans rfl, (blk_cell BK454.out 2).trans rfl, (blk_cell BK442.out 0).trans rfl, (blk_cell BK442.out 1).trans rfl⟩ (fun hHeld => ?_)
                  clear hK K
                  refine norm_ (a' := ?_) ?_ ?_
                  rotate_left
                  · show Act.put _ (some 52) _ = _
                    simp only [Act.put, List.setIfInBounds_toArray, List.set_cons_zero, List.set_cons_succ, i64_w, i32_w]
                    rfl
                  refine pure_ (i := 27) (N := some 55) (v := ?_) (a' := ?_) #[true, true, true, true, true, true, true, true, true, true, true, true, true, true, true, true, true, true, true, true, true, true, true, true, true, true, true, true, false, false] rfl rfl (any_of HT_.out (by kernel_rfl)) (fun _ _ _ h => h) (Or.inl ⟨by rfl, ?_⟩) ?_ ?_
                  rotate_left
                  · intro w'
                    go_simp
                    with_reducible rfl
                  rotate_left
                  · simp only [Act.put, List.setIfInBounds_toArray, List.set_cons_zero, List.set_cons_succ, i64_w, i32_w]
                    rfl
                  refine pure_ (i := 28) (N := some 56) (v := ?_) (a' := ?_) #[true, true, true, true, true, true, true, true, true, true, true, true, true, true, true, true, true, true, true, true, true, true, true, true, true, true, true, true, true, false] rfl rfl (any_of HT_.out (by kernel_rfl)) (fun _ _ _ h => h) (Or.inl ⟨by rfl, ?_⟩) ?_ ?_
                  rotate_left
                  · intro w'
                    go_simp
                    with_reducible rfl
                  rotate_left
                  · simp only [Act.put, List.setIfInBounds_toArray, List.set_cons_zero, List.set_cons_succ, i64_w, i32_w]
                    rfl
                  refine pure_ (i := 29) (N := some 57) (v := ?_) (a' := ?_) #[true, true, true, true, true, true, true, true, true, true, true, true, true, true, true, true, true, true, true, true, true, true, true, true, true, true, true, true, true, true] rfl rfl (any_of HT_.out (by kernel_rfl)) (fun _ _ _ h => h) (Or.inl ⟨by rfl, ?_⟩) ?_ ?_
                  rotate_left
                  · intro w'
                    go_simp
                    with_reducible rfl
                  rotate_left
                  · simp only [Act.put, List.setIfInBounds_toArray, List.set_cons_zero, List.set_cons_succ, i64_w, i32_w]
                    rfl
                  refine done_ (done_of HT_.out (by kernel_rfl)) ?_
                  have hcz62_0 : w61.cell? ⟨gb454, 0, none⟩ = some (.int .i64 ((rd_T57 l0_1 0).f0)) := (blk_cell BK454.out 0).trans rfl
                  have hcz62_1 : w61.cell? ⟨gb454, 1, none⟩ = some (.int .i64 ((rd_T57 l0_1 0).f1)) := (blk_cell BK454.out 1).trans rfl
                  have hcz62_2 : w61.cell? ⟨gb454, 2, none⟩ = some (.int .i64 ((rd_T57 l0_1 0).f2)) := (blk_cell BK454.out 2).trans rfl
                  have hfz62_0 := blk_frozen BK454.out 0
                  have hfz62_1 := blk_frozen BK454.out 1
                  have hfz62_2 := blk_frozen BK454.out 2
                  try go_wp2_with (first | (go_at_call 15; (with_reducible refine (tensilelaw09_wakes.calls  t457 _ A41.out).mono ?_); rintro e w63 ⟨rfl, hb⟩; have n0_ := Aside0.mk (Kd.R_below (by (with_reducible repeat (first | apply Kd.R_alloc | apply Kd.R_drewN | apply Kd.R_drew)); exact HO448.out) hb); have n1_ := Aside0.mk (blk_below (g := gb442) (o := .cells #[.int .i64 a0_0, .slice (some ad453) l0_1.length c0_1] 24 (0, 0)) (by (with_reducible repeat (first | refine blk_drewN ?_ _ | refine blk_drew ?_ | refine blk_alloc ?_ _)); exact BK442.out) hb); have n2_ := Aside0.mk (blk_below (g := gb452) (o := .cells #[.int .i64 t449, .int .i64 t450] 34 (0, 0)) (by (with_reducible repeat (first | refine blk_drewN ?_ _ | refine blk_drew ?_ | refine blk_alloc ?_ _)); exact BK452.out) hb); have n3_ := Aside0.mk (blk_below (g := gb454) (o := .cells #[.int .i64 ((rd_T57 l0_1 0).f0), .int .i64 ((rd_T57 l0_1 0).f1), .int .i64 ((rd_T57 l0_1 0).f2)] 57 (0, 0)) (by (with_reducible repeat (first | refine blk_drewN ?_ _ | refine blk_drew ?_ | refine blk_alloc ?_ _)); exact BK454.out) hb); have n4_ := Aside0.mk (below_step (by repeat (first | (with_reducible first | exact HB.out | apply below_alloc | apply pw_below_drewN | apply below_drew1 | refine below_set ?_ GE442.out | refine below_set ?_ GE452.out | refine below_set ?_ GE454.out) | exact HB.out)) hb); clear HO448; clear BK442; clear BK452; clear BK454; clear HB; have HO448 := n0_; have BK442 := n1_; have BK452 := n2_; have BK454 := n3_; have HB := n4_; clear n0_ n1_ n2_ n3_ n4_; (try clear hb); (try clear hb2); (try clear hk); (try clear hi)))
                  go_ret
                  exact ⟨by first | rfl | (simp [errW_none, errW_some] <;> rfl) | (simp [*, errW_none, errW_some] <;> rfl), by repeat (first | (with_reducible first | exact HB.out | apply below_alloc | apply pw_below_drewN | apply below_drew1 | refine below_set ?_ GE442.out | refine below_set ?_ GE452.out | refine below_set ?_ GE454.out) | exact HB.out)⟩
        · rw [if_neg c9] at H
          have c9b0 : (t451 == 0) = false := beq_eq_false_iff_ne.mpr c9
          have c9b1 : (t451 != 0) = true := bne_iff_ne.mpr c9
          exact absurd H (by simp)
      · rw [if_neg c8] at H
        exact absurd H (by simp)
  · replace c4 := Bool.eq_false_iff.mpr c4
    subst c4
    have H1 : ((tensilelaw09_wakes.f).bind fun t444 => (some t444)) = some r := by rw [if_neg (show ¬ (false = true) by decide)] at H; exact H
    clear H
    have H := H1
    clear H1
    replace H := Option.bind_eq_some_iff.mp H
    obtain ⟨t444, A640, H⟩ := H
    replace H : (some t444) = some r := H
    have A64 := Aside0.mk A640
    clear A640
    obtain rfl := Option.some.inj H
    go_enter Try.func9, Try.ntmps9
    go_wp2_with (first | ((with_reducible refine gate_dst (N := 2) rfl ?_); (try (refine gate_guard (by rfl) ?_; dsimp only)); refine box_event ?hg (N := 2) ?hd (cs := #[.int .i64 a0_0, .slice A0_1 l0_1.length c0_1]) (t := 24) ?hr ?_; (case hd => rfl); (case hg => rfl); (case hr => first | (go_simp; done) | (go_simp; rfl)); intro gb442 hg w65 hbox hb; have n0_ := Aside0.mk (below_step (by repeat (first | (with_reducible first | exact HB.out | apply below_alloc | apply pw_below_drewN | apply below_drew1) | exact HB.out)) hb); have n1_ := Aside0.mk (hbox); have n2_ := Aside0.mk ((by rw [hg]; exact (below_size (by repeat (first | (with_reducible first | exact HB.out | apply below_alloc | apply pw_below_drewN | apply below_drew1) | exact HB.out))) : w.heap.size ≤ gb442)); have n3_ := Aside0.mk ((by rw [hg]; exact (below_size (by repeat (first | (with_reducible first | exact HB.out | apply below_alloc | apply pw_below_drewN | apply below_drew1) | exact HB.out))) : w.heap.size ≤ gb442)); clear HB; have HB := n0_; have BK442 := n1_; have GW442 := n2_; have GE442 := n3_; clear n0_ n1_ n2_ n3_; clear hb hbox hg; have hcz66_0 : w65.cell? ⟨gb442, 0, none⟩ = some (.int .i64 a0_0) := (blk_cell BK442.out 0).trans rfl; have hcz66_1 : w65.cell? ⟨gb442, 1, none⟩ = some (.slice A0_1 l0_1.length c0_1) := (blk_cell BK442.out 1).trans rfl; have hfz66_0 := blk_frozen BK442.out 0; have hfz66_1 := blk_frozen BK442.out 1) | ((with_reducible refine gate_callee (f := 26) rfl ?_); refine goesL_ (some 9) rfl rfl Try.func26 (by kernel_rfl) rfl #[.agg #[.int .i64 a0_0, .slice A0_1 l0_1.length c0_1]] rfl (by (try simp only [List.map_toArray, List.map_cons, List.map_nil]); first | done | rfl | (simp only [List.length_drop, List.length_take]; rfl)) ?_; (with_reducible refine (tensilelaw09_ready.calls k a0_0 _ _ l0_1 false _ ?side1 ?side2 A3.out).mono ?_); (case side1 => repeat (first | exact (Kd.C_below HR0_1.out HB.out) | (with_reducible refine Kd.C_alloc ?_ _) | (with_reducible refine Kd.C_drewN ?_ _) | (with_reducible refine Kd.C_drew ?_))); (case side2 => exact HC0_1.out); rintro e w67 ⟨rfl, hb⟩; refine ⟨_, rfl, ?_⟩; have n0_ := Aside0.mk (blk_below (g := gb442) (o := .cells #[.int .i64 a0_0, .slice A0_1 l0_1.length c0_1] 24 (0, 0)) (by (with_reducible repeat (first | refine blk_drewN ?_ _ | refine blk_drew ?_ | refine blk_alloc ?_ _)); exact BK442.out) hb); have n1_ := Aside0.mk (below_step (by repeat (first | (with_reducible first | exact HB.out | apply below_alloc | apply pw_below_drewN | apply below_drew1 | refine below_set ?_ GE442.out) | exact HB.out)) hb); clear BK442; clear HB; have BK442 := n0_; have HB := n1_; clear n0_ n1_; (try clear hb); (try clear hb2); (try clear hk); (try clear hi)) | ((with_reducible refine gate_callee (f := 15) rfl ?_); refine goesL_ (some 11) rfl rfl Try.func15 (by kernel_rfl) rfl #[] rfl (by (try simp only [List.map_toArray, List.map_cons, List.map_nil]); first | done | rfl | (simp only [List.length_drop, List.length_take]; rfl)) ?_; (with_reducible refine (tensilelaw09_wakes.calls  t444 _ A64.out).mono ?_); rintro e w68 ⟨rfl, hb⟩; refine ⟨_, rfl, ?_⟩; have n0_ := Aside0.mk (blk_below (g := gb442) (o := .cells #[.int .i64 a0_0, .slice A0_1 l0_1.length c0_1] 24 (0, 0)) (by (with_reducible repeat (first | refine blk_drewN ?_ _ | refine blk_drew ?_ | refine blk_alloc ?_ _)); exact BK442.out) hb); have n1_ := Aside0.mk (below_step (by repeat (first | (with_reducible first | exact HB.out | apply below_alloc | apply pw_below_drewN | apply below_drew1 | refine below_set ?_ GE442.out) | exact HB.out)) hb); clear BK442; clear HB; have BK442 := n0_; have HB := n1_; clear n0_ n1_; (try clear hb); (try clear hb2); (try clear hk); (try clear hi)))
    go_ret
    exact ⟨by first | rfl | (simp [errW_none, errW_some] <;> rfl) | (simp [*, errW_none, errW_some] <;> rfl), by repeat (first | (with_reducible first | exact HB.out | apply below_alloc | apply pw_below_drewN | apply below_drew1 | refine below_set ?_ GE442.out) | exact HB.out)⟩

end Go.Proofs.Ytigpnafpdmdmhaa.P

namespace Go.Proofs.Ytigpnafpdmdmhaa.Pure
open Go.RowKit Go.Proofs.Ytigpnafpdmdmhaa.P

/-- A stage of the reference as the program's. -/
def c61 (s : S57) : S61 := ⟨s.f0, s.f1, s.f2⟩
/-- A stage of the reference as the hand contracts tell it. -/
def cSt (s : S57) : Hand.Stg := ⟨s.f0, s.f1, s.f2⟩
theorem toStg_c61 (l : List S57) : toStg (l.map c61) = l.map cSt := by
  unfold toStg
  rw [List.map_map]
  rfl

theorem plan_f (a : Int) (l : List S57) (hl : l.length ≤ 5) : ∀ k, 7 ≤ k → tensilelaw09_Plan.f k a l = some (a, l.map c61) := by
  intro k hk
  obtain ⟨k, rfl⟩ : ∃ m, k = m + 7 := ⟨k - 7, by omega⟩
  match l, hl with
  | [], _ => rfl
  | [_], _ => simp [tensilelaw09_Plan.f, tensilelaw09_Plan.l0, rd_T57, c61, wrap64]
  | [_, _], _ => simp [tensilelaw09_Plan.f, tensilelaw09_Plan.l0, rd_T57, c61, wrap64]
  | [_, _, _], _ => simp [tensilelaw09_Plan.f, tensilelaw09_Plan.l0, rd_T57, c61, wrap64]
  | [_, _, _, _], _ => simp [tensilelaw09_Plan.f, tensilelaw09_Plan.l0, rd_T57, c61, wrap64]
  | [_, _, _, _, _], _ => simp [tensilelaw09_Plan.f, tensilelaw09_Plan.l0, rd_T57, c61, wrap64]

theorem fits_in {n : Int} (h : Fits n) : -9223372036854775808 ≤ n ∧ n ≤ 9223372036854775807 := by
  unfold Fits Lit.wf at h
  rw [Bool.and_eq_true, decide_eq_true_eq, decide_eq_true_eq] at h
  exact h

/-- What the reference's loop asks of each stage. -/
def okFrom (lot : Int) : Int → Option S57 → List S57 → Prop
  | _, _, [] => True
  | taken, prev, s :: l => (1 ≤ s.f0 ∧ s.f0 ≤ 30 ∧ taken + s.f0 ≤ lot) ∧ (-1 ≤ s.f1 ∧ s.f1 ≤ 30) ∧ (s.f1 < s.f2 ∧ s.f2 ≤ taken + s.f0 + 1) ∧ (∀ p, prev = some p → p.f1 ≤ s.f1 ∧ p.f2 ≤ s.f2) ∧ (l = [] → s.f2 = s.f1 + 1) ∧ okFrom lot (taken + s.f0) (some s) l

instance okDec (lot : Int) : ∀ (l : List S57) (taken : Int) (prev : Option S57), Decidable (okFrom lot taken prev l)
  | [], _, _ => isTrue trivial
  | s :: l, taken, prev => by
    have := okDec lot l (taken + s.f0) (some s)
    have h2 : Decidable (∀ p, prev = some p → p.f1 ≤ s.f1 ∧ p.f2 ≤ s.f2) := match prev with
      | none => isTrue (fun _ h => by cases h)
      | some p => if h : p.f1 ≤ s.f1 ∧ p.f2 ≤ s.f2 then isTrue (fun q hq => by cases hq; exact h) else isFalse (fun hq => h (hq p rfl))
    have h3 : Decidable (l = []) := match l with
      | [] => isTrue rfl
      | _ :: _ => isFalse (fun h => by cases h)
    unfold okFrom
    infer_instance

end Go.Proofs.Ytigpnafpdmdmhaa.Pure

namespace Go.Proofs.Ytigpnafpdmdmhaa.Pure
open Go.RowKit Go.Proofs.Ytigpnafpdmdmhaa.P
open Hand (Stg)

theorem In_f (a b c : Int) : tensileref09_In.f a b c = some (decide (b ≤ a ∧ a ≤ c)) := by
  unfold tensileref09_In.f
  split
  · rename_i h; simp [show b ≤ a from h]
  · rename_i h; simp [show ¬ b ≤ a from h]

theorem rd_pre (pre : List S57) (s : S57) (suf : List S57) : rd_T57 (pre ++ s :: suf) (pre.length : Int) = s := by
  unfold rd_T57
  rw [Int.toNat_natCast, List.getD_eq_getElem?_getD, List.getElem?_append_right (Nat.le_refl _), Nat.sub_self]
  rfl

/-- What is asked of the stages, from so many pieces and the limits of the stage before on. -/
def good (lot : Int) : Int → Int → Int → List Stg → Prop
  | _, _, _, [] => True
  | t, pa, pr, s :: l => (1 ≤ s.take ∧ t + s.take ≤ lot) ∧ (pa ≤ s.accept ∧ s.accept < s.reject ∧ s.reject ≤ t + s.take + 1 ∧ pr ≤ s.reject) ∧ (l = [] → s.reject = s.accept + 1) ∧ good lot (t + s.take) s.accept s.reject l

theorem good_cons (lot t pa pr : Int) (s : Stg) (l : List Stg) : good lot t pa pr (s :: l) ↔ ((1 ≤ s.take ∧ t + s.take ≤ lot) ∧ (pa ≤ s.accept ∧ s.accept < s.reject ∧ s.reject ≤ t + s.take + 1 ∧ pr ≤ s.reject) ∧ (l = [] → s.reject = s.accept + 1) ∧ good lot (t + s.take) s.accept s.reject l) := Iff.rfl
theorem if_iff {P Q : Prop} [Decidable P] [Decidable Q] {α : Type} {x y : α} (h : P ↔ Q) : (if P then x else y) = if Q then x else y := by
  by_cases hp : P
  · rw [if_pos hp, if_pos (h.1 hp)]
  · rw [if_neg hp, if_neg (fun hq => hp (h.2 hq))]
theorem good_take {lot : Int} : ∀ {l : List Stg} {t pa pr : Int}, good lot t pa pr l → ∀ s ∈ l, 1 ≤ s.take
  | _ :: _, _, _, _, h, s, hs => by
    rcases List.mem_cons.1 hs with rfl | hs
    · exact h.1.1
    · exact good_take h.2.2.2 s hs

open Classical in
theorem fault_l0 (a : Int) (ha : a ≤ 30) : ∀ (suf pre : List S57) (k : Nat) (t pa pr : Int), 5 * suf.length + 5 ≤ k → (pre ++ suf).length ≤ 3 → 0 ≤ t → t ≤ a →
    (pre = [] ∧ pa = -1 ∧ pr = 0 ∨ ∃ pre' p, pre = pre' ++ [p] ∧ p.f1 = pa ∧ p.f2 = pr) → -1 ≤ pa → 0 ≤ pr → (∀ s ∈ suf, Fits s.f0 ∧ Fits s.f1 ∧ Fits s.f2) →
    tensileref09_Fault.l0 k t (pre.length : Int) a (pre ++ suf) = some (if good a t pa pr (suf.map cSt) then 0 else 1) := by
  intro suf
  induction suf with
  | nil =>
    intro pre k t pa pr hk _ _ _ _ _ _ _
    obtain ⟨k, rfl⟩ : ∃ m, k = m + 1 := ⟨k - 1, by omega⟩
    simp [tensileref09_Fault.l0, good]
  | cons s suf ih =>
    intro pre k t pa pr hk hlen ht ht30 hp hpa hpr hf
    obtain ⟨k, rfl⟩ : ∃ m, k = m + 5 := ⟨k - 5, by omega⟩
    obtain ⟨f0, f1, f2⟩ := hf s (by simp)
    have b0 := fits_in f0
    have b1 := fits_in f1
    have b2 := fits_in f2
    have hlt : (pre.length : Int) < ((pre ++ s :: suf).length : Int) := by simp; omega
    have hl : ((pre ++ s :: suf).length : Int) = pre.length + suf.length + 1 := by simp; omega
    have hl3 : pre.length + suf.length + 1 ≤ 3 := by simpa [Nat.add_assoc] using hlen
    have hrec : ∀ (k' : Nat), 5 * suf.length + 5 ≤ k' → t + s.f0 ≤ a → 1 ≤ s.f0 → -1 ≤ s.f1 → 0 ≤ s.f2 →
        tensileref09_Fault.l0 k' (t + s.f0) ((pre.length : Int) + 1) a (pre ++ s :: suf) = some (if good a (t + s.f0) s.f1 s.f2 (suf.map cSt) then 0 else 1) := fun k' h1 h2 h3 h4 h5 => by
      have := ih (pre ++ [s]) k' (t + s.f0) s.f1 s.f2 h1 (by simpa using hlen) (by omega) h2 (.inr ⟨pre, s, rfl, rfl, rfl⟩) h4 h5 (fun x hx => hf x (by simp [hx]))
      simpa using this
    have hlast : ((pre.length : Int) = wrap64 (((pre ++ s :: suf).length : Int) - 1)) ↔ suf = [] := by
      rw [hl, show wrap64 ((pre.length : Int) + suf.length + 1 - 1) = (pre.length : Int) + suf.length by unfold wrap64; omega, ← List.length_eq_zero_iff]
      omega
    have hmid : ∀ m, tensileref09_Fault.j4 (m + 1) (t + s.f0) (pre.length : Int) false a (pre ++ s :: suf) s.f0 s.f1 s.f2 = (if (suf = [] → s.f2 = wrap64 (s.f1 + 1)) then tensileref09_Fault.l0 m (t + s.f0) ((pre.length : Int) + 1) a (pre ++ s :: suf) else some 1) := fun m => by
      rw [tensileref09_Fault.j4, if_neg (by decide), show wrap64 ((pre.length : Int) + 1) = (pre.length : Int) + 1 by unfold wrap64; omega]
      by_cases h : suf = []
      · rw [if_pos (hlast.2 h)]
        simp [h]
      · rw [if_neg (fun e => h (hlast.1 e))]
        simp [h]
    have hj4 : ∀ m, tensileref09_Fault.j4 (m + 1) (t + s.f0) (pre.length : Int) true a (pre ++ s :: suf) s.f0 s.f1 s.f2 = some 1 := fun m => by
      rw [tensileref09_Fault.j4, if_pos rfl]
    have hj3 : ∀ m, tensileref09_Fault.j3 (m + 2) (t + s.f0) (pre.length : Int) false a (pre ++ s :: suf) s.f0 s.f1 s.f2 = (if (pre ≠ [] → pa ≤ s.f1 ∧ pr ≤ s.f2) then tensileref09_Fault.j4 (m + 1) (t + s.f0) (pre.length : Int) false a (pre ++ s :: suf) s.f0 s.f1 s.f2 else some 1) := fun m => by
      rw [tensileref09_Fault.j3, if_neg (by decide)]
      rcases hp with ⟨rfl, -, -⟩ | ⟨pre', p, rfl, rfl, rfl⟩
      · simp
      · have hl3' : pre'.length + 1 + suf.length + 1 ≤ 3 := by simpa using hl3
        have e1 : wrap64 (((pre' ++ [p]).length : Int) - 1) = (pre'.length : Int) := by rw [List.length_append]; simp; unfold wrap64; omega
        have e2 : rd_T57 (pre' ++ [p] ++ s :: suf) (pre'.length : Int) = p := by
          rw [List.append_assoc]; exact rd_pre pre' p (s :: suf)
        rw [if_pos (by simp <;> omega), e1, e2, if_pos (by omega), if_pos (by simp <;> omega)]
        by_cases h1 : p.f1 ≤ s.f1
        · rw [if_neg (by omega)]
          by_cases h2 : p.f2 ≤ s.f2
          · rw [if_pos (fun _ => ⟨h1, h2⟩), decide_eq_false (by omega)]
          · rw [if_neg (fun h => h2 (h (by simp)).2), decide_eq_true (by omega), hj4]
        · rw [if_pos (by omega), if_neg (fun h => h1 (h (by simp)).1), hj4]
    rw [tensileref09_Fault.l0, if_pos hlt, if_pos (by omega), rd_pre, In_f, Option.bind_some, List.map_cons]
    have hc : good a t pa pr (cSt s :: suf.map cSt) ↔ ((1 ≤ s.f0 ∧ t + s.f0 ≤ a) ∧ (pa ≤ s.f1 ∧ s.f1 < s.f2 ∧ s.f2 ≤ t + s.f0 + 1 ∧ pr ≤ s.f2) ∧ (suf = [] → s.f2 = s.f1 + 1) ∧ good a (t + s.f0) s.f1 s.f2 (suf.map cSt)) := by
      have hm : (suf.map cSt = []) = (suf = []) := by simp
      rw [good_cons, hm]
      exact Iff.rfl
    have hP : ∀ {P : Prop} (x y : Option Int), ¬ P → (if P then x else y) = y := fun x y h => if_neg h
    by_cases h1 : 1 ≤ s.f0 ∧ s.f0 ≤ 30
    case neg =>
      rw [decide_eq_false h1, if_neg (by decide), tensileref09_Fault.j2, if_pos rfl, if_neg (fun h => h1 (by have := (hc.1 h).1; omega))]
    rw [decide_eq_true h1, if_pos rfl, show wrap64 (t + s.f0) = t + s.f0 by unfold wrap64; omega]
    by_cases h2 : t + s.f0 ≤ a
    case neg =>
      rw [decide_eq_true (by omega), tensileref09_Fault.j2, if_pos rfl, if_neg (fun h => h2 (hc.1 h).1.2)]
    rw [decide_eq_false (by omega), tensileref09_Fault.j2, if_neg (by decide), In_f, Option.bind_some, show wrap64 (t + s.f0) = t + s.f0 by unfold wrap64; omega, show wrap64 (t + s.f0 + 1) = t + s.f0 + 1 by unfold wrap64; omega]
    by_cases h3 : -1 ≤ s.f1 ∧ s.f1 ≤ 30
    case neg =>
      rw [decide_eq_false h3, if_neg (by decide), tensileref09_Fault.j3, if_pos rfl, if_neg (fun h => h3 (by have := (hc.1 h).2.1; omega))]
    rw [decide_eq_true h3, if_pos rfl]
    by_cases h4 : s.f1 < s.f2
    case neg =>
      rw [if_pos (by omega), tensileref09_Fault.j3, if_pos rfl, if_neg (fun h => h4 (hc.1 h).2.1.2.1)]
    rw [if_neg (by omega)]
    by_cases h5 : s.f2 ≤ t + s.f0 + 1
    case neg =>
      rw [decide_eq_true (by omega), tensileref09_Fault.j3, if_pos rfl, if_neg (fun h => h5 (hc.1 h).2.1.2.2.1)]
    rw [decide_eq_false (by omega), hj3]
    by_cases h6 : pre ≠ [] → pa ≤ s.f1 ∧ pr ≤ s.f2
    case neg =>
      rw [if_neg h6, if_neg (fun h => h6 (fun _ => ⟨(hc.1 h).2.1.1, (hc.1 h).2.1.2.2.2⟩))]
    have h6' : pa ≤ s.f1 ∧ pr ≤ s.f2 := by
      rcases hp with ⟨rfl, rfl, rfl⟩ | ⟨pre', p, rfl, rfl, rfl⟩
      · omega
      · exact h6 (by simp)
    rw [if_pos h6, hmid]
    have e7 : wrap64 (s.f1 + 1) = s.f1 + 1 := by unfold wrap64; omega
    rw [e7]
    by_cases h7 : suf = [] → s.f2 = s.f1 + 1
    case neg => rw [if_neg h7, if_neg (fun h => h7 (hc.1 h).2.2.1)]
    rw [if_pos h7, hrec _ (by simp at hk; omega) h2 h1.1 h3.1 (by omega)]
    congr 1
    exact if_iff ⟨fun h => hc.2 ⟨⟨h1.1, h2⟩, ⟨h6'.1, h4, h5, h6'.2⟩, h7, h⟩, fun h => (hc.1 h).2.2.2⟩

theorem chk_max (lot t : Int) : ∀ (l : List Stg) (t : Int) (last : Stg), last.accept = 9223372036854775807 → 0 ≤ last.reject → (∀ s ∈ l, s.accept ≤ 9223372036854775807) → Hand.chk lot t last l = 1
  | [], t, last, h, h2, _ => by
    unfold Hand.chk
    rw [h, if_neg (by unfold wrap64; omega)]
  | s :: l, t, last, h, h2, h3 => by
    unfold Hand.chk
    split; · rfl
    split; · rfl
    split; · rfl
    split
    · exact chk_max lot t l _ s (by have := h3 s (by simp); omega) (by omega) (fun x hx => h3 x (by simp [hx]))
    · rfl

open Classical in
theorem chk_good (lot : Int) (hl : lot ≤ 30) : ∀ (l : List Stg) (t : Int) (last : Stg), 0 ≤ t → t ≤ lot → -1 ≤ last.accept → 0 ≤ last.reject → (∀ s ∈ l, 1 ≤ s.take ∧ s.accept ≤ 9223372036854775807) → (l = [] → last.reject = last.accept + 1) → last.accept ≤ 30 →
    Hand.chk lot t last l = if good lot t last.accept last.reject l then 0 else 1
  | [], t, last, _, _, h1, _, _, h2, h3 => by
    have h2 := h2 rfl
    unfold Hand.chk good
    rw [if_pos trivial, h2, if_pos (by unfold wrap64; omega)]
  | s :: l, t, last, ht, ht2, h1, h2, h3, _, h4 => by
    obtain ⟨k1, k2⟩ := h3 s (by simp)
    have h3' : ∀ s ∈ l, 1 ≤ s.take ∧ s.accept ≤ 9223372036854775807 := fun x hx => h3 x (by simp [hx])
    unfold Hand.chk
    by_cases c1 : lot - t < s.take
    · rw [if_pos c1, if_neg (fun h => by have := h.1.2; omega)]
    rw [if_neg c1]
    by_cases c2 : s.accept < last.accept
    · rw [if_pos c2, if_neg (fun h => by have := h.2.1.1; omega)]
    rw [if_neg c2]
    by_cases c3 : s.reject < last.reject
    · rw [if_pos c3, if_neg (fun h => by have := h.2.1.2.2.2; omega)]
    rw [if_neg c3]
    by_cases c5 : s.accept = 9223372036854775807
    · have : ¬ good lot t last.accept last.reject (s :: l) := fun h => by have := h.2.1.2; omega
      rw [if_neg this]
      split
      · exact chk_max lot t l _ s c5 (by omega) (fun x hx => (h3' x hx).2)
      · rfl
    have e : wrap64 (s.accept + 1) = s.accept + 1 := by unfold wrap64; omega
    rw [e]
    by_cases c4 : s.accept + 1 ≤ s.reject ∧ s.reject ≤ t + s.take + 1
    case neg => rw [if_neg c4, if_neg (fun h => c4 (by have := h.2.1.2; omega))]
    rw [if_pos c4]
    by_cases c6 : l = [] → s.reject = s.accept + 1
    case neg =>
      rw [if_neg (fun h => c6 h.2.2.1)]
      obtain rfl : l = [] := Classical.byContradiction fun h => c6 (fun h' => absurd h' h)
      unfold Hand.chk
      rw [e, if_neg (fun h => c6 (fun _ => h))]
    rw [chk_good lot hl l (t + s.take) s (by omega) (by omega) (by omega) (by omega) h3' c6 (by omega)]
    exact if_iff ⟨fun h => ⟨⟨k1, by omega⟩, ⟨by omega, by omega, c4.2, by omega⟩, c6, h⟩, fun h => h.2.2.2⟩

theorem fault_f (a : Int) (l : List S57) (ha : Fits a) (hl : ∀ s ∈ l, Fits s.f0 ∧ Fits s.f1 ∧ Fits s.f2) (hlen : l.length ≤ 5) (k : Nat) (hk : 30 ≤ k) :
    tensileref09_Fault.f k a l = some (Hand.checkPlan a (l.map cSt)) := by
  classical
  unfold tensileref09_Fault.f Hand.checkPlan
  rw [List.length_map]
  by_cases h3 : 3 < l.length
  · rw [if_pos h3, if_pos (by omega)]
  rw [if_neg h3, if_neg (by omega), In_f, Option.bind_some]
  obtain ⟨k, rfl⟩ : ∃ m, k = m + 1 := ⟨k - 1, by omega⟩
  by_cases h1 : 1 ≤ a ∧ a ≤ 30
  case neg => rw [decide_eq_false h1, if_neg (by decide), tensileref09_Fault.j0, if_pos rfl, if_neg (fun h => h1 ⟨h.1, h.2.1⟩)]
  rw [decide_eq_true h1, if_pos rfl]
  by_cases h2 : l.length = 0
  · rw [tensileref09_Fault.j0, if_pos (by simp [h2]), if_neg (fun h => h.2.2.1 h2)]
  have e0 : ((l.length : Int) == 0) = false := by simpa using (by omega : ¬ ((l.length : Int) = 0))
  rw [tensileref09_Fault.j0, e0, if_neg (by decide)]
  have := fault_l0 a h1.2 l [] k 0 (-1) 0 (by omega) (by simpa using (by omega : l.length ≤ 3)) (by omega) (by omega) (.inl ⟨rfl, rfl, rfl⟩) (by omega) (by omega) hl
  have e1 : (([] : List S57).length : Int) = 0 := rfl
  rw [e1, List.nil_append] at this
  rw [this]
  congr 1
  by_cases h4 : (l.map cSt).all (fun s => decide (1 ≤ s.take)) = true
  · rw [if_pos (show 1 ≤ a ∧ a ≤ 30 ∧ l.length ≠ 0 ∧ (l.map cSt).all (fun s => decide (1 ≤ s.take)) = true from ⟨h1.1, h1.2, h2, h4⟩)]
    refine (chk_good a h1.2 (l.map cSt) 0 ⟨0, -1, 0⟩ (by omega) (by omega) (by decide) (by decide) ?_ (fun h => ?_) (by decide)).symm
    · intro s hs
      refine ⟨by simpa using List.all_eq_true.1 h4 s hs, ?_⟩
      obtain ⟨x, hx, rfl⟩ := List.mem_map.1 hs
      exact (fits_in (hl x hx).2.1).2
    · rw [List.map_eq_nil_iff] at h
      exact absurd (by simp [h]) h2
  · rw [if_neg (show ¬ (1 ≤ a ∧ a ≤ 30 ∧ l.length ≠ 0 ∧ (l.map cSt).all (fun s => decide (1 ≤ s.take)) = true) from fun h => h4 h.2.2.2), if_neg]
    intro h
    refine h4 (List.all_eq_true.2 fun s hs => ?_)
    simpa using good_take h s hs
end Go.Proofs.Ytigpnafpdmdmhaa.Pure

namespace Go.Proofs.Ytigpnafpdmdmhaa.Ma

/-- A sum. -/
def sm : Nat → (Nat → Nat) → Nat
  | 0, _ => 0
  | k + 1, f => sm k f + f k

theorem sm_congr {f g : Nat → Nat} : ∀ {k : Nat}, (∀ i, i < k → f i = g i) → sm k f = sm k g
  | 0, _ => rfl
  | k + 1, h => by rw [sm, sm, sm_congr (k := k) (fun i hi => h i (by omega)), h k (by omega)]

theorem sm_le {f g : Nat → Nat} : ∀ {k : Nat}, (∀ i, i < k → f i ≤ g i) → sm k f ≤ sm k g
  | 0, _ => Nat.le_refl _
  | k + 1, h => by
    rw [sm, sm]
    exact Nat.add_le_add (sm_le (k := k) (fun i hi => h i (by omega))) (h k (by omega))

theorem sm_add (f g : Nat → Nat) : ∀ k : Nat, sm k (fun i => f i + g i) = sm k f + sm k g
  | 0 => rfl
  | k + 1 => by rw [sm, sm, sm, sm_add f g k]; omega

theorem sm_mul (c : Nat) (f : Nat → Nat) : ∀ k : Nat, sm k (fun i => c * f i) = c * sm k f
  | 0 => rfl
  | k + 1 => by rw [sm, sm, sm_mul c f k, Nat.mul_add]

theorem sm_head (f : Nat → Nat) : ∀ k : Nat, sm (k + 1) f = f 0 + sm k (fun i => f (i + 1))
  | 0 => by simp [sm]
  | k + 1 => by
    have := sm_head f k
    rw [sm, this, sm]
    omega

/-- How many choices of some out of more. -/
def ch : Nat → Nat → Nat
  | _, 0 => 1
  | 0, _ + 1 => 0
  | n + 1, k + 1 => ch n k + ch n (k + 1)

theorem ch_zero : ∀ n, ch n 0 = 1 := by intro n; cases n <;> rfl
theorem ch_above : ∀ (n k : Nat), n < k → ch n k = 0
  | 0, 0, h => absurd h (by omega)
  | 0, _ + 1, _ => rfl
  | _ + 1, 0, h => absurd h (by omega)
  | n + 1, k + 1, h => by rw [ch, ch_above n k (by omega), ch_above n (k + 1) (by omega)]
theorem ch_pos : ∀ (n k : Nat), k ≤ n → 0 < ch n k
  | _, 0, _ => by rw [ch_zero]; omega
  | 0, _ + 1, h => absurd h (by omega)
  | n + 1, k + 1, h => by rw [ch]; have := ch_pos n k (by omega); omega

/-- The sum over the numbers of bad ones among k that are taken of B bad ones and g good ones. -/
def sw (B g k : Nat) (H : Nat → Nat) : Nat := sm (k + 1) (fun n => ch B n * ch g (k - n) * H n)

theorem sw_congr {B g k : Nat} {H H' : Nat → Nat} (h : ∀ n, n ≤ k → n ≤ B → k ≤ n + g → H n = H' n) : sw B g k H = sw B g k H' := by
  unfold sw
  refine sm_congr fun n hn => ?_
  by_cases h1 : n ≤ B
  · by_cases h2 : k ≤ n + g
    · rw [h n (by omega) h1 h2]
    · rw [ch_above g (k - n) (by omega)]; simp
  · rw [ch_above B n (by omega)]; simp

theorem sw_le {B g k : Nat} {H H' : Nat → Nat} (h : ∀ n, n ≤ k → n ≤ B → k ≤ n + g → H n ≤ H' n) : sw B g k H ≤ sw B g k H' := by
  unfold sw
  refine sm_le fun n hn => ?_
  by_cases h1 : n ≤ B
  · by_cases h2 : k ≤ n + g
    · exact Nat.mul_le_mul_left _ (h n (by omega) h1 h2)
    · rw [ch_above g (k - n) (by omega)]; simp
  · rw [ch_above B n (by omega)]; simp

theorem sw_mul (B g k c : Nat) (H : Nat → Nat) : sw B g k (fun n => c * H n) = c * sw B g k H := by
  unfold sw
  rw [← sm_mul]
  exact sm_congr fun n _ => by rw [← Nat.mul_assoc, ← Nat.mul_assoc, Nat.mul_comm c]; 

theorem sw_zero (B g : Nat) (H : Nat → Nat) : sw B g 0 H = H 0 := by
  unfold sw
  simp [sm, ch_zero]

theorem sw_bad (B g k : Nat) (H : Nat → Nat) : sw (B + 1) g (k + 1) H = sw B g (k + 1) H + sw B g k (fun n => H (n + 1)) := by
  unfold sw
  rw [sm_head, sm_head (fun n => ch B n * ch g (k + 1 - n) * H n), ch_zero, ch_zero, Nat.add_assoc, ← sm_add]
  congr 1
  refine sm_congr fun n hn => ?_
  rw [ch, show k + 1 - (n + 1) = k - n by omega, Nat.add_mul, Nat.add_mul, Nat.add_comm]

theorem sw_good (B g k : Nat) (H : Nat → Nat) : sw B (g + 1) (k + 1) H = sw B g (k + 1) H + sw B g k H := by
  unfold sw
  rw [sm, sm.eq_def (k + 1 + 1)]
  simp only [Nat.sub_self, ch_zero, Nat.mul_one]
  have e : sm (k + 1) (fun n => ch B n * ch (g + 1) (k + 1 - n) * H n) = sm (k + 1) (fun n => ch B n * ch g (k + 1 - n) * H n) + sm (k + 1) (fun n => ch B n * ch g (k - n) * H n) := by
    rw [← sm_add]
    refine sm_congr fun n hn => ?_
    rw [show k + 1 - n = (k - n) + 1 by omega, ch, Nat.mul_add, Nat.add_mul, Nat.add_comm]
  rw [e]
  omega

/-- Vandermonde. -/
theorem sw_const (c : Nat) : ∀ (B g k : Nat), sw B g k (fun _ => c) = ch (B + g) k * c
  | B, g, 0 => by rw [sw_zero, ch_zero, Nat.one_mul]
  | 0, 0, k + 1 => by
    rw [ch_above 0 (k + 1) (by omega), Nat.zero_mul]
    unfold sw
    have : ∀ n, n < k + 1 + 1 → ch 0 n * ch 0 (k + 1 - n) * c = 0 * c := fun n hn => by
      cases n with
      | zero => rw [ch_above 0 (k + 1 - 0) (by omega)]; simp
      | succ n => rw [ch_above 0 (n + 1) (by omega)]; simp
    rw [sm_congr (g := fun _ => 0 * c) this]
    simp only [Nat.zero_mul]
    have z : ∀ m, sm m (fun _ => 0) = 0 := fun m => by induction m with
      | zero => rfl
      | succ m ih => rw [sm, ih]
    exact z _
  | 0, g + 1, k + 1 => by
    rw [sw_good, sw_const c 0 g (k + 1), sw_const c 0 g k, ← Nat.add_assoc, ch, Nat.add_mul, Nat.add_comm]
  | B + 1, g, k + 1 => by
    rw [sw_bad, sw_const c B g (k + 1), sw_const c B g k, show B + 1 + g = (B + g) + 1 by omega, ch, Nat.add_mul, Nat.add_comm]
termination_by B g k => B + g + k

end Go.Proofs.Ytigpnafpdmdmhaa.Ma

namespace Go.Proofs.Ytigpnafpdmdmhaa.Ma
open Hand (Stg Cnt saysV tri lastDec fits)

theorem tri_ch : ∀ n k, tri n k = (ch n k : Int)
  | _, 0 => by rw [Hand.tri_zero, ch_zero]; rfl
  | 0, _ + 1 => rfl
  | n + 1, k + 1 => by rw [tri, ch, tri_ch n k, tri_ch n (k + 1)]; omega

/-- How many draws there are of the stages, out of L pieces. -/
def rest : List Stg → Nat → Nat
  | [], _ => 1
  | s :: l, L => ch L s.take.toNat * rest l (L - s.take.toNat)

/-- The pieces of stages. -/
def tot : List Stg → Nat
  | [] => 0
  | s :: l => s.take.toNat + tot l

/-- The sum over all draws from a stage on of what an acceptance (al) or a rejection (rj) by so many pieces bears. -/
def cg (al rj : Nat → Nat → Nat) : List Stg → Nat → Nat → Nat → Nat → Nat
  | [], _, _, _, _ => 0
  | s :: l, L, B, f, t => sw B (L - B) s.take.toNat fun n =>
    if ((f + n : Nat) : Int) ≤ s.accept then al (t + s.take.toNat) (rest l (L - s.take.toNat))
    else if s.reject ≤ ((f + n : Nat) : Int) then rj (t + s.take.toNat) (rest l (L - s.take.toNat))
    else cg al rj l (L - s.take.toNat) (B - n) (f + n) (t + s.take.toNat)

def cA := cg (fun _ r => r) (fun _ _ => 0)
def cP := cg (fun t r => t * r) (fun t r => t * r)
def cD := cg (fun _ r => r) (fun _ r => r)

theorem cg_le {al rj al' rj' : Nat → Nat → Nat} (h1 : ∀ t r, al t r ≤ al' t r) (h2 : ∀ t r, rj t r ≤ rj' t r) : ∀ (l : List Stg) (L B f t : Nat), cg al rj l L B f t ≤ cg al' rj' l L B f t
  | [], _, _, _, _ => Nat.le_refl _
  | s :: l, L, B, f, t => by
    unfold cg
    refine sw_le fun n _ _ _ => ?_
    split
    · exact h1 _ _
    · split
      · exact h2 _ _
      · exact cg_le h1 h2 l _ _ _ _

theorem cg_mul (c : Nat) (al rj : Nat → Nat → Nat) : ∀ (l : List Stg) (L B f t : Nat), cg (fun t r => c * al t r) (fun t r => c * rj t r) l L B f t = c * cg al rj l L B f t
  | [], _, _, _, _ => rfl
  | s :: l, L, B, f, t => by
    unfold cg
    rw [← sw_mul]
    refine sw_congr fun n _ _ _ => ?_
    split
    · rfl
    · split
      · rfl
      · exact cg_mul c al rj l _ _ _ _

theorem lastDec_tail {s s' : Stg} {l : List Stg} (h : lastDec (s :: s' :: l)) : lastDec (s' :: l) := h

theorem cD_rest : ∀ (l : List Stg) (L B f t : Nat), l ≠ [] → lastDec l → B ≤ L → cD l L B f t = rest l L
  | [], _, _, _, _, h, _, _ => absurd rfl h
  | s :: l, L, B, f, t, _, hd, hB => by
    have e : cD (s :: l) L B f t = sw B (L - B) s.take.toNat fun _ => rest l (L - s.take.toNat) := by
      show cg _ _ (s :: l) L B f t = _
      unfold cg
      refine sw_congr fun n h1 h2 h3 => ?_
      split
      · rfl
      · split
        · rfl
        · rename_i h4 h5
          cases l with
          | nil => exact absurd (show saysV s ((f + n : Nat) : Int) = 3 by unfold saysV; rw [if_neg h4, if_neg h5]) (Hand.lastDec_open hd)
          | cons s' l => exact cD_rest (s' :: l) _ _ _ _ (by simp) hd (by omega)
    rw [e, sw_const, show B + (L - B) = L by omega]
    rfl

theorem cA_le (l : List Stg) (L B f t : Nat) : cA l L B f t ≤ cD l L B f t := cg_le (fun _ _ => Nat.le_refl _) (fun _ _ => Nat.zero_le _) l L B f t

theorem cP_le : ∀ (l : List Stg) (L B f t T : Nat), t + tot l ≤ T → cP l L B f t ≤ T * cD l L B f t
  | [], _, _, _, _, _, _ => Nat.zero_le _
  | s :: l, L, B, f, t, T, h => by
    have h' : t + s.take.toNat + tot l ≤ T := by unfold tot at h; omega
    show cg _ _ (s :: l) L B f t ≤ T * cg _ _ (s :: l) L B f t
    unfold cg
    rw [← sw_mul]
    refine sw_le fun n _ _ _ => ?_
    split
    · exact Nat.mul_le_mul_right _ (by omega)
    · split
      · exact Nat.mul_le_mul_right _ (by omega)
      · exact cP_le l _ _ _ _ T h'

theorem cP_ge : ∀ (l : List Stg) (L B f t T : Nat), (∀ s l', l = s :: l' → T ≤ t + s.take.toNat) → T * cD l L B f t ≤ cP l L B f t
  | [], _, _, _, _, _, _ => Nat.le_refl _
  | s :: l, L, B, f, t, T, h => by
    have h' := h s l rfl
    show T * cg _ _ (s :: l) L B f t ≤ cg _ _ (s :: l) L B f t
    unfold cg
    rw [← sw_mul]
    refine sw_le fun n _ _ _ => ?_
    split
    · exact Nat.mul_le_mul_right _ (by omega)
    · split
      · exact Nat.mul_le_mul_right _ (by omega)
      · exact cP_ge l _ _ _ _ T (fun s' l' _ => by omega)

/-! ### Bounds -/
def rowN : Nat → List Nat
  | 0 => [1]
  | n + 1 => 1 :: (List.zipWith (· + ·) (rowN n) ((rowN n).tail ++ [0]))
theorem rowN_length : ∀ n, (rowN n).length = n + 1
  | 0 => rfl
  | n + 1 => by simp [rowN, rowN_length n]
theorem rowN_ch : ∀ n k, k ≤ n → (rowN n)[k]? = some (ch n k)
  | 0, 0, _ => rfl
  | 0, _ + 1, h => absurd h (by omega)
  | n + 1, 0, _ => by simp [rowN, ch_zero]
  | n + 1, k + 1, h => by
    have hl := rowN_length n
    rw [rowN, List.getElem?_cons_succ, List.getElem?_zipWith, rowN_ch n k (by omega)]
    by_cases h1 : k + 1 ≤ n
    · rw [List.getElem?_append_left (by simp [hl]; omega), List.getElem?_tail, rowN_ch n (k + 1) h1]
      rfl
    · rw [List.getElem?_append_right (by simp [hl]; omega)]
      have : k - (rowN n).tail.length = 0 := by simp [hl]; omega
      rw [this]
      have h2 := ch_above n (k + 1) (by omega)
      simp [ch, h2]

/-- All of a row of the triangle, times some function of what is left, is at most M. -/
def rowB (n : Nat) (g : Nat → Nat) (M : Nat) : Bool := ((rowN n).zipIdx).all fun x => decide (x.1 * g (n - x.2) ≤ M)
theorem rowB_ch {n M : Nat} {g : Nat → Nat} (h : rowB n g M = true) (k : Nat) : ch n k * g (n - k) ≤ M := by
  by_cases hk : k ≤ n
  · have h1 := rowN_ch n k hk
    have h2 := List.all_eq_true.1 h (ch n k, k) (List.mem_iff_getElem?.2 ⟨k, by simp [h1]⟩)
    exact of_decide_eq_true h2
  · rw [ch_above n k (by omega)]; simp

def b1 : List Nat := [1, 1, 2, 3, 6, 10, 20, 35, 70, 126, 252, 462, 924, 1716, 3432, 6435, 12870, 24310, 48620, 92378, 184756, 352716, 705432, 1352078, 2704156, 5200300, 10400600, 20058300, 40116600, 77558760, 155117520]
def b2 : List Nat := [1, 1, 2, 6, 12, 30, 90, 210, 560, 1680, 4200, 11550, 34650, 90090, 252252, 756756, 2018016, 5717712, 17153136, 46558512, 133024320, 399072960, 1097450640, 3155170590, 9465511770, 26293088250, 75957810500, 227873431500, 638045608200, 1850332263780, 5550996791340]
def b3 : List Nat := [1, 1, 2, 6, 24, 60, 180, 630, 2520, 7560, 25200, 92400, 369600, 1201200, 4204200, 15765750, 63063000, 214414200, 771891120, 2933186256, 11732745024, 41064607584, 150570227808, 577185873264, 2308743493056, 8245512475200, 30626189193600, 118129586889600, 472518347558400, 1712879009899200, 6423296287122000]
theorem b1_ok : ∀ n, n < 31 → rowB n (fun _ => 1) (b1.getD n 0) = true := by decide +kernel
theorem b2_ok : ∀ n, n < 31 → rowB n (fun m => b1.getD m 0) (b2.getD n 0) = true := by decide +kernel
theorem b3_ok : ∀ n, n < 31 → rowB n (fun m => b2.getD m 0) (b3.getD n 0) = true := by decide +kernel
theorem b3_le : ∀ n, n < 31 → b3.getD n 0 ≤ 6430000000000000 := by decide +kernel

theorem rest1 (l : List Stg) (L : Nat) (hL : L < 31) (hl : l.length ≤ 1) : rest l L ≤ b1.getD L 0 := by
  match l, hl with
  | [], _ =>
    have := rowB_ch (b1_ok L hL) 0
    rw [ch_zero] at this
    exact this
  | [s], _ => exact rowB_ch (b1_ok L hL) s.take.toNat
theorem rest2 (l : List Stg) (L : Nat) (hL : L < 31) (hl : l.length ≤ 2) : rest l L ≤ b2.getD L 0 := by
  match l, hl with
  | [], _ =>
    have h1 := rowB_ch (b2_ok L hL) 0
    have h2 := rest1 [] L hL (by simp)
    rw [ch_zero, Nat.one_mul, Nat.sub_zero] at h1
    exact Nat.le_trans h2 h1
  | s :: l, h =>
    have h1 := rowB_ch (b2_ok L hL) s.take.toNat
    have h2 := rest1 l (L - s.take.toNat) (by omega) (by simpa using h)
    exact Nat.le_trans (Nat.mul_le_mul_left _ h2) h1
theorem rest3 (l : List Stg) (L : Nat) (hL : L < 31) (hl : l.length ≤ 3) : rest l L ≤ b3.getD L 0 := by
  match l, hl with
  | [], _ =>
    have h1 := rowB_ch (b3_ok L hL) 0
    have h2 := rest2 [] L hL (by simp)
    rw [ch_zero, Nat.one_mul, Nat.sub_zero] at h1
    exact Nat.le_trans h2 h1
  | s :: l, h =>
    have h1 := rowB_ch (b3_ok L hL) s.take.toNat
    have h2 := rest2 l (L - s.take.toNat) (by omega) (by simpa using h)
    exact Nat.le_trans (Nat.mul_le_mul_left _ h2) h1
theorem rest_le (l : List Stg) (L : Nat) (hL : L ≤ 30) (hl : l.length ≤ 3) : rest l L ≤ 6430000000000000 :=
  Nat.le_trans (rest3 l L (by omega) hl) (b3_le L (by omega))

theorem rest_pos : ∀ (l : List Stg) (L t : Nat), fits L t l → ∀ m, m = L - t → 0 < rest l m
  | [], _, _, _, _, _ => Nat.one_pos
  | s :: l, L, t, h, m, hm => by
    obtain ⟨h1, h2, h3⟩ := h
    exact Nat.mul_pos (ch_pos _ _ (by omega)) (rest_pos l L _ h3 _ (by omega))

theorem fits_tot : ∀ (l : List Stg) (L t : Nat), t ≤ L → fits L t l → t + tot l ≤ L
  | [], _, _, ht, _ => ht
  | s :: l, L, t, _, h => by
    obtain ⟨h1, h2, h3⟩ := h
    have := fits_tot l L _ h2 h3
    unfold tot
    omega
end Go.Proofs.Ytigpnafpdmdmhaa.Ma

namespace Go.Proofs.Ytigpnafpdmdmhaa.Ma
open Hand (Stg Cnt saysV tri lastDec fits drList drVal drLo cntW decided restW Valid)
open Go.RowKit

theorem w_mod (x : Int) : ∃ q : Int, wrap64 x = x + q * 18446744073709551616 := by
  unfold wrap64; exact ⟨-((x + 9223372036854775808) / 18446744073709551616), by omega⟩
theorem w_eq {x y : Int} (q : Int) (h : x = y + q * 18446744073709551616) : wrap64 x = wrap64 y := by
  subst h; unfold wrap64; omega
theorem w_add (x y : Int) : wrap64 (wrap64 x + wrap64 y) = wrap64 (x + y) := by
  obtain ⟨a, ha⟩ := w_mod x
  obtain ⟨b, hb⟩ := w_mod y
  exact w_eq (a + b) (by rw [ha, hb, Int.add_mul]; omega)
theorem w_mul (x y : Int) : wrap64 (wrap64 x * wrap64 y) = wrap64 (x * y) := by
  obtain ⟨a, ha⟩ := w_mod x
  obtain ⟨b, hb⟩ := w_mod y
  refine w_eq (a * wrap64 y + x * b) ?_
  rw [ha, Int.add_mul]
  conv => lhs; lhs; rw [hb, Int.mul_add]
  rw [Int.add_mul, ← Int.mul_assoc x b, Int.mul_right_comm a]
  omega
theorem w_mulr (x y : Int) : wrap64 (x * wrap64 y) = wrap64 (x * y) := by
  rw [Int.mul_comm, Hand.mul_mod, Int.mul_comm]
theorem w_id {x : Int} (h1 : -9223372036854775808 ≤ x) (h2 : x ≤ 9223372036854775807) : wrap64 x = x := by unfold wrap64; omega

theorem w_nat {x : Int} (n : Nat) (h : x = n) (hn : n ≤ 100000) : wrap64 x = n := by
  subst h
  exact w_id (by omega) (by omega)
theorem restW_rest (lot : Nat) : ∀ (l : List Stg) (t : Nat), restW lot t l = wrap64 (rest l (lot - t) : Int)
  | [], _ => by unfold restW rest wrap64; omega
  | s :: l, t => by
    rw [restW, restW_rest lot l, rest, tri_ch, w_mulr, Nat.sub_sub]
    simp

/-- Counts in the machine's words. -/
def wc (a p d : Nat) : Cnt := ⟨wrap64 (a : Int), wrap64 (p : Int), wrap64 (d : Int)⟩

theorem wc_zero : wc 0 0 0 = ⟨0, 0, 0⟩ := by
  have w0 : wrap64 ((0 : Nat) : Int) = 0 := by unfold wrap64; omega
  unfold wc
  rw [w0]
theorem add_wc (a p d m a' p' d' : Nat) : (wc a p d).add (wrap64 (m : Int)) (wc a' p' d') = wc (a + m * a') (p + m * p') (d + m * d') := by
  have h : ∀ x y : Nat, wrap64 (wrap64 (x : Int) + wrap64 (wrap64 (m : Int) * wrap64 (y : Int))) = wrap64 ((x + m * y : Nat) : Int) := fun x y => by
    rw [w_mul, w_add]; simp
  unfold Cnt.add wc
  simp only [h]

theorem foldl_wc (p x y z : Nat → Nat) : ∀ (m s a b c : Nat),
    (List.range' s m).foldl (fun o n => o.add (wrap64 (p n : Int)) (wc (x n) (y n) (z n))) (wc a b c) =
      wc (a + sm m (fun i => p (s + i) * x (s + i))) (b + sm m (fun i => p (s + i) * y (s + i))) (c + sm m (fun i => p (s + i) * z (s + i)))
  | 0, _, _, _, _ => rfl
  | m + 1, s, a, b, c => by
    rw [List.range'_succ, List.foldl_cons, add_wc, foldl_wc p x y z m (s + 1)]
    have h : ∀ q : Nat → Nat, ∀ v : Nat, v + p s * q s + sm m (fun i => p (s + 1 + i) * q (s + 1 + i)) = v + sm (m + 1) (fun i => p (s + i) * q (s + i)) := fun q v => by
      rw [sm_head, Nat.add_zero, Nat.add_assoc]
      congr 2
      exact sm_congr fun i _ => by rw [Nat.add_assoc, Nat.add_comm 1]
    rw [h, h, h]

theorem sm_split (f : Nat → Nat) (a : Nat) : ∀ m, sm (a + m) f = sm a f + sm m (fun i => f (a + i))
  | 0 => rfl
  | m + 1 => by rw [← Nat.add_assoc, sm, sm_split f a m, sm, Nat.add_assoc]
theorem sm_null {f : Nat → Nat} {k : Nat} (h : ∀ i, i < k → f i = 0) : sm k f = 0 := by
  induction k with
  | zero => rfl
  | succ k ih => rw [sm, ih (fun i hi => h i (by omega)), h k (by omega)]

theorem sw_dr (B g k : Nat) (H : Nat → Nat) : sm (min k B + 1 - (k - g)) (fun i => ch B (k - g + i) * ch g (k - (k - g + i)) * H (k - g + i)) = sw B g k H := by
  unfold sw
  have lo : ∀ n, n < k - g → ch B n * ch g (k - n) * H n = 0 := fun n hn => by rw [ch_above g (k - n) (by omega)]; simp
  have hi : ∀ n, B < n → ch B n * ch g (k - n) * H n = 0 := fun n hn => by rw [ch_above B n hn]; simp
  by_cases h : k - g ≤ min k B
  · obtain ⟨m, hm⟩ : ∃ m, k + 1 = (k - g) + ((min k B + 1 - (k - g)) + m) := ⟨k + 1 - (min k B + 1), by omega⟩
    conv => rhs; rw [hm, sm_split, sm_split]
    rw [sm_null (k := k - g) (fun i hi' => lo i hi'), sm_null (k := m) (fun i hi' => hi _ (by omega))]
    omega
  · rw [show min k B + 1 - (k - g) = 0 by omega]
    refine Eq.symm (sm_null fun i hi' => ?_)
    by_cases h1 : i < k - g
    · exact lo i h1
    · exact hi i (by omega)

theorem fold_sw (B g k : Nat) (x y z : Nat → Nat) : (List.range' (k - g) (min k B + 1 - (k - g))).foldl (fun o n => o.add (wrap64 ((ch B n * ch g (k - n) : Nat) : Int)) (wc (x n) (y n) (z n))) ⟨0, 0, 0⟩ = wc (sw B g k x) (sw B g k y) (sw B g k z) := by
  rw [← wc_zero, foldl_wc (fun n => ch B n * ch g (k - n)), ← sw_dr B g k x, ← sw_dr B g k y, ← sw_dr B g k z, Nat.zero_add, Nat.zero_add, Nat.zero_add]
theorem decided_wc (lot : Nat) (s : Stg) (l : List Stg) (tk f : Nat) (a p d : Nat) :
    decided lot s l tk (f : Int) (wc a p d) = wc
      (if (f : Int) ≤ s.accept then rest l (lot - tk) else if s.reject ≤ (f : Int) then 0 else a)
      (if (f : Int) ≤ s.accept then tk * rest l (lot - tk) else if s.reject ≤ (f : Int) then tk * rest l (lot - tk) else p)
      (if (f : Int) ≤ s.accept then rest l (lot - tk) else if s.reject ≤ (f : Int) then rest l (lot - tk) else d) := by
  have e : wrap64 ((tk : Int) * restW lot tk l) = wrap64 ((tk * rest l (lot - tk) : Nat) : Int) := by
    rw [restW_rest, w_mulr]; simp
  unfold decided saysV
  rw [e, restW_rest]
  have w0 : wrap64 ((0 : Nat) : Int) = 0 := by unfold wrap64; omega
  have n1 : ¬ ((2 : Int) = 1) := by decide
  have n2 : ¬ ((3 : Int) = 1) := by decide
  have n3 : ¬ ((3 : Int) = 2) := by decide
  by_cases h1 : (f : Int) ≤ s.accept
  · simp only [if_pos h1, wc]; rfl
  · by_cases h2 : s.reject ≤ (f : Int)
    · simp only [if_neg h1, if_pos h2, if_neg n1, wc, w0]; rfl
    · simp only [if_neg h1, if_neg h2, if_neg n2, if_neg n3]

theorem cntW_wc (lot bad : Nat) : ∀ (l : List Stg) (t b : Nat), cntW lot bad l t b = wc (cA l (lot - t) (bad - b) b t) (cP l (lot - t) (bad - b) b t) (cD l (lot - t) (bad - b) b t)
  | [], _, _ => wc_zero.symm
  | s :: l, t, b => by
    unfold cntW drList
    rw [List.foldl_map]
    have e : ∀ (o : Cnt) (n : Nat), o.add (drVal s.take.toNat (lot - t) (bad - b) n).2 (decided lot s l (t + s.take.toNat) ((b : Int) + (drVal s.take.toNat (lot - t) (bad - b) n).1) (cntW lot bad l (t + s.take.toNat) (b + (drVal s.take.toNat (lot - t) (bad - b) n).1.toNat)))
        = o.add (wrap64 ((ch (bad - b) n * ch (lot - t - (bad - b)) (s.take.toNat - n) : Nat) : Int)) (wc
          (if ((b + n : Nat) : Int) ≤ s.accept then rest l (lot - t - s.take.toNat) else if s.reject ≤ ((b + n : Nat) : Int) then 0 else cA l (lot - t - s.take.toNat) (bad - b - n) (b + n) (t + s.take.toNat))
          (if ((b + n : Nat) : Int) ≤ s.accept then (t + s.take.toNat) * rest l (lot - t - s.take.toNat) else if s.reject ≤ ((b + n : Nat) : Int) then (t + s.take.toNat) * rest l (lot - t - s.take.toNat) else cP l (lot - t - s.take.toNat) (bad - b - n) (b + n) (t + s.take.toNat))
          (if ((b + n : Nat) : Int) ≤ s.accept then rest l (lot - t - s.take.toNat) else if s.reject ≤ ((b + n : Nat) : Int) then rest l (lot - t - s.take.toNat) else cD l (lot - t - s.take.toNat) (bad - b - n) (b + n) (t + s.take.toNat))) := fun o n => by
      have h1 : (drVal s.take.toNat (lot - t) (bad - b) n).1 = (n : Int) := rfl
      have h2 : (drVal s.take.toNat (lot - t) (bad - b) n).2 = wrap64 ((ch (bad - b) n * ch (lot - t - (bad - b)) (s.take.toNat - n) : Nat) : Int) := by
        unfold drVal
        simp only [tri_ch]
        simp
      rw [h1, h2, Int.toNat_natCast, cntW_wc lot bad l, show (b : Int) + (n : Int) = ((b + n : Nat) : Int) by simp, decided_wc]
      simp only [Nat.sub_sub]
    rw [show (fun (x : Cnt) (y : Nat) => x.add (drVal s.take.toNat (lot - t) (bad - b) y).2 (decided lot s l (t + s.take.toNat) ((b : Int) + (drVal s.take.toNat (lot - t) (bad - b) y).1) (cntW lot bad l (t + s.take.toNat) (b + (drVal s.take.toNat (lot - t) (bad - b) y).1.toNat)))) = _ from funext fun o => funext fun n => e o n]
    exact fold_sw (bad - b) (lot - t - (bad - b)) s.take.toNat
      (fun n => if ((b + n : Nat) : Int) ≤ s.accept then rest l (lot - t - s.take.toNat) else if s.reject ≤ ((b + n : Nat) : Int) then 0 else cA l (lot - t - s.take.toNat) (bad - b - n) (b + n) (t + s.take.toNat))
      (fun n => if ((b + n : Nat) : Int) ≤ s.accept then (t + s.take.toNat) * rest l (lot - t - s.take.toNat) else if s.reject ≤ ((b + n : Nat) : Int) then (t + s.take.toNat) * rest l (lot - t - s.take.toNat) else cP l (lot - t - s.take.toNat) (bad - b - n) (b + n) (t + s.take.toNat))
      (fun n => if ((b + n : Nat) : Int) ≤ s.accept then rest l (lot - t - s.take.toNat) else if s.reject ≤ ((b + n : Nat) : Int) then rest l (lot - t - s.take.toNat) else cD l (lot - t - s.take.toNat) (bad - b - n) (b + n) (t + s.take.toNat))
termination_by l => l.length

/-- A valid plan's counts, for so many bad pieces: no number is too great for the machine. -/
theorem cnt_ok {lot : Nat} {l : List Stg} (h : Valid lot l) (bad : Nat) (hb : bad ≤ lot) :
    cntW lot bad l 0 0 = ⟨(cA l lot bad 0 0 : Int), (cP l lot bad 0 0 : Int), (rest l lot : Int)⟩ ∧ cA l lot bad 0 0 ≤ rest l lot ∧ cP l lot bad 0 0 ≤ tot l * rest l lot ∧ tot l ≤ lot ∧ 0 < rest l lot ∧ rest l lot ≤ 6430000000000000 := by
  have h1 : lot ≤ 30 := by have := h.hi; omega
  have hf : fits lot 0 l := by have := h.fit; rwa [Int.toNat_natCast] at this
  have h2 := rest_le l lot h1 h.len
  have h3 := cD_rest l lot bad 0 0 h.ne h.last hb
  have h4 := cA_le l lot bad 0 0
  have h5 := cP_le l lot bad 0 0 (tot l) (by omega)
  have h6 : tot l ≤ lot := by have := fits_tot l lot 0 (by omega) hf; omega
  have h7 := rest_pos l lot 0 hf lot (by omega)
  rw [h3] at h4 h5
  have h8 : tot l * rest l lot ≤ 30 * 6430000000000000 := Nat.mul_le_mul (by omega) h2
  refine ⟨?_, h4, h5, h6, h7, h2⟩
  rw [cntW_wc, Nat.sub_zero, Nat.sub_zero, h3]
  unfold wc
  rw [w_id (by omega) (by omega), w_id (by omega) (by omega), w_id (by omega) (by omega)]
end Go.Proofs.Ytigpnafpdmdmhaa.Ma

namespace Go.Proofs.Ytigpnafpdmdmhaa.Pure
open Go.RowKit Go.Proofs.Ytigpnafpdmdmhaa.P Go.Proofs.YtigpnafpdmdmhaaW.PrintWords
open Hand (Stg saysV fits lastDec Valid Cnt cntW shareV)
open Ma


theorem wakes_f : tensilelaw09_wakes.f = some true := rfl

theorem ready_f (a : Int) (l : List S57) (ha : Fits a) (hl : ∀ s ∈ l, Fits s.f0 ∧ Fits s.f1 ∧ Fits s.f2) (K : Nat) (hK : 30 ≤ K) :
    tensilelaw09_ready.f K a l = some (decide (l.length ≤ 5) && (Hand.checkPlan a (l.map cSt) == 0)) := by
  unfold tensilelaw09_ready.f tensilelaw09_Thin.f
  rw [Option.bind_some]
  by_cases h5 : l.length ≤ 5
  · have h5' : (l.length : Int) ≤ 5 := by omega
    rw [decide_eq_true h5, decide_eq_true h5', if_pos rfl, fault_f a l ha hl h5 K hK, Option.bind_some, Bool.true_and]
  · have h5' : ¬ (l.length : Int) ≤ 5 := by omega
    rw [decide_eq_false h5, decide_eq_false h5', if_neg (by decide), Bool.false_and]

theorem good_of (a : Int) (l : List S57) (hl : ∀ s ∈ l, Fits s.f0 ∧ Fits s.f1 ∧ Fits s.f2) (h : Hand.checkPlan a (l.map cSt) = 0) : good a 0 (-1) 0 (l.map cSt) := by
  classical
  unfold Hand.checkPlan at h
  split at h; · cases h
  split at h
  case isFalse => cases h
  rename_i h1
  obtain ⟨a1, a2, a3, a4⟩ := h1
  have := chk_good a a2 (l.map cSt) 0 ⟨0, -1, 0⟩ (by omega) (by omega) (by decide) (by decide) (fun s hs => by
    refine ⟨by simpa using List.all_eq_true.1 a4 s hs, ?_⟩
    obtain ⟨x, hx, rfl⟩ := List.mem_map.1 hs
    exact (fits_in (hl x hx).2.1).2) (fun e => absurd (by simp [e]) a3) (by decide)
  rw [h] at this
  by_cases hg : good a 0 (-1) 0 (l.map cSt)
  · exact hg
  · rw [if_neg hg] at this; cases this

theorem good_reject {lot : Int} : ∀ {l : List Stg} {t pa pr : Int}, good lot t pa pr l → ∀ s ∈ l, pr ≤ s.reject ∧ s.accept < s.reject
  | _ :: _, _, _, _, h, s, hs => by
    rcases List.mem_cons.1 hs with rfl | hs
    · exact ⟨h.2.1.2.2.2, h.2.1.2.1⟩
    · have h1 := good_reject h.2.2.2 s hs
      exact ⟨Int.le_trans h.2.1.2.2.2 h1.1, h1.2⟩
theorem good_take30 {lot : Int} : ∀ {l : List Stg} {t pa pr : Int}, 0 ≤ t → lot ≤ 30 → good lot t pa pr l → ∀ s ∈ l, 1 ≤ s.take ∧ s.take ≤ 30
  | _ :: _, _, _, _, h0, hl, h, s, hs => by
    have h1 := h.1
    rcases List.mem_cons.1 hs with rfl | hs
    · omega
    · exact good_take30 (by omega) hl h.2.2.2 s hs
theorem take30 {a : Int} {l : List S57} (ha : a ≤ 30) (h : good a 0 (-1) 0 (l.map cSt)) : ∀ s ∈ l, 1 ≤ s.f0 ∧ s.f0 ≤ 30 :=
  fun s hs => good_take30 (by omega) ha h (cSt s) (List.mem_map.2 ⟨s, hs, rfl⟩)

/-- What a share of a valid plan says. -/
theorem share_ok (sel : Cnt → Int) (a : Int) (ls : List Stg) (h0 : Hand.checkPlan a ls = 0) (bad : Int) (hb0 : 0 ≤ bad) (hb : bad ≤ a) (n : Nat) (hn : sel (cntW a.toNat bad.toNat ls 0 0) = n) (hn2 : n ≤ 30 * 6430000000000000) :
    shareV sel a ls bad = some (((n / Nat.gcd n (rest ls a.toNat) : Nat) : Int), ((rest ls a.toNat / Nat.gcd n (rest ls a.toNat) : Nat) : Int), 0) := by
  have hv := Hand.checkPlan_ok h0
  obtain ⟨lot, rfl⟩ : ∃ m : Nat, a = m := ⟨a.toNat, by omega⟩
  obtain ⟨b, rfl⟩ : ∃ m : Nat, bad = m := ⟨bad.toNat, by omega⟩
  rw [Int.toNat_natCast] at hn ⊢
  rw [Int.toNat_natCast] at hn
  obtain ⟨c1, c2, c3, c4, c5, c6⟩ := cnt_ok hv b (by omega)
  have ed : (cntW lot b ls 0 0).draws = (rest ls lot : Int) := by rw [c1]
  unfold shareV
  rw [if_pos h0, if_pos ⟨hb0, hb⟩, Int.toNat_natCast, Int.toNat_natCast, hn, ed]
  rw [if_pos ⟨by omega, by omega, by omega, by omega⟩, Int.toNat_natCast, Int.toNat_natCast]

theorem chance_ok (a : Int) (ls : List Stg) (h0 : Hand.checkPlan a ls = 0) (bad : Int) (hb0 : 0 ≤ bad) (hb : bad ≤ a) :
    shareV Cnt.accepts a ls bad = some (((cA ls a.toNat bad.toNat 0 0 / Nat.gcd (cA ls a.toNat bad.toNat 0 0) (rest ls a.toNat) : Nat) : Int), ((rest ls a.toNat / Nat.gcd (cA ls a.toNat bad.toNat 0 0) (rest ls a.toNat) : Nat) : Int), 0) := by
  have hv := Hand.checkPlan_ok h0
  obtain ⟨lot, rfl⟩ : ∃ m : Nat, a = m := ⟨a.toNat, by omega⟩
  obtain ⟨c1, c2, c3, c4, c5, c6⟩ := cnt_ok hv bad.toNat (by omega)
  refine share_ok Cnt.accepts _ ls h0 bad hb0 hb _ ?_ ?_
  · rw [Int.toNat_natCast, c1]
  · rw [Int.toNat_natCast]
    omega

theorem mean_ok (a : Int) (ls : List Stg) (h0 : Hand.checkPlan a ls = 0) (bad : Int) (hb0 : 0 ≤ bad) (hb : bad ≤ a) :
    shareV Cnt.pieces a ls bad = some (((cP ls a.toNat bad.toNat 0 0 / Nat.gcd (cP ls a.toNat bad.toNat 0 0) (rest ls a.toNat) : Nat) : Int), ((rest ls a.toNat / Nat.gcd (cP ls a.toNat bad.toNat 0 0) (rest ls a.toNat) : Nat) : Int), 0) := by
  have hv := Hand.checkPlan_ok h0
  obtain ⟨lot, rfl⟩ : ∃ m : Nat, a = m := ⟨a.toNat, by omega⟩
  obtain ⟨c1, c2, c3, c4, c5, c6⟩ := cnt_ok hv bad.toNat (by omega)
  have h30 := hv.hi
  have h8 : tot ls * rest ls lot ≤ 30 * 6430000000000000 := Nat.mul_le_mul (by omega) c6
  refine share_ok Cnt.pieces _ ls h0 bad hb0 hb _ ?_ ?_
  · rw [Int.toNat_natCast, c1]
  · rw [Int.toNat_natCast]
    exact Nat.le_trans c3 h8

theorem share_bad (sel : Cnt → Int) (a : Int) (ls : List Stg) (h0 : Hand.checkPlan a ls = 0) (bad : Int) (hb : ¬ (0 ≤ bad ∧ bad ≤ a)) : shareV sel a ls bad = some (0, 0, 2) := by
  unfold shareV
  rw [if_pos h0, if_neg hb]
theorem share_err (sel : Cnt → Int) (a : Int) (ls : List Stg) (h0 : ¬ Hand.checkPlan a ls = 0) (bad : Int) : shareV sel a ls bad = some (0, 0, Hand.checkPlan a ls) := by
  unfold shareV
  rw [if_neg h0]


end Go.Proofs.Ytigpnafpdmdmhaa.Pure

namespace Go.Proofs.Ytigpnafpdmdmhaa.Pure
open Go.RowKit Go.Proofs.Ytigpnafpdmdmhaa.P Go.Proofs.YtigpnafpdmdmhaaW.PrintWords
open Hand (Stg saysV fits lastDec Valid Cnt cntW shareV)
open Ma

theorem lowest_le (A D : Nat) (h : A ≤ D) : A / Nat.gcd A D ≤ D / Nat.gcd A D := Nat.div_le_div_right h
theorem lowest_pos (A D : Nat) (h : 0 < D) : 1 ≤ D / Nat.gcd A D := Nat.div_pos (Nat.gcd_le_right _ h) (Nat.gcd_pos_of_pos_right _ h)

theorem takes_l0 (a : Int) (rest : List S57) : ∀ (mid pre : List S57) (K t : Nat), mid.length < K → (pre ++ mid ++ rest).length ≤ 3 → (∀ s ∈ mid, 1 ≤ s.f0 ∧ s.f0 ≤ 30) → t + 30 * mid.length ≤ 1000 →
    tensilelaw09_takes.l0 K ((pre.length + mid.length : Nat) : Int) (t : Int) (pre.length : Int) a (pre ++ mid ++ rest) = some ((t + tot (mid.map cSt) : Nat) : Int)
  | [], pre, K, t, hK, hl, _, _ => by
    obtain ⟨K, rfl⟩ : ∃ m, K = m + 1 := ⟨K - 1, by omega⟩
    rw [tensilelaw09_takes.l0, if_neg (by simp)]
    rfl
  | s :: mid, pre, K, t, hK, hl, ht, hb => by
    obtain ⟨K, rfl⟩ : ∃ m, K = m + 1 := ⟨K - 1, by omega⟩
    have h0 := ht s (by simp)
    obtain ⟨n, hn⟩ : ∃ n : Nat, s.f0 = n := ⟨s.f0.toNat, by omega⟩
    have hl3 : pre.length + (mid.length + 1 + rest.length) ≤ 3 := by simp at hl; omega
    have ih := takes_l0 a rest mid (pre ++ [s]) K (t + n) (by simpa using hK) (by simp; omega) (fun x hx => ht x (by simp [hx])) (by simp at hb; omega)
    have e1 : wrap64 ((t : Int) + s.f0) = ((t + n : Nat) : Int) := w_nat _ (by rw [hn]; rfl) (by simp at hb; omega)
    have e2 : wrap64 ((pre.length : Int) + 1) = ((pre ++ [s]).length : Int) := w_nat _ (by simp) (by simp; omega)
    have e3 : pre ++ s :: mid ++ rest = pre ++ s :: (mid ++ rest) := by simp
    have e4 : pre ++ [s] ++ mid ++ rest = pre ++ s :: (mid ++ rest) := by simp
    have e5 : (pre ++ [s]).length + mid.length = pre.length + (s :: mid).length := by simp; omega
    rw [e4, e5] at ih
    rw [tensilelaw09_takes.l0, e3, if_pos (by simp; omega), if_pos (by simp; omega), if_pos (by omega), rd_pre, e1, e2, ih]
    have : tot ((s :: mid).map cSt) = n + tot (mid.map cSt) := by
      show s.f0.toNat + tot (mid.map cSt) = _
      rw [hn]; rfl
    rw [this, Nat.add_assoc]

theorem takes_f (a : Int) (mid rest : List S57) (K : Nat) (hK : 4 ≤ K) (hl : (mid ++ rest).length ≤ 3) (ht : ∀ s ∈ mid, 1 ≤ s.f0 ∧ s.f0 ≤ 30) :
    tensilelaw09_takes.f K a (mid ++ rest) (mid.length : Int) = some ((tot (mid.map cSt) : Nat) : Int) := by
  have hm : mid.length ≤ 3 := by rw [List.length_append] at hl; omega
  have := takes_l0 a rest mid [] K 0 (by omega) (by simpa using hl) ht (by omega)
  rw [tensilelaw09_takes.f]
  have e1 : ((([] : List S57).length : Nat) : Int) = 0 := rfl
  rw [List.length_nil, Nat.zero_add, List.nil_append, Nat.zero_add] at this
  exact this

end Go.Proofs.Ytigpnafpdmdmhaa.Pure

namespace Go.Proofs.Ytigpnafpdmdmhaa.Pure
open Go.RowKit Go.Proofs.Ytigpnafpdmdmhaa.P Go.Proofs.YtigpnafpdmdmhaaW.PrintWords
open Ma
theorem u8_nat {x : Int} (h : (Lit.int .u8 x).wf = true) : ∃ n : Nat, x = n ∧ n ≤ 255 := by
  unfold Lit.wf at h
  rw [Bool.and_eq_true, decide_eq_true_eq, decide_eq_true_eq] at h
  have h1 : (0 : Int) ≤ x := h.1
  have h2 : x ≤ 255 := h.2
  exact ⟨x.toNat, by omega, by omega⟩

end Go.Proofs.Ytigpnafpdmdmhaa.Pure

namespace Go.Proofs.Ytigpnafpdmdmhaa.Ma
open Hand (Stg Cnt saysV tri lastDec fits Valid)

theorem cD_le : ∀ (l : List Stg) (L B f t : Nat), B ≤ L → cD l L B f t ≤ rest l L
  | [], _, _, _, _, _ => Nat.zero_le _
  | s :: l, L, B, f, t, hB => by
    have e : cD (s :: l) L B f t ≤ sw B (L - B) s.take.toNat fun _ => rest l (L - s.take.toNat) := by
      show cg _ _ (s :: l) L B f t ≤ _
      unfold cg
      refine sw_le fun n h1 h2 h3 => ?_
      split
      · exact Nat.le_refl _
      · split
        · exact Nat.le_refl _
        · exact cD_le l _ _ _ _ (by omega)
    rw [sw_const, show B + (L - B) = L by omega] at e
    exact e
theorem cA_rest (l : List Stg) (L B f t : Nat) (h : B ≤ L) : cA l L B f t ≤ rest l L := Nat.le_trans (cA_le l L B f t) (cD_le l L B f t h)

/-- What a stage's number of bad ones leaves of the acceptances. -/
def gA (s : Stg) (l : List Stg) (L B f t : Nat) : Nat :=
  if (f : Int) ≤ s.accept then rest l L else if s.reject ≤ (f : Int) then 0 else cA l L B f t
theorem cA_cons (s : Stg) (l : List Stg) (L B f t : Nat) : cA (s :: l) L B f t = sw B (L - B) s.take.toNat fun n => gA s l (L - s.take.toNat) (B - n) (f + n) (t + s.take.toNat) := rfl

theorem gA_f {s : Stg} {l : List Stg} {L B f t : Nat} (hB : B ≤ L) (h : cA l L B (f + 1) t ≤ cA l L B f t) : gA s l L B (f + 1) t ≤ gA s l L B f t := by
  unfold gA
  have h1 : ((f + 1 : Nat) : Int) = (f : Int) + 1 := by simp
  have h2 := cA_rest l L B (f + 1) t hB
  rw [h1]
  split
  · rw [if_pos (by omega)]; exact Nat.le_refl _
  · split
    · exact Nat.zero_le _
    · split
      · exact h2
      · rw [if_neg (by omega)]; exact h
theorem gA_b {s : Stg} {l : List Stg} {L B f t : Nat} (h : cA l L (B + 1) f t ≤ cA l L B f t) : gA s l L (B + 1) f t ≤ gA s l L B f t := by
  unfold gA
  split
  · exact Nat.le_refl _
  · split
    · exact Nat.le_refl _
    · exact h

theorem cA_mono : ∀ (l : List Stg) (L B f t : Nat), (B ≤ L → cA l L B (f + 1) t ≤ cA l L B f t) ∧ (B + 1 ≤ L → cA l L (B + 1) f t ≤ cA l L B f t)
  | [], _, _, _, _ => ⟨fun _ => Nat.le_refl _, fun _ => Nat.le_refl _⟩
  | s :: l, L, B, f, t => by
    constructor
    · intro hB
      rw [cA_cons, cA_cons]
      refine sw_le fun n h1 h2 h3 => ?_
      rw [Nat.add_right_comm f 1 n]
      exact gA_f (by omega) ((cA_mono l _ _ _ _).1 (by omega))
    · intro hB
      rw [cA_cons, cA_cons]
      generalize hk : s.take.toNat = k
      cases k with
      | zero =>
        rw [sw_zero, sw_zero]
        exact gA_b ((cA_mono l _ _ _ _).2 (by omega))
      | succ k =>
        obtain ⟨g, hg⟩ : ∃ g, L - B = g + 1 := ⟨L - B - 1, by omega⟩
        rw [show L - (B + 1) = g by omega, hg, sw_bad, sw_good]
        refine Nat.add_le_add (sw_le fun n h1 h2 h3 => ?_) (sw_le fun n h1 h2 h3 => ?_)
        · rw [show B + 1 - n = (B - n) + 1 by omega]
          exact gA_b ((cA_mono l _ _ _ _).2 (by omega))
        · rw [show B + 1 - (n + 1) = B - n by omega, ← Nat.add_assoc]
          exact gA_f (by omega) ((cA_mono l _ _ _ _).1 (by omega))

/-- With no bad piece. -/
theorem cA_none : ∀ (l : List Stg) (L t : Nat), l ≠ [] → lastDec l → (∀ s ∈ l, 0 < s.reject) → cA l L 0 0 t = rest l L
  | [], _, _, h, _, _ => absurd rfl h
  | s :: l, L, t, _, hd, hr => by
    have h0 : 0 < s.reject := hr s (by simp)
    have e : cA (s :: l) L 0 0 t = sw 0 (L - 0) s.take.toNat fun _ => rest l (L - s.take.toNat) := by
      rw [cA_cons]
      refine sw_congr fun n _ hn _ => ?_
      obtain rfl : n = 0 := by omega
      unfold gA
      split
      · rfl
      · rename_i h1
        rw [if_neg (by omega)]
        cases l with
        | nil =>
          have : s.reject ≤ s.accept + 1 := hd
          exact absurd h1 (by simp; omega)
        | cons s' l => exact cA_none (s' :: l) _ _ (by simp) hd (fun x hx => hr x (by simp [hx]))
    rw [e, sw_const, show 0 + (L - 0) = L by omega]
    rfl
theorem cA_rejected (s : Stg) (l : List Stg) (L t : Nat) (h1 : s.accept < 0) (h2 : s.reject ≤ 0) : cA (s :: l) L 0 0 t = 0 := by
  have e : cA (s :: l) L 0 0 t = sw 0 (L - 0) s.take.toNat fun _ => 0 := by
    rw [cA_cons]
    refine sw_congr fun n _ hn _ => ?_
    obtain rfl : n = 0 := by omega
    unfold gA
    rw [if_neg (by simp; omega), if_pos (by simpa using h2)]
  rw [e, sw_const, Nat.mul_zero]
/-- Each Accept is less than the pieces taken by then. -/
def strict : List Stg → Nat → Prop
  | [], _ => True
  | s :: l, t => s.accept < ((t + s.take.toNat : Nat) : Int) ∧ strict l (t + s.take.toNat)
/-- With bad ones alone. -/
theorem cA_all : ∀ (l : List Stg) (L t : Nat), fits (L + t) t l → strict l t → cA l L L t t = 0
  | [], _, _, _, _ => rfl
  | s :: l, L, t, hf, hs => by
    obtain ⟨f1, f2, f3⟩ := hf
    obtain ⟨h1, h2⟩ := hs
    have e : cA (s :: l) L L t t = sw L (L - L) s.take.toNat fun _ => 0 := by
      rw [cA_cons]
      refine sw_congr fun n h3 _ h4 => ?_
      obtain rfl : n = s.take.toNat := by omega
      unfold gA
      rw [if_neg (by omega)]
      split
      · rfl
      · exact cA_all l _ _ (by rw [show L - s.take.toNat + (t + s.take.toNat) = L + t by omega]; exact f3) h2
    rw [e, sw_const, Nat.mul_zero]

/-- The first stage always decides. -/
theorem cP_first (s : Stg) (l : List Stg) (L B t : Nat) (hB : B ≤ L) (h : s.reject = s.accept + 1) : cP (s :: l) L B 0 t = (t + s.take.toNat) * rest (s :: l) L := by
  have e : cP (s :: l) L B 0 t = sw B (L - B) s.take.toNat fun _ => (t + s.take.toNat) * rest l (L - s.take.toNat) := by
    show cg _ _ (s :: l) L B 0 t = _
    unfold cg
    refine sw_congr fun n _ _ _ => ?_
    split
    · rfl
    · rw [if_pos (by omega)]
  rw [e, sw_const, show B + (L - B) = L by omega, rest, ← Nat.mul_assoc, ← Nat.mul_assoc, Nat.mul_comm (ch L _)]
end Go.Proofs.Ytigpnafpdmdmhaa.Ma

namespace Go.Proofs.Ytigpnafpdmdmhaa.Pure
open Go.RowKit Go.Proofs.Ytigpnafpdmdmhaa.P Go.Proofs.YtigpnafpdmdmhaaW.PrintWords
open Hand (Stg saysV fits lastDec Valid Cnt cntW shareV)
open Ma

theorem frac_ge (A D T : Nat) (hD : 0 < D) (h : T * D ≤ A) : T * (D / Nat.gcd A D) ≤ A / Nat.gcd A D := by
  have g1 : 0 < Nat.gcd A D := Nat.gcd_pos_of_pos_right _ hD
  have e1 := Nat.div_mul_cancel (Nat.gcd_dvd_left A D)
  have e2 := Nat.div_mul_cancel (Nat.gcd_dvd_right A D)
  generalize A / Nat.gcd A D = a at e1
  generalize D / Nat.gcd A D = d at e2
  generalize Nat.gcd A D = g at e1 e2 g1
  refine Nat.le_of_mul_le_mul_right (c := g) ?_ g1
  rw [Nat.mul_assoc, e1, e2]
  exact h
theorem frac_le (A D T : Nat) (hD : 0 < D) (h : A ≤ T * D) : A / Nat.gcd A D ≤ T * (D / Nat.gcd A D) := by
  have g1 : 0 < Nat.gcd A D := Nat.gcd_pos_of_pos_right _ hD
  have e1 := Nat.div_mul_cancel (Nat.gcd_dvd_left A D)
  have e2 := Nat.div_mul_cancel (Nat.gcd_dvd_right A D)
  generalize A / Nat.gcd A D = a at e1
  generalize D / Nat.gcd A D = d at e2
  generalize Nat.gcd A D = g at e1 e2 g1
  refine Nat.le_of_mul_le_mul_right (c := g) ?_ g1
  rw [Nat.mul_assoc, e1, e2]
  exact h

theorem rem_f (x n : Nat) (hx : x ≤ 1000) (hn : n ≤ 1000) : Int.tmod (wrap64 (x : Int)) (wrap64 ((n : Int) + 1)) = ((x % (n + 1) : Nat) : Int) := by
  rw [w_nat (x := (x : Int)) x rfl (by omega), w_nat (x := (n : Int) + 1) (n + 1) (by rw [Int.natCast_add]; rfl) (by omega)]
  rfl

theorem PlanBetween (a : Int) (l : List S57) (bad : Int) (ha : Fits a) (hl : ∀ s ∈ l, Fits s.f0 ∧ Fits s.f1 ∧ Fits s.f2) (hb : (Lit.int .u8 bad).wf = true) : ∃ k, tensilelaw09_PlanBetween.f k a l bad = some true := by
  refine ⟨100, ?_⟩
  rw [tensilelaw09_PlanBetween.f, ready_f a l ha hl 100 (by omega), Option.bind_some]
  by_cases h : (decide (l.length ≤ 5) && (Hand.checkPlan a (l.map cSt) == 0)) = true
  case neg =>
    rw [if_neg h, wakes_f]
    rfl
  rw [if_pos h]
  rw [Bool.and_eq_true, beq_iff_eq] at h
  have hv := Hand.checkPlan_ok h.2
  have hg := good_of a l hl h.2
  obtain ⟨lot, rfl⟩ : ∃ n : Nat, a = n := ⟨a.toNat, by have := hv.lo; omega⟩
  obtain ⟨x, rfl, hx⟩ := u8_nat hb
  have h30 : lot ≤ 30 := by have := hv.hi; omega
  have ht := take30 hv.hi hg
  have hlen : l.length ≤ 3 := by simpa using hv.len
  have hne : l ≠ [] := by rintro rfl; exact hv.ne rfl
  have p1 : ¬ (wrap64 ((lot : Int) + 1) = 0) := by rw [w_nat (x := (lot : Int) + 1) (lot + 1) (by rw [Int.natCast_add]; rfl) (by omega)]; omega
  have hm := mean_ok (lot : Int) (l.map cSt) h.2 ((x % (lot + 1) : Nat) : Int) (by omega) (by have := Nat.mod_lt x (show 0 < lot + 1 by omega); omega)
  rw [Int.toNat_natCast, Int.toNat_natCast] at hm
  obtain ⟨b, hbe⟩ : ∃ b, b = x % (lot + 1) := ⟨_, rfl⟩
  have hbl : b ≤ lot := by have := Nat.mod_lt x (show 0 < lot + 1 by omega); omega
  rw [← hbe] at hm
  rw [plan_f _ l (by omega) 100 (by omega), Option.bind_some, if_neg p1, rem_f x lot (by omega) (by omega), ← hbe]
  unfold plan_Mean.f
  dsimp only
  rw [toStg_c61, hm, Option.bind_some, if_pos (by have := List.length_pos_iff.2 hne; omega)]
  dsimp only
  obtain ⟨c1, c2, c3, c4, c5, c6⟩ := cnt_ok hv b hbl
  have tk := takes_f (lot : Int) l [] 100 (by omega) (by simpa using hlen) ht
  rw [List.append_nil] at tk
  obtain ⟨s, l', rfl⟩ := List.exists_cons_of_ne_nil hne
  have er : rd_T57 (s :: l') 0 = s := rfl
  have hs := ht s (by simp)
  obtain ⟨T, hT⟩ : ∃ n : Nat, s.f0 = n := ⟨s.f0.toNat, by omega⟩
  have hTn : (cSt s).take.toNat = T := by show s.f0.toNat = T; rw [hT]; rfl
  have hT30 : T ≤ 30 := by omega
  have ge := cP_ge ((s :: l').map cSt) lot b 0 0 T (fun s' l'' e => by
    rw [List.map_cons] at e
    injection e with e1 e2
    rw [← e1, hTn, Nat.zero_add]
    exact Nat.le_refl _)
  rw [cD_rest _ lot b 0 0 hv.ne hv.last hbl] at ge
  have q1 := lowest_pos (cP ((s :: l').map cSt) lot b 0 0) _ c5
  have q2 := frac_ge _ _ T c5 ge
  have q3 := frac_le _ _ _ c5 c3
  have q4 := Nat.div_le_self (rest ((s :: l').map cSt) lot) (Nat.gcd (cP ((s :: l').map cSt) lot b 0 0) (rest ((s :: l').map cSt) lot))
  have hfirst : s.f2 = s.f1 + 1 → cP ((s :: l').map cSt) lot b 0 0 = T * rest ((s :: l').map cSt) lot := fun e => by
    have := cP_first (cSt s) (l'.map cSt) lot b 0 hbl e
    rw [hTn, Nat.zero_add] at this
    exact this
  rw [tk, er, hT]
  have hw : wrap64 (s.f1 + 1) = s.f1 + 1 := by
    have h1 := hg.1; have h2 := hg.2.1
    have h3 : (-1 : Int) ≤ s.f1 := h2.1
    have h4 : s.f1 < s.f2 := h2.2.1
    have h5 : s.f2 ≤ 0 + s.f0 + 1 := h2.2.2.1
    exact w_id (by omega) (by omega)
  rw [hw]
  have key : s.f2 = s.f1 + 1 → cP ((s :: l').map cSt) lot b 0 0 / Nat.gcd (cP ((s :: l').map cSt) lot b 0 0) (rest ((s :: l').map cSt) lot) = T ∧ rest ((s :: l').map cSt) lot / Nat.gcd (cP ((s :: l').map cSt) lot b 0 0) (rest ((s :: l').map cSt) lot) = 1 := fun e => by
    rw [hfirst e, Nat.gcd_eq_right (Nat.dvd_mul_left _ _), Nat.div_self c5, Nat.mul_div_cancel _ c5]
    exact ⟨rfl, rfl⟩
  have c7 : tot ((s :: l').map cSt) ≤ 30 := Nat.le_trans c4 h30
  generalize cP ((s :: l').map cSt) lot b 0 0 / Nat.gcd (cP ((s :: l').map cSt) lot b 0 0) (rest ((s :: l').map cSt) lot) = n at *
  generalize rest ((s :: l').map cSt) lot / Nat.gcd (cP ((s :: l').map cSt) lot b 0 0) (rest ((s :: l').map cSt) lot) = d at *
  generalize tot ((s :: l').map cSt) = t at *
  have d2 : d ≤ 6430000000000000 := Nat.le_trans q4 c6
  clear hm tk c1 c2 c3 ge hfirst hv hg hw hT hTn hs
  have m1 : T * d ≤ 30 * 6430000000000000 := Nat.mul_le_mul hT30 d2
  have m2 : t * d ≤ 30 * 6430000000000000 := Nat.mul_le_mul c7 d2
  have w1 : wrap64 ((T : Int) * (d : Int)) = ((T * d : Nat) : Int) := by
    rw [← Int.natCast_mul]
    generalize T * d = z at m1
    exact w_id (by omega) (by omega)
  have w2 : wrap64 ((t : Int) * (d : Int)) = ((t * d : Nat) : Int) := by
    rw [← Int.natCast_mul]
    generalize t * d = z at m2
    exact w_id (by omega) (by omega)
  have r1 : ¬ ((d : Int) < 1) := Int.not_lt.2 (Int.ofNat_le.2 q1)
  have r2 : ¬ ((n : Int) < ((T * d : Nat) : Int)) := Int.not_lt.2 (Int.ofNat_le.2 q2)
  have r3 : ¬ ((n : Int) > ((t * d : Nat) : Int)) := Int.not_lt.2 (Int.ofNat_le.2 q3)
  rw [if_pos rfl, if_neg r1, w1, if_neg r2, Option.bind_some, w2, if_neg r3]
  by_cases e : s.f2 = s.f1 + 1
  · obtain ⟨k1, k2⟩ := key e
    rw [if_pos e, if_pos (by rw [k1]), if_pos (by rw [k2]; rfl), wakes_f]
    rfl
  · rw [if_neg e, wakes_f]
    rfl
end Go.Proofs.Ytigpnafpdmdmhaa.Pure



namespace Go.Proofs.Ytigpnafpdmdmhaa.planBetween
open Go.ChangeShapes Go.WideShapes Go.ChangeAt Go.RowKit Go.Proofs.YtigpnafpdmdmhaaW.PrintWords
theorem own : ownKnob Try.prog.godebug = none := by kernel_rfl
theorem laidOut : laidOutB Try.prog = true := by kernel_rfl
set_option maxRecDepth 100000 in
theorem lifted (os : Os) (started : os.Started) (H : Type) (enc : TypeId × Value → H) :
    ReturnsInHanded {} Try.checked os 9 .any (Rows.planBetweenSpec.pre6 enc Try.prog Try.f9 Rows.planBetweenRow.domain false) (Rows.planBetweenSpec.post enc Try.prog Try.f9 false true false false) := by
  refine returnsInHanded_of_change_sized (C := Try.checked) own started (by kernel_rfl) Try.func9
    (ChangeSpec.witness6 (enc := enc) (C := Try.checked) false ⟨#[], #[.agg #[.int .i64 0, .slice none 0 0], .int .u8 0], []⟩ 8 (by kernel_rfl) (by kernel_rfl) (by kernel_rfl) (by kernel_rfl)) ?_
  intro W base args ds gs before hval0 hW hcnd hsz0 _
  have hval : ∀ (j : Nat) t v, Try.f9.params[j]? = some t → args[j]? = some v → Value.okWide Try.prog W .any base t v := hval0
  have hW' := hW
  obtain ⟨p, q, hA0, hV, rfl, hfz, hnd⟩ := hW
  have hA : DataW.TrodAll enc Try.prog W 0 (fun _ => true) true Try.f9.params.toList args.toList ds p := hA0
  rw [Try.params9] at hA hval
  obtain ⟨v0, vs0, d0, ds0, p0, q0, hargs, rfl, rfl, h0, r0⟩ := trodAll_cons hA
  obtain ⟨v1, vs1, d1, ds1, p1, q1, rfl, rfl, rfl, h1, r1⟩ := trodAll_cons r0
  obtain ⟨rfl, rfl, rfl⟩ := trodAll_nil r1
  obtain rfl : args = #[v0, v1] := by cases args; simp_all
  obtain ⟨rfl, rfl⟩ := trodVars_none hV
  have k0 := h0
  have lt0 : ∀ x ∈ p0, x.block < W.heap.size := by obtain ⟨m, hm⟩ := k0; exact DataW.trod_lt m _ _ _ hm
  obtain ⟨cs0, rfl, _⟩ := okWide_struct Try.underlying24 (hval 0 24 v0 rfl rfl)
  obtain ⟨a0, A0, c0, l0, e0, w0, hc0, hC0, y0⟩ : ∃ (a : Int) (A : Option Addr) (cap : Nat) (l : List P.S57), cs0 = #[.int .i64 a, .slice A l.length cap] ∧ P.Fits a ∧ l.length ≤ cap ∧ Kd.C P.k57 W A l.length l ∧ ∀ s ∈ l, P.Fits s.f0 ∧ P.Fits s.f1 ∧ P.Fits s.f2 := by
    obtain ⟨fuel, hf⟩ := h0
    obtain ⟨a, A, cap, l, e, h1, h2, h3, h4⟩ := P.open24 hf
    exact ⟨a, A, cap, l, Array.toList_inj.1 e, h1, h2, h3, h4⟩
  subst e0
  obtain ⟨a1, rfl, rfl, rfl, w1⟩ := open_int Try.underlying5 (hval 1 5 v1 rfl rfl) h1
  clear hA0 hval0 hsz0
  obtain ⟨k, hP⟩ := Pure.PlanBetween a0 l0 a1 w0 y0 w1
  refine (P.tensilelaw09_PlanBetween.calls k a0 A0 c0 l0 a1 true W hC0 hc0 hP).mono fun e W' ⟨he, bel⟩ => ?_
  subst he
  exact ⟨_, rfl, _, _, _, [], _, [], hW', trodAll_mk1 (shut_bool Try.underlying4 _), (trodAll_cons_mk (Below.trod laidOut (by kernel_rfl) (of_decide_eq_true (by kernel_rfl)) k0 bel lt0) (trodAll_cons_mk (shut_int Try.underlying5 w1) trodAll_mk0)), rfl, bel.frame _, fun h => by cases h⟩
theorem over : Rows.planBetweenRow.holds Try.pinned (OpenSpec.ofChange Rows.planBetweenSpec) :=
  OpenClaim.holds_of_wide 9 Try.f9 rfl rfl rfl rfl rfl rfl rfl ⟨rfl, rfl, rfl, rfl, rfl⟩ rfl rfl rfl rfl rfl (by kernel_rfl) Try.func9 (by kernel_rfl)
    (of_decide_eq_true (by kernel_rfl)) (by unfold Func.isWrapper; first | (rw [if_pos (by decide +kernel)]; kernel_rfl) | (rw [if_neg (by decide +kernel)]; exact ⟨rfl, rfl⟩))
    (fun os started H enc _ => lifted os started H enc)
theorem proved : Rows.PlanBetweenSaid := over
end Go.Proofs.Ytigpnafpdmdmhaa.planBetween
namespace Go.Proofs.Ytigpnafpdmdmhaa
/-- The row, under a short name, for the claim. -/
theorem planBetween_holds : Rows.PlanBetweenSaid := planBetween.proved
end Go.Proofs.Ytigpnafpdmdmhaa
#print axioms Go.Proofs.Ytigpnafpdmdmhaa.planBetween_holds
