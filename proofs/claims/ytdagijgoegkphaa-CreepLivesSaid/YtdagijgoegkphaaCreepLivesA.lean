/- The statement CreepLives: whatever the input (its guards are the law's own), the call returns true, and each argument reads as it did. -/
import Derived.Test.YtdagijgoegkphaaC2
import Derived.Test.YtdagijgoegkphaaC3
import Derived.Test.YtdagijgoegkphaaRows
import Derived.WalkKit
import Derived.ProofKit
import Derived.OpenShut
import Derived.ShutString
import Derived.ChangeOld
import Derived.Below
import Derived.SizedLaws
set_option linter.unusedVariables false
set_option linter.unusedSimpArgs false
namespace Go.Proofs.Ytdagijgoegkphaa.P
open Go.RowKit Go.Proofs.YtdagijgoegkphaaW.PrintWords Go.Proofs.YtdagijgoegkphaaW.PrintLast Go.Proofs.YtdagijgoegkphaaW.PrintMore
attribute [local go_sem] max2_int min2_int max_two min_two max_three min_three max_four min_four   -- for this text's walks alone

/-! ### tensileref05_Lists: function 50 -/
mutual
def tensileref05_Lists.j0 : Nat → List Int → List (List Int) → Int → List (S54) → Int → Int → Option ((List (List Int)))
 | 0, _, _, _, _, _, _ => none
 | k + 1, x1, x5, x7, x227000, x232000, x232001 => tensileref05_Lists.l0 k x1 x5 x7 x227000 x232000 x232001
def tensileref05_Lists.l0 : Nat → List Int → List (List Int) → Int → List (S54) → Int → Int → Option ((List (List Int)))
 | 0, _, _, _, _, _, _ => none
 | k + 1, x1, x5, x9, x227000, x232000, x232001 => if x9 ≤ x232001 then ((some (([] : List Int) : List Int)).bind fun y233 => (if y233.length + x1.length < 17592186044416 then ((some (y233 ++ x1 : List Int)).bind fun y236 => ((some (([x9] : List Int) : List Int)).bind fun y239 => (if y236.length + y239.length < 17592186044416 then ((tensileref05_Lists.f k x227000 (y236 ++ y239)).bind fun t245 => (if x5.length + t245.length < 5864062014805 then (tensileref05_Lists.l0 k x1 (x5 ++ t245) (wrap64 (x9 + 1)) x227000 x232000 x232001) else (none))) else (none)))) else (none))) else (some x5)
def tensileref05_Lists.f : Nat → List (S54) → List Int → Option ((List (List Int)))
 | 0, _, _ => none
 | k + 1, l0_0, l1 => if (l1.length : Int) = (l0_0.length : Int) then (some (([l1] : List (List Int)))) else (if 0 ≤ (l1.length : Int) then (if (l1.length : Int) < (l0_0.length : Int) then (if (l1.length : Int) > 0 then (if 0 ≤ (wrap64 ((l1.length : Int) - 1)) then (if (wrap64 ((l1.length : Int) - 1)) < (l1.length : Int) then (tensileref05_Lists.j0 k l1 ([] : List (List Int)) (mx ((rd_T54 l0_0 (l1.length : Int)).f0) (rd l1 (wrap64 ((l1.length : Int) - 1)))) l0_0 ((rd_T54 l0_0 (l1.length : Int)).f0) ((rd_T54 l0_0 (l1.length : Int)).f1)) else (none)) else (none)) else (tensileref05_Lists.j0 k l1 ([] : List (List Int)) ((rd_T54 l0_0 (l1.length : Int)).f0) l0_0 ((rd_T54 l0_0 (l1.length : Int)).f0) ((rd_T54 l0_0 (l1.length : Int)).f1))) else (none)) else (none))
end
def tensileref05_Lists.T12 : Bool × List (List Nat × List Nat) := (true, [([], []), ([], []), ([], []), ([], []), ([2, 3], [2, 3]), ([], []), ([5], [5]), ([4, 6, 4], [4, 6]), ([1, 7, 7], [1, 7]), ([0, 8, 8], [0, 8]), ([9, 9, 0, 1, 2, 3, 4, 5, 6, 7, 8, 9], [0, 9])])
def tensileref05_Lists.B12 : List Nat := [0, 0, 0, 0, 12, 0, 32, 124, 254, 511, 1023]
theorem tensileref05_Lists.tab12 : rtab .any (opsOf Try.f50 12) = tensileref05_Lists.T12 := by kernel_rfl
theorem tensileref05_Lists.bits12 : waitsOk tensileref05_Lists.T12.2 tensileref05_Lists.B12 = true := by kernel_rfl
set_option maxHeartbeats 8000000 in
set_option maxRecDepth 100000 in
theorem tensileref05_Lists.calls (k : Nat) : ∀ (A0_0 : Option Addr) (c0_0 : Nat) (l0_0 : List (S54)) (P1_ : Nat → Prop) (A1 : Option Addr) (c1 : Nat) (l1 : List Int) (r : List (List Int)) (w : World) (hr0_0 : Kd.C k54 w A0_0 l0_0.length l0_0) (hc0_0 : l0_0.length ≤ c0_0) (hs1 : Kd.V (Kd.int .i64) 3 w w.heap.size (fun k_ => P1_ k_) (.slice A1 l1.length c1) l1) (h : tensileref05_Lists.f k l0_0 l1 = some r),
  Calls Try.prog 50 #[.agg #[.slice A0_0 l0_0.length c0_0], .slice A1 l1.length c1] w fun e w' => ∃ v0_ : Value, e = .returned (v0_) ∧ Kd.N (Kd.slice 3 (Kd.int .i64)) 31 w' w.heap.size (fun k_ => (P1_ k_ ∨ w.heap.size ≤ k_)) v0_ r ∧ Below w.heap.size w w' := by
 induction k using Nat.strongRecOn with
 | _ k ih =>
 intro A0_0 c0_0 l0_0 P1_ A1 c1 l1 r w hr0_0 hc0_0 hs1 h
 cases k with
 | zero => exact absurd h (by simp [tensileref05_Lists.f])
 | succ k =>
 simp only [tensileref05_Lists.f] at h
 have hu24 := Try.underlying24
 have hu54 := Try.underlying54
 have HR0_0 := Aside0.mk hr0_0
 have HC0_0 := Aside0.mk hc0_0
 clear hr0_0 hc0_0
 have HO1 := Aside0.mk (show Kd.V (Kd.int .i64) 3 w w.heap.size (fun k_ => (P1_ k_ ∨ w.heap.size ≤ k_)) (.slice A1 l1.length c1) l1 from Kd.V_mono hs1 (fun k_ hk => .inl hk))
 have HB := Aside0.mk (Below.refl w.heap.size w)
 have H : (if (l1.length : Int) = (l0_0.length : Int) then (some (([l1] : List (List Int)))) else (if 0 ≤ (l1.length : Int) then (if (l1.length : Int) < (l0_0.length : Int) then (if (l1.length : Int) > 0 then (if 0 ≤ (wrap64 ((l1.length : Int) - 1)) then (if (wrap64 ((l1.length : Int) - 1)) < (l1.length : Int) then (tensileref05_Lists.j0 k l1 ([] : List (List Int)) (mx ((rd_T54 l0_0 (l1.length : Int)).f0) (rd l1 (wrap64 ((l1.length : Int) - 1)))) l0_0 ((rd_T54 l0_0 (l1.length : Int)).f0) ((rd_T54 l0_0 (l1.length : Int)).f1)) else (none)) else (none)) else (tensileref05_Lists.j0 k l1 ([] : List (List Int)) ((rd_T54 l0_0 (l1.length : Int)).f0) l0_0 ((rd_T54 l0_0 (l1.length : Int)).f0) ((rd_T54 l0_0 (l1.length : Int)).f1))) else (none)) else (none))) = some r := h
 clear h
 by_cases c3 : (l1.length : Int) = (l0_0.length : Int)
 ·
  rw [if_pos c3] at H
  have c3b0 : ((l1.length : Int) == (l0_0.length : Int)) = true := beq_iff_eq.mpr c3
  have c3b1 : ((l1.length : Int) != (l0_0.length : Int)) = false := bne_eq_false_iff_eq.mpr c3
  have c3b2 : (l1.length == l0_0.length) = true := by first | simpa using c3 | (simp at c3 ⊢; omega)
  clear c3
  obtain ⟨y227, hy227⟩ : ∃ y_ : List (List Int), y_ = (([l1] : List (List Int))) := ⟨_, rfl⟩
  replace H : (some y227) = some r := by first | (rw [hy227]; with_reducible exact H) | (have H2_ := (Option.bind_some _ _).symm.trans H; rw [hy227]; with_reducible exact H2_) | (have H2_ := (Option.bind_some _ _).symm.trans H; with_reducible exact H2_) | with_reducible exact H | (rw [hy227]; exact H) | exact H
  have Ny227 := Aside0.mk hy227
  clear hy227
  obtain rfl := Option.some.inj H
  go_enter Try.func50, Try.ntmps50
  go_wp2_with (first | ((with_reducible refine gate_dst (N := 2) rfl ?_); refine box_event ?hg (N := 2) ?hd (cs := #[.slice A0_0 l0_0.length c0_0]) (t := 24) ?hr ?_; (case hd => rfl); (case hg => rfl); (case hr => first | (go_simp; done) | (go_simp; rfl)); intro gb226 hg w4 hbox hb; have n0_ := Aside0.mk (Kd.V_below (Kd.V_elderB (by (with_reducible repeat (first | apply Kd.V_alloc | apply Kd.V_drewN | apply Kd.V_drew)); exact HO1.out) gb226 (Nat.le_of_eq hg.symm)) hb); have n1_ := Aside0.mk (below_step (by repeat (first | (with_reducible first | exact HB.out | apply below_alloc | apply pw_below_drewN | apply below_drew1) | exact HB.out)) hb); have n2_ := Aside0.mk (hbox); have n3_ := Aside0.mk ((by rw [hg]; exact (below_size (by repeat (first | (with_reducible first | exact HB.out | apply below_alloc | apply pw_below_drewN | apply below_drew1) | exact HB.out))) : w.heap.size ≤ gb226)); have n4_ := Aside0.mk ((by rw [hg]; exact (below_size (by repeat (first | (with_reducible first | exact HB.out | apply below_alloc | apply pw_below_drewN | apply below_drew1) | exact HB.out))) : w.heap.size ≤ gb226)); clear HO1; clear HB; have HO1 := n0_; have HB := n1_; have BK226 := n2_; have GW226 := n3_; have GE226 := n4_; clear n0_ n1_ n2_ n3_ n4_; clear hb hbox hg; have hcz5_0 : w4.cell? ⟨gb226, 0, none⟩ = some (.slice A0_0 l0_0.length c0_0) := (blk_cell BK226.out 0).trans rfl; have hfz5_0 := blk_frozen BK226.out 0) | ((with_reducible refine gate_dst (N := 17) rfl ?_); refine Kd.N_lit (Kd.slice 3 (Kd.int .i64)) _ 31 ?hg (N' := 17) ?hd (xs := ([l1] : List (List Int))) (inner := [.slice A1 l1.length c1]) (ok := (fun k_ => (P1_ k_ ∨ w.heap.size ≤ k_) ∧ k_ ≠ gb226)) (okp := (fun k_ => (P1_ k_ ∨ w.heap.size ≤ k_) ∧ k_ ≠ gb226)) ?hr ?hp (fun _ hk => hk) ((show ∀ k_, w4.heap.size ≤ k_ → (fun k_ => (P1_ k_ ∨ w.heap.size ≤ k_) ∧ k_ ≠ gb226) k_ from fun k_ hk => ⟨(.inr (Nat.le_trans (below_size (by repeat (first | (with_reducible first | exact HB.out | apply below_alloc | apply pw_below_drewN | apply below_drew1 | refine below_set ?_ GE226.out) | exact HB.out))) hk)), Kd.freshB (g := gb226) (o := .cells #[.slice A0_0 l0_0.length c0_0] 24 (0, 0)) (by (with_reducible repeat (first | refine blk_drewN ?_ _ | refine blk_drew ?_ | refine blk_alloc ?_ _)); exact BK226.out) k_ hk⟩) _ (Nat.le_refl _)) (Below.refl _ _) (Nat.le_refl _) (by simp) ?_; (case hd => rfl); (case hg => rfl); (case hr => first | (go_simp; done) | (go_simp; rfl)); (case hp => exact (Reps.one (show Kd.FK (Kd.slice 3 (Kd.int .i64)) _ _ l1 [.slice A1 l1.length c1] from (Kd.FK_slice_mk (Kd.V_reads' (Kd.V_mono (ok' := (fun k_ => (P1_ k_ ∨ w.heap.size ≤ k_) ∧ k_ ≠ gb226)) (HO1.out) (fun k_ hk => ⟨hk.1, hk.2⟩))).2.1 (Kd.V_F (Kd.V_mono (ok' := (fun k_ => (P1_ k_ ∨ w.heap.size ≤ k_) ∧ k_ ≠ gb226)) (HO1.out) (fun k_ hk => ⟨hk.1, hk.2⟩))))) (Reps.none _ _))); intro v228 w6 ho7 hb hg_ hnew_; clear hg_ hnew_; (first | rw [← Ny227.out] at ho7 | (simp only [Int.reduceToNat] at ho7; rw [← Ny227.out] at ho7)); have n0_ := Aside0.mk (Kd.V_elder' (by (with_reducible repeat (first | apply Kd.V_alloc | apply Kd.V_drewN | apply Kd.V_drew)); exact HO1.out) (Kd.N_base ho7) hb); have n1_ := Aside0.mk (Kd.N_lower ho7 (below_size (by repeat (first | (with_reducible first | exact HB.out | apply below_alloc | apply pw_below_drewN | apply below_drew1 | refine below_set ?_ GE226.out) | exact HB.out)))); have n2_ := Aside0.mk (blk_below (g := gb226) (o := .cells #[.slice A0_0 l0_0.length c0_0] 24 (0, 0)) (by (with_reducible repeat (first | refine blk_drewN ?_ _ | refine blk_drew ?_ | refine blk_alloc ?_ _)); exact BK226.out) hb); have n3_ := Aside0.mk (below_step (by repeat (first | (with_reducible first | exact HB.out | apply below_alloc | apply pw_below_drewN | apply below_drew1 | refine below_set ?_ GE226.out) | exact HB.out)) hb); clear HO1; clear BK226; clear HB; have HO1 := n0_; have HO229 := n1_; have BK226 := n2_; have HB := n3_; clear n0_ n1_ n2_ n3_; clear hb ho7))
  go_ret
  exact ⟨_, by first | rfl | (simp [errW_none, errW_some] <;> rfl) | (simp [*, errW_none, errW_some] <;> rfl), by (with_reducible repeat (first | apply Kd.N_alloc | apply Kd.N_drewN | apply Kd.N_drew)); exact Kd.N_mono HO229.out (fun _ hk => hk.1), by repeat (first | (with_reducible first | exact HB.out | apply below_alloc | apply pw_below_drewN | apply below_drew1 | refine below_set ?_ GE226.out) | exact HB.out)⟩
 ·
  rw [if_neg c3] at H
  have c3b0 : ((l1.length : Int) == (l0_0.length : Int)) = false := beq_eq_false_iff_ne.mpr c3
  have c3b1 : ((l1.length : Int) != (l0_0.length : Int)) = true := bne_iff_ne.mpr c3
  have c3b2 : (l1.length == l0_0.length) = false := by first | simpa using c3 | (simp at c3 ⊢; omega)
  by_cases c8 : 0 ≤ (l1.length : Int)
  ·
   rw [if_pos c8] at H
   have c8b0 : decide (0 ≤ (l1.length : Int)) = true := decide_eq_true c8
   have c8b1 : decide (0 ≤ l1.length) = true := decide_eq_true (by omega)
   clear c8
   by_cases c9 : (l1.length : Int) < (l0_0.length : Int)
   ·
    rw [if_pos c9] at H
    have c9b0 : decide ((l1.length : Int) < (l0_0.length : Int)) = true := decide_eq_true c9
    have c9b1 : decide (l1.length < l0_0.length) = true := decide_eq_true (Int.ofNat_lt.mp c9)
    clear c9
    have HC10 := Aside0.mk H
    clear H
    go_enter Try.func50, Try.ntmps50
    go_upto_if 29 with (first | ((with_reducible refine gate_dst (N := 2) rfl ?_); refine box_event ?hg (N := 2) ?hd (cs := #[.slice A0_0 l0_0.length c0_0]) (t := 24) ?hr ?_; (case hd => rfl); (case hg => rfl); (case hr => first | (go_simp; done) | (go_simp; rfl)); intro gb226 hg w11 hbox hb; have n0_ := Aside0.mk (Kd.V_below (Kd.V_elderB (by (with_reducible repeat (first | apply Kd.V_alloc | apply Kd.V_drewN | apply Kd.V_drew)); exact HO1.out) gb226 (Nat.le_of_eq hg.symm)) hb); have n1_ := Aside0.mk (below_step (by repeat (first | (with_reducible first | exact HB.out | apply below_alloc | apply pw_below_drewN | apply below_drew1) | exact HB.out)) hb); have n2_ := Aside0.mk (hbox); have n3_ := Aside0.mk ((by rw [hg]; exact (below_size (by repeat (first | (with_reducible first | exact HB.out | apply below_alloc | apply pw_below_drewN | apply below_drew1) | exact HB.out))) : w.heap.size ≤ gb226)); have n4_ := Aside0.mk ((by rw [hg]; exact (below_size (by repeat (first | (with_reducible first | exact HB.out | apply below_alloc | apply pw_below_drewN | apply below_drew1) | exact HB.out))) : w.heap.size ≤ gb226)); clear HO1; clear HB; have HO1 := n0_; have HB := n1_; have BK226 := n2_; have GW226 := n3_; have GE226 := n4_; clear n0_ n1_ n2_ n3_ n4_; clear hb hbox hg; have hcz12_0 : w11.cell? ⟨gb226, 0, none⟩ = some (.slice A0_0 l0_0.length c0_0) := (blk_cell BK226.out 0).trans rfl; have hfz12_0 := blk_frozen BK226.out 0; have p230 : 0 ≤ ((l1.length : Int) : Int) := of_decide_eq_true (by first | (with_reducible assumption) | assumption); have q230 : (l1.length : Int) < (l0_0.length : Int) := of_decide_eq_true (by first | (with_reducible assumption) | assumption); obtain ⟨ad230, e230, hx230_0, hx230_1⟩ := at_T54 HR0_0.out (l1.length : Int) p230 q230; cases e230; replace hx230_0 := (HB.out.cell (World.block_lt_of_cell? w _ hx230_0)).trans hx230_0; replace hx230_1 := (HB.out.cell (World.block_lt_of_cell? w _ hx230_1)).trans hx230_1; (try simp only [Go.IntWalk.toNatUp] at hx230_0); (try simp only [Go.IntWalk.toNatUp] at hx230_1); replace p230 := eq_true p230; replace q230 := eq_true q230) | ((with_reducible refine gate_dst (N := 6) rfl ?_); refine box_event ?hg (N := 6) ?hd (cs := #[.int .i64 0, .int .i64 0]) (t := 54) ?hr ?_; (case hd => rfl); (case hg => rfl); (case hr => first | (go_simp; done) | (go_simp; rfl)); intro gb231 hg w13 hbox hb; have n0_ := Aside0.mk (Kd.V_below (Kd.V_elderB (by (with_reducible repeat (first | apply Kd.V_alloc | apply Kd.V_drewN | apply Kd.V_drew)); exact HO1.out) gb231 (Nat.le_of_eq hg.symm)) hb); have n1_ := Aside0.mk (blk_below (g := gb226) (o := .cells #[.slice (some ad230) l0_0.length c0_0] 24 (0, 0)) (by (with_reducible repeat (first | refine blk_drewN ?_ _ | refine blk_drew ?_ | refine blk_alloc ?_ _)); exact BK226.out) hb); have n2_ := Aside0.mk (below_step (by repeat (first | (with_reducible first | exact HB.out | apply below_alloc | apply pw_below_drewN | apply below_drew1 | refine below_set ?_ GE226.out) | exact HB.out)) hb); have n3_ := Aside0.mk (hbox); have n4_ := Aside0.mk ((by rw [hg]; exact (below_size (by repeat (first | (with_reducible first | exact HB.out | apply below_alloc | apply pw_below_drewN | apply below_drew1 | refine below_set ?_ GE226.out) | exact HB.out))) : w.heap.size ≤ gb231)); have n5_ := Aside0.mk ((by rw [hg]; exact (below_size (by repeat (first | (with_reducible first | exact HB.out | apply below_alloc | apply pw_below_drewN | apply below_drew1 | refine below_set ?_ GE226.out) | exact HB.out))) : w.heap.size ≤ gb231)); have n6_ := Aside0.mk ((by rw [hg]; exact Nat.ne_of_lt (blk_lt (g := gb226) (o := .cells #[.slice (some ad230) l0_0.length c0_0] 24 (0, 0)) (by (with_reducible repeat (first | refine blk_drewN ?_ _ | refine blk_drew ?_ | refine blk_alloc ?_ _)); exact BK226.out)) : gb226 ≠ gb231)); have n7_ := Aside0.mk ((by rw [hg]; exact Nat.ne_of_gt (blk_lt (g := gb226) (o := .cells #[.slice (some ad230) l0_0.length c0_0] 24 (0, 0)) (by (with_reducible repeat (first | refine blk_drewN ?_ _ | refine blk_drew ?_ | refine blk_alloc ?_ _)); exact BK226.out)) : gb231 ≠ gb226)); clear HO1; clear BK226; clear HB; have HO1 := n0_; have BK226 := n1_; have HB := n2_; have BK231 := n3_; have GW231 := n4_; have GE231 := n5_; have NB226_231 := n6_; have NB231_226 := n7_; clear n0_ n1_ n2_ n3_ n4_ n5_ n6_ n7_; clear hb hbox hg; have hnb14 := NB231_226.out; have hnc14 := NB226_231.out; have hcz15_0 : w13.cell? ⟨gb231, 0, none⟩ = some (.int .i64 0) := (blk_cell BK231.out 0).trans rfl; have hcz15_1 : w13.cell? ⟨gb231, 1, none⟩ = some (.int .i64 0) := (blk_cell BK231.out 1).trans rfl; have hfz15_0 := blk_frozen BK231.out 0; have hfz15_1 := blk_frozen BK231.out 1))
    (try simp only [Act.put, List.setIfInBounds_toArray, List.set_cons_zero, List.set_cons_succ])
    go_cut [7] (fun v7 wc => ∃ (kq : Nat) (x7_9 : Int), v7 = .int .i64 x7_9 ∧ Aside0 (tensileref05_Lists.j0 kq l1 ([] : List (List Int)) x7_9 l0_0 ((rd_T54 l0_0 (l1.length : Int)).f0) ((rd_T54 l0_0 (l1.length : Int)).f1) = some r) ∧ Aside0 (kq ≤ k) ∧ Aside0 (Kd.V (Kd.int .i64) 3 wc w.heap.size (fun k_ => (P1_ k_ ∨ w.heap.size ≤ k_) ∧ some k_ ≠ ((.slice none 0 0) : Value).ownBlock ∧ k_ ≠ gb226 ∧ k_ ≠ gb231) (.slice A1 l1.length c1) l1) ∧ Aside0 (Kd.N (Kd.slice 3 (Kd.int .i64)) 31 wc w.heap.size (fun k_ => (P1_ k_ ∨ w.heap.size ≤ k_) ∧ k_ ≠ gb226 ∧ k_ ≠ gb231) (.slice none 0 0) ([] : List (List Int))) ∧ Aside0 (wc.heap[gb226]? = some (.cells #[(.slice (some ad230) l0_0.length c0_0)] 24 (0, 0))) ∧ Aside0 (wc.heap[gb231]? = some (.cells #[.int .i64 ((rd_T54 l0_0 (l1.length : Int)).f0), .int .i64 ((rd_T54 l0_0 (l1.length : Int)).f1)] 54 (0, 0))) ∧ Aside0 (Below w.heap.size w wc))
    case first =>
     have H := HC10.out
     clear HC10
     by_cases c16 : (l1.length : Int) > 0
     ·
      rw [if_pos c16] at H
      have c16b0 : decide (0 < (l1.length : Int)) = true := decide_eq_true c16
      have c16b1 : decide (0 < l1.length) = true := decide_eq_true (by omega)
      clear c16
      (first | rw [c16b0] | rw [c16b1] | (simp only [i64_w, i32_w]; rw [c16b0]) | skip)
      obtain ⟨ji17, hji17⟩ : ∃ j_ : Int, (wrap64 ((l1.length : Int) - 1)) = j_ := ⟨_, rfl⟩
      replace H : (if 0 ≤ (ji17) then (if (ji17) < (l1.length : Int) then (tensileref05_Lists.j0 k l1 ([] : List (List Int)) (mx ((rd_T54 l0_0 (l1.length : Int)).f0) (rd l1 (ji17))) l0_0 ((rd_T54 l0_0 (l1.length : Int)).f0) ((rd_T54 l0_0 (l1.length : Int)).f1)) else (none)) else (none)) = some r := by first | (rw [hji17] at H; exact H) | (simp only [hji17] at H ⊢; exact H)
      have hji17w : (IntKind.i64.wrap ((l1.length : Int) - 1)) = ji17 := (i64_w _).trans hji17
      by_cases c18 : 0 ≤ (ji17)
      ·
       rw [if_pos c18] at H
       have c18b0 : decide (0 ≤ (ji17)) = true := decide_eq_true c18
       clear c18
       by_cases c19 : (ji17) < (l1.length : Int)
       ·
        rw [if_pos c19] at H
        have c19b0 : decide ((ji17) < (l1.length : Int)) = true := decide_eq_true c19
        clear c19
        obtain ⟨ji20, hji20⟩ : ∃ j_ : Int, (mx ((rd_T54 l0_0 (l1.length : Int)).f0) (rd l1 (ji17))) = j_ := ⟨_, rfl⟩
        replace H : (tensileref05_Lists.j0 k l1 ([] : List (List Int)) ji20 l0_0 ((rd_T54 l0_0 (l1.length : Int)).f0) ((rd_T54 l0_0 (l1.length : Int)).f1)) = some r := by first | (rw [hji20] at H; exact H) | (simp only [hji20] at H ⊢; exact H)
        have hji20_ : (if ((rd_T54 l0_0 (l1.length : Int)).f0) < (rd l1 (ji17)) then (rd l1 (ji17)) else ((rd_T54 l0_0 (l1.length : Int)).f0)) = ji20 := hji20
        have H' := Aside0.mk H
        clear H
        have p232 : 0 ≤ ((ji17) : Int) := of_decide_eq_true (by first | (with_reducible assumption) | assumption)
        have q232 : (ji17) < (l1.length : Int) := of_decide_eq_true (by first | (with_reducible assumption) | assumption)
        obtain ⟨ad232, e232, hx232_0⟩ := Kd.at_int (Kd.V_reads' (Kd.V_far (p := ⟨gb231, 1, none⟩) (Kd.V_far (p := ⟨gb231, 0, none⟩) (Kd.V_mono HO1.out (fun k_ hk => (⟨hk, hk.2⟩ : _ ∧ k_ ≠ gb231))) (fun _ hk => hk.2) (.int .i64 ((rd_T54 l0_0 (l1.length : Int)).f0))) (fun _ hk => hk.2) (.int .i64 ((rd_T54 l0_0 (l1.length : Int)).f1)))).2.2 (ji17) p232 q232
        cases e232
        replace p232 := eq_true p232
        replace q232 := eq_true q232
        go_wp2
        go_meet
        case rel => exact ⟨_, (ji20), (by first | rfl | (simp; done) | (simp only [← hji20] <;> (first | rfl | simp)) | (simp [*]; done)), H', ⟨by first | omega | exact Nat.le_refl _⟩, ⟨by (with_reducible repeat (first | apply Kd.V_alloc | apply Kd.V_drewN | apply Kd.V_drew)); exact Kd.V_mono (Kd.V_far (p := ⟨gb231, 1, none⟩) (Kd.V_far (p := ⟨gb231, 0, none⟩) (Kd.V_mono HO1.out (fun k_ hk => (⟨hk, hk.2⟩ : _ ∧ k_ ≠ gb231))) (fun _ hk => hk.2) (.int .i64 ((rd_T54 l0_0 (l1.length : Int)).f0))) (fun _ hk => hk.2) (.int .i64 ((rd_T54 l0_0 (l1.length : Int)).f1))) (fun _ hk => ⟨hk.1.1.1, ⟨(by simp [Value.ownBlock]), ⟨hk.1.1.2, hk.1.2⟩⟩⟩)⟩, ⟨by first | exact Kd.S_nil _ _ _ _ _ | exact Kd.N_nil _ _ _ _ _ | exact Kd.V_nil _ _ _ _ _ | exact Kd.Q_nil _ _ _ _ _ | exact Kd.R_nil _ _ _ _ _⟩, ⟨by (with_reducible repeat (first | refine blk_drewN ?_ _ | refine blk_drew ?_ | refine blk_alloc ?_ _)); refine blk_far ?_ NB226_231.out _; (with_reducible repeat (first | refine blk_drewN ?_ _ | refine blk_drew ?_ | refine blk_alloc ?_ _)); refine blk_far ?_ NB226_231.out _; (with_reducible repeat (first | refine blk_drewN ?_ _ | refine blk_drew ?_ | refine blk_alloc ?_ _)); exact BK226.out⟩, ⟨by (with_reducible repeat (first | refine blk_drewN ?_ _ | refine blk_drew ?_ | refine blk_alloc ?_ _)); refine blk_put (cs := #[.int .i64 ((rd_T54 l0_0 (l1.length : Int)).f0), .int .i64 0]) ?_ 1 _ rfl; (with_reducible repeat (first | refine blk_drewN ?_ _ | refine blk_drew ?_ | refine blk_alloc ?_ _)); refine blk_put (cs := #[.int .i64 0, .int .i64 0]) ?_ 0 _ rfl; (with_reducible repeat (first | refine blk_drewN ?_ _ | refine blk_drew ?_ | refine blk_alloc ?_ _)); exact BK231.out⟩, ⟨by repeat (first | (with_reducible first | exact HB.out | apply below_alloc | apply pw_below_drewN | apply below_drew1 | refine below_set ?_ GE226.out | refine below_set ?_ GE231.out) | exact HB.out)⟩⟩
       ·
        rw [if_neg c19] at H
        exact absurd H (by simp)
      ·
       rw [if_neg c18] at H
       exact absurd H (by simp)
     ·
      rw [if_neg c16] at H
      have c16b0 : decide (0 < (l1.length : Int)) = false := decide_eq_false c16
      have c16b1 : decide (0 < l1.length) = false := decide_eq_false (by omega)
      clear c16
      (first | rw [c16b0] | rw [c16b1] | (simp only [i64_w, i32_w]; rw [c16b0]) | skip)
      have H' := Aside0.mk H
      clear H
      go_wp2
      go_meet
      case rel => exact ⟨_, ((rd_T54 l0_0 (l1.length : Int)).f0), (by first | rfl | (simp; done) | (simp [*]; done)), H', ⟨by first | omega | exact Nat.le_refl _⟩, ⟨by (with_reducible repeat (first | apply Kd.V_alloc | apply Kd.V_drewN | apply Kd.V_drew)); exact Kd.V_mono (Kd.V_far (p := ⟨gb231, 1, none⟩) (Kd.V_far (p := ⟨gb231, 0, none⟩) (Kd.V_mono HO1.out (fun k_ hk => (⟨hk, hk.2⟩ : _ ∧ k_ ≠ gb231))) (fun _ hk => hk.2) (.int .i64 ((rd_T54 l0_0 (l1.length : Int)).f0))) (fun _ hk => hk.2) (.int .i64 ((rd_T54 l0_0 (l1.length : Int)).f1))) (fun _ hk => ⟨hk.1.1.1, ⟨(by simp [Value.ownBlock]), ⟨hk.1.1.2, hk.1.2⟩⟩⟩)⟩, ⟨by first | exact Kd.S_nil _ _ _ _ _ | exact Kd.N_nil _ _ _ _ _ | exact Kd.V_nil _ _ _ _ _ | exact Kd.Q_nil _ _ _ _ _ | exact Kd.R_nil _ _ _ _ _⟩, ⟨by (with_reducible repeat (first | refine blk_drewN ?_ _ | refine blk_drew ?_ | refine blk_alloc ?_ _)); refine blk_far ?_ NB226_231.out _; (with_reducible repeat (first | refine blk_drewN ?_ _ | refine blk_drew ?_ | refine blk_alloc ?_ _)); refine blk_far ?_ NB226_231.out _; (with_reducible repeat (first | refine blk_drewN ?_ _ | refine blk_drew ?_ | refine blk_alloc ?_ _)); exact BK226.out⟩, ⟨by (with_reducible repeat (first | refine blk_drewN ?_ _ | refine blk_drew ?_ | refine blk_alloc ?_ _)); refine blk_put (cs := #[.int .i64 ((rd_T54 l0_0 (l1.length : Int)).f0), .int .i64 0]) ?_ 1 _ rfl; (with_reducible repeat (first | refine blk_drewN ?_ _ | refine blk_drew ?_ | refine blk_alloc ?_ _)); refine blk_put (cs := #[.int .i64 0, .int .i64 0]) ?_ 0 _ rfl; (with_reducible repeat (first | refine blk_drewN ?_ _ | refine blk_drew ?_ | refine blk_alloc ?_ _)); exact BK231.out⟩, ⟨by repeat (first | (with_reducible first | exact HB.out | apply below_alloc | apply pw_below_drewN | apply below_drew1 | refine below_set ?_ GE226.out | refine below_set ?_ GE231.out) | exact HB.out)⟩⟩
    case rest =>
     clear HC10
     try clear c1
     try clear p2
     try clear q2
     try clear hx2
     try clear c3
     try clear c3b0
     try clear c3b1
     try clear c3b2
     try clear c5
     try clear p6
     try clear c8
     try clear c8b0
     try clear c8b1
     try clear c9
     try clear c9b0
     try clear c9b1
     try clear c14
     try clear c16
     try clear c16b0
     try clear c16b1
     try clear c18
     try clear c18b0
     try clear c19
     try clear c19b0
     try clear hcz12_0
     try clear hcz15_0
     try clear hcz15_1
     try clear hcz5_0
     try clear hfz12_0
     try clear hfz15_0
     try clear hfz15_1
     try clear hfz5_0
     try clear hx230_0
     try clear hx230_1
     try clear hx232_0
     try clear p230
     try clear p232
     try clear q230
     try clear q232
     obtain ⟨kq, x7_9, rfl, HA, HJ9, HO_1, HO_5, BK226, BK231, HB⟩ := hcut
     cases kq with
     | zero => exact absurd HA.out (by simp [tensileref05_Lists.j0])
     | succ kj9 =>
      have H := HA.out
      clear HA
      simp only [tensileref05_Lists.j0] at H
      have H' := Aside0.mk H
      clear H
      go_wp2
      go_loopg [5, 9] kj9 (fun kq v5 v9 w' => ∃ (x5_2 : List (List Int)) (x9_2 : Int), v9 = .int .i64 x9_2 ∧ Aside0 (tensileref05_Lists.l0 kq l1 x5_2 x9_2 l0_0 ((rd_T54 l0_0 (l1.length : Int)).f0) ((rd_T54 l0_0 (l1.length : Int)).f1) = some r) ∧ Aside0 (kq ≤ kj9) ∧ Aside0 (Kd.V (Kd.int .i64) 3 w' w.heap.size (fun k_ => (P1_ k_ ∨ w.heap.size ≤ k_) ∧ some k_ ≠ (v5 : Value).ownBlock ∧ k_ ≠ gb226 ∧ k_ ≠ gb231) (.slice A1 l1.length c1) l1) ∧ Aside0 (Kd.N (Kd.slice 3 (Kd.int .i64)) 31 w' w.heap.size (fun k_ => (P1_ k_ ∨ w.heap.size ≤ k_) ∧ k_ ≠ gb226 ∧ k_ ≠ gb231) v5 x5_2) ∧ Aside0 (w'.heap[gb226]? = some (.cells #[(.slice (some ad230) l0_0.length c0_0)] 24 (0, 0))) ∧ Aside0 (w'.heap[gb231]? = some (.cells #[.int .i64 ((rd_T54 l0_0 (l1.length : Int)).f0), .int .i64 ((rd_T54 l0_0 (l1.length : Int)).f1)] 54 (0, 0))) ∧ Aside0 (Below w.heap.size w w'))
      case atStart => exact ⟨(([] : List (List Int))), (x7_9), (by first | rfl | (simp; done) | (simp [*]; done)), H', ⟨Nat.le_refl _⟩, ⟨by (with_reducible repeat (first | apply Kd.V_alloc | apply Kd.V_drewN | apply Kd.V_drew)); exact HO_1.out⟩, ⟨by (with_reducible repeat (first | apply Kd.N_alloc | apply Kd.N_drewN | apply Kd.N_drew)); exact HO_5.out⟩, ⟨by (with_reducible repeat (first | refine blk_drewN ?_ _ | refine blk_drew ?_ | refine blk_alloc ?_ _)); exact BK226.out⟩, ⟨by (with_reducible repeat (first | refine blk_drewN ?_ _ | refine blk_drew ?_ | refine blk_alloc ?_ _)); exact BK231.out⟩, ⟨by repeat (first | (with_reducible first | exact HB.out | apply below_alloc | apply pw_below_drewN | apply below_drew1 | refine below_set ?_ GE226.out | refine below_set ?_ GE231.out) | exact HB.out)⟩⟩
      case round =>
       clear H'
       try clear c1
       try clear p2
       try clear q2
       try clear hx2
       try clear c3
       try clear c3b0
       try clear c3b1
       try clear c3b2
       try clear c5
       try clear p6
       try clear c8
       try clear c8b0
       try clear c8b1
       try clear c9
       try clear c9b0
       try clear c9b1
       try clear c14
       try clear c16
       try clear c16b0
       try clear c16b1
       try clear c18
       try clear c18b0
       try clear c19
       try clear c19b0
       try clear hcz12_0
       try clear hcz15_0
       try clear hcz15_1
       try clear hcz5_0
       try clear hfz12_0
       try clear hfz15_0
       try clear hfz15_1
       try clear hfz5_0
       try clear hx230_0
       try clear hx230_1
       try clear hx232_0
       try clear p2
       try clear p230
       try clear p232
       try clear p6
       try clear q2
       try clear q230
       try clear q232
       obtain ⟨x5_2, x9_2, rfl, HA, HK2, HO_1, HO_5, BK226, BK231, HB⟩ := hrel
       cases gk with
       | zero => exact absurd HA.out (by simp [tensileref05_Lists.l0])
       | succ k2 =>
        have H := HA.out
        clear HA
        simp only [tensileref05_Lists.l0] at H
        by_cases c21 : x9_2 ≤ ((rd_T54 l0_0 (l1.length : Int)).f1)
        ·
         rw [if_pos c21] at H
         have c21b0 : decide (x9_2 ≤ ((rd_T54 l0_0 (l1.length : Int)).f1)) = true := decide_eq_true c21
         clear c21
         obtain ⟨y233, hy233⟩ : ∃ y_ : List Int, y_ = (([] : List Int)) := ⟨_, rfl⟩
         replace H : (if y233.length + l1.length < 17592186044416 then ((some (y233 ++ l1 : List Int)).bind fun y236 => ((some (([x9_2] : List Int) : List Int)).bind fun y239 => (if y236.length + y239.length < 17592186044416 then ((tensileref05_Lists.f k2 l0_0 (y236 ++ y239)).bind fun t245 => (if x5_2.length + t245.length < 5864062014805 then (tensileref05_Lists.l0 k2 l1 (x5_2 ++ t245) (wrap64 (x9_2 + 1)) l0_0 ((rd_T54 l0_0 (l1.length : Int)).f0) ((rd_T54 l0_0 (l1.length : Int)).f1)) else (none))) else (none)))) else (none)) = some r := by first | (rw [hy233]; with_reducible exact H) | (have H2_ := (Option.bind_some _ _).symm.trans H; rw [hy233]; with_reducible exact H2_) | (have H2_ := (Option.bind_some _ _).symm.trans H; with_reducible exact H2_) | with_reducible exact H | (rw [hy233]; exact H) | exact H
         have Ny233 := Aside0.mk hy233
         clear hy233
         by_cases c22 : y233.length + l1.length < 17592186044416
         ·
          rw [if_pos c22] at H
          have LMc22 := Aside0.mk c22
          clear c22
          obtain ⟨y236, hy236⟩ : ∃ y_ : List Int, y_ = (y233 ++ l1) := ⟨_, rfl⟩
          replace H : ((some (([x9_2] : List Int) : List Int)).bind fun y239 => (if y236.length + y239.length < 17592186044416 then ((tensileref05_Lists.f k2 l0_0 (y236 ++ y239)).bind fun t245 => (if x5_2.length + t245.length < 5864062014805 then (tensileref05_Lists.l0 k2 l1 (x5_2 ++ t245) (wrap64 (x9_2 + 1)) l0_0 ((rd_T54 l0_0 (l1.length : Int)).f0) ((rd_T54 l0_0 (l1.length : Int)).f1)) else (none))) else (none))) = some r := by first | (rw [hy236]; with_reducible exact H) | (have H2_ := (Option.bind_some _ _).symm.trans H; rw [hy236]; with_reducible exact H2_) | (have H2_ := (Option.bind_some _ _).symm.trans H; with_reducible exact H2_) | with_reducible exact H | (rw [hy236]; exact H) | exact H
          have Ny236 := Aside0.mk hy236
          clear hy236
          obtain ⟨y239, hy239⟩ : ∃ y_ : List Int, y_ = (([x9_2] : List Int)) := ⟨_, rfl⟩
          replace H : (if y236.length + y239.length < 17592186044416 then ((tensileref05_Lists.f k2 l0_0 (y236 ++ y239)).bind fun t245 => (if x5_2.length + t245.length < 5864062014805 then (tensileref05_Lists.l0 k2 l1 (x5_2 ++ t245) (wrap64 (x9_2 + 1)) l0_0 ((rd_T54 l0_0 (l1.length : Int)).f0) ((rd_T54 l0_0 (l1.length : Int)).f1)) else (none))) else (none)) = some r := by first | (rw [hy239]; with_reducible exact H) | (have H2_ := (Option.bind_some _ _).symm.trans H; rw [hy239]; with_reducible exact H2_) | (have H2_ := (Option.bind_some _ _).symm.trans H; with_reducible exact H2_) | with_reducible exact H | (rw [hy239]; exact H) | exact H
          have Ny239 := Aside0.mk hy239
          clear hy239
          by_cases c23 : y236.length + y239.length < 17592186044416
          ·
           rw [if_pos c23] at H
           have LMc23 := Aside0.mk c23
           clear c23
           obtain ⟨y242, hy242⟩ : ∃ y_ : List Int, y_ = (y236 ++ y239) := ⟨_, rfl⟩
           replace H : ((tensileref05_Lists.f k2 l0_0 y242).bind fun t245 => (if x5_2.length + t245.length < 5864062014805 then (tensileref05_Lists.l0 k2 l1 (x5_2 ++ t245) (wrap64 (x9_2 + 1)) l0_0 ((rd_T54 l0_0 (l1.length : Int)).f0) ((rd_T54 l0_0 (l1.length : Int)).f1)) else (none))) = some r := by first | (rw [hy242]; with_reducible exact H) | (have H2_ := (Option.bind_some _ _).symm.trans H; rw [hy242]; with_reducible exact H2_) | (have H2_ := (Option.bind_some _ _).symm.trans H; with_reducible exact H2_) | with_reducible exact H | (rw [hy242]; exact H) | exact H
           have Ny242 := Aside0.mk hy242
           clear hy242
           replace H := Option.bind_eq_some_iff.mp H
           obtain ⟨t245, A240, H⟩ := H
           replace H : (if x5_2.length + t245.length < 5864062014805 then (tensileref05_Lists.l0 k2 l1 (x5_2 ++ t245) (wrap64 (x9_2 + 1)) l0_0 ((rd_T54 l0_0 (l1.length : Int)).f0) ((rd_T54 l0_0 (l1.length : Int)).f1)) else (none)) = some r := H
           have A24 := Aside0.mk A240
           clear A240
           by_cases c25 : x5_2.length + t245.length < 5864062014805
           ·
            rw [if_pos c25] at H
            have LMc25 := Aside0.mk c25
            clear c25
            obtain ⟨y248, hy248⟩ : ∃ y_ : List (List Int), y_ = (x5_2 ++ t245) := ⟨_, rfl⟩
            replace H : (tensileref05_Lists.l0 k2 l1 y248 (wrap64 (x9_2 + 1)) l0_0 ((rd_T54 l0_0 (l1.length : Int)).f0) ((rd_T54 l0_0 (l1.length : Int)).f1)) = some r := by first | (rw [hy248]; with_reducible exact H) | (have H2_ := (Option.bind_some _ _).symm.trans H; rw [hy248]; with_reducible exact H2_) | (have H2_ := (Option.bind_some _ _).symm.trans H; with_reducible exact H2_) | with_reducible exact H | (rw [hy248]; exact H) | exact H
            have Ny248 := Aside0.mk hy248
            clear hy248
            have H' := Aside0.mk H
            clear H
            have hnb26 := NB231_226.out
            have hnc26 := NB226_231.out
            have hcz27_0 : wr.cell? ⟨gb231, 0, none⟩ = some (.int .i64 ((rd_T54 l0_0 (l1.length : Int)).f0)) := (blk_cell BK231.out 0).trans rfl
            have hcz27_1 : wr.cell? ⟨gb231, 1, none⟩ = some (.int .i64 ((rd_T54 l0_0 (l1.length : Int)).f1)) := (blk_cell BK231.out 1).trans rfl
            have hfz27_0 := blk_frozen BK231.out 0
            have hfz27_1 := blk_frozen BK231.out 1
            obtain ⟨Ao28, co28, eo28⟩ := Kd.N_slice HO_5.out
            subst eo28
            try go_wp2
            have n0_ := Aside0.mk (Kd.V_drew HO_1.out)
            have n1_ := Aside0.mk (Kd.N_drew HO_5.out)
            have n2_ := Aside0.mk (blk_drew BK226.out)
            have n3_ := Aside0.mk (blk_drew BK231.out)
            have n4_ := Aside0.mk (below_drew1 HB.out)
            clear HO_1
            clear HO_5
            clear BK226
            clear BK231
            clear HB
            have HO_1 := n0_
            have HO_5 := n1_
            have BK226 := n2_
            have BK231 := n3_
            have HB := n4_
            clear n0_ n1_ n2_ n3_ n4_
            refine start_ (n := 11) (S := fun w' => w'.cell? ⟨gb226, 0, none⟩ = some (.slice (some ad230) l0_0.length c0_0)) (ds := []) #[false, false, false, false, false, false, false, false, false, false, false] (by kernel_rfl) rfl rfl ((blk_cell BK226.out 0).trans rfl) (fun hHeld => ?_); refine with_tabW tensileref05_Lists.tab12 tensileref05_Lists.bits12 (fun HT_ HW_ => ?_)
            generalize wr.drew = w29 at HO_1 HO_5 BK226 BK231 HB hHeld ⊢
            refine pure_ (i := 0) (N := some 44) (v := ?_) (a' := ?_) #[true, false, false, false, false, false, false, false, false, false, false] rfl rfl (any_of HT_.out (by kernel_rfl)) (fun _ _ _ h => h) (Or.inl ⟨by rfl, ?_⟩) ?_ ?_
            rotate_left
            ·
             intro w'
             go_simp
             with_reducible rfl
            rotate_left
            ·
             simp only [Act.put, List.setIfInBounds_toArray, List.set_cons_zero, List.set_cons_succ, i64_w, i32_w]
             rfl
            refine pure_ (i := 3) (N := some 47) (v := ?_) (a' := ?_) #[true, false, false, true, false, false, false, false, false, false, false] rfl rfl (any_of HT_.out (by kernel_rfl)) (fun _ _ _ h => h) (Or.inl ⟨by rfl, ?_⟩) ?_ ?_
            rotate_left
            ·
             intro w'
             go_simp
             with_reducible rfl
            rotate_left
            ·
             simp only [Act.put, List.setIfInBounds_toArray, List.set_cons_zero, List.set_cons_succ, i64_w, i32_w]
             rfl
            refine pure_ (i := 5) (N := some 49) (v := ?_) (a' := ?_) #[true, false, false, true, false, true, false, false, false, false, false] rfl rfl (any_of HT_.out (by kernel_rfl)) (fun _ _ _ h => h) (Or.inl ⟨by rfl, ?_⟩) ?_ ?_
            rotate_left
            ·
             intro w'
             go_simp
             with_reducible rfl
            rotate_left
            ·
             simp only [Act.put, List.setIfInBounds_toArray, List.set_cons_zero, List.set_cons_succ, i64_w, i32_w]
             rfl
            refine take_ (i := 1) (N := some 45) (v := ?_) (a' := ?_) #[true, true, false, true, false, true, false, false, false, false, false] rfl rfl (take_ofW HT_.out HW_.out (by kernel_rfl)) (fun _ _ _ h => h) (Or.inl ⟨by rfl, ?_⟩) hHeld ?_ ?_
            rotate_left
            ·
             intro w' s0
             go_simp
             with_reducible rfl
            rotate_left
            ·
             simp only [Act.put, List.setIfInBounds_toArray, List.set_cons_zero, List.set_cons_succ, i64_w, i32_w]
             rfl
            refine join_ (σ := Value × Value × Value) 4 #[true, true, true, true, true, true, true, false, false, false, false] (fun s_ => [(46, s_.1), (48, s_.2.1), (50, s_.2.2)]) (fun s_ w' => (w'.cell? ⟨gb226, 0, none⟩ = some (.slice (some ad230) l0_0.length c0_0)) ∧ (Kd.R (Kd.int .i64) 3 w' w.heap.size (fun k_ => (w.heap.size ≤ k_) ∧ some k_ ≠ (s_.2.2 : Value).ownBlock) s_.2.1 y236) ∧ (Kd.R (Kd.int .i64) 3 w' w.heap.size (fun k_ => (w.heap.size ≤ k_) ∧ some k_ ≠ (s_.2.1 : Value).ownBlock) s_.2.2 y239) ∧ (Kd.V (Kd.int .i64) 3 w' w.heap.size (fun k_ => (P1_ k_ ∨ w.heap.size ≤ k_) ∧ some k_ ≠ (s_.2.1 : Value).ownBlock ∧ some k_ ≠ (s_.2.2 : Value).ownBlock ∧ some k_ ≠ (.slice Ao28 x5_2.length co28 : Value).ownBlock ∧ k_ ≠ gb226 ∧ k_ ≠ gb231) (.slice A1 l1.length c1) l1) ∧ (Kd.N (Kd.slice 3 (Kd.int .i64)) 31 w' w.heap.size (fun k_ => (P1_ k_ ∨ w.heap.size ≤ k_) ∧ some k_ ≠ (s_.2.1 : Value).ownBlock ∧ some k_ ≠ (s_.2.2 : Value).ownBlock ∧ k_ ≠ gb226 ∧ k_ ≠ gb231) (.slice Ao28 x5_2.length co28) x5_2) ∧ (w'.heap[gb226]? = some (.cells #[.slice (some ad230) l0_0.length c0_0] 24 (0, 0))) ∧ (w'.heap[gb231]? = some (.cells #[.int .i64 ((rd_T54 l0_0 (l1.length : Int)).f0), .int .i64 ((rd_T54 l0_0 (l1.length : Int)).f1)] 54 (0, 0))) ∧ (Below w.heap.size w w')) ?_ ?_
            rotate_left
            ·
             intro hCont
             refine two_ (i := 2) (j := 6) (Ni := some 46) (Nj := some 50) #[true, true, true, true, false, true, false, false, false, false, false] #[true, true, false, true, false, true, true, false, false, false, false] rfl rfl rfl rfl (two_of HT_.out (by kernel_rfl)) (by decide) (by decide) (fun K hK => ?_) (fun K hK => ?_)
             ·
              skip
              refine Kd.R_lit_step (Kd.int .i64) _ 3 ?hg (N := 46) ?hd (xs := ([] : List Int)) (inner := []) (ok := fun _ => True) (okp := fun _ => True) ?hr ?hp (fun _ hk => hk) trivial (Below.refl _ _) (Nat.le_refl _) (by simp) ?_; (case hd => rfl); (case hg => rfl); (case hr => first | (go_simp; done) | (go_simp; rfl)); (case hp => exact (Reps.none _ _))
              intro v234 w30 ho31 hb hg_ hnew_
              clear hg_ hnew_
              (first | rw [← Ny233.out] at ho31 | (simp only [Int.reduceToNat] at ho31; rw [← Ny233.out] at ho31))
              have n0_ := Aside0.mk (Kd.V_elder' (by (with_reducible repeat (first | apply Kd.V_alloc | apply Kd.V_drewN | apply Kd.V_drew)); exact HO_1.out) (Kd.R_base ho31) hb)
              have n1_ := Aside0.mk (Kd.N_elder' (by (with_reducible repeat (first | apply Kd.N_alloc | apply Kd.N_drewN | apply Kd.N_drew)); exact HO_5.out) (Kd.R_base ho31) hb)
              have n2_ := Aside0.mk (Kd.R_lower (Kd.R_newM (M := fun k_ => (w.heap.size ≤ k_)) ho31 (below_size (by repeat (first | (with_reducible first | exact HB.out | apply below_alloc | apply pw_below_drewN | apply below_drew1 | refine below_set ?_ GE226.out | refine below_set ?_ GE231.out) | exact HB.out))) (fun k_ h_ => h_)) (below_size (by repeat (first | (with_reducible first | exact HB.out | apply below_alloc | apply pw_below_drewN | apply below_drew1 | refine below_set ?_ GE226.out | refine below_set ?_ GE231.out) | exact HB.out))))
              have n3_ := Aside0.mk (blk_below (g := gb226) (o := .cells #[.slice (some ad230) l0_0.length c0_0] 24 (0, 0)) (by (with_reducible repeat (first | refine blk_drewN ?_ _ | refine blk_drew ?_ | refine blk_alloc ?_ _)); exact BK226.out) hb)
              have n4_ := Aside0.mk (blk_below (g := gb231) (o := .cells #[.int .i64 ((rd_T54 l0_0 (l1.length : Int)).f0), .int .i64 ((rd_T54 l0_0 (l1.length : Int)).f1)] 54 (0, 0)) (by (with_reducible repeat (first | refine blk_drewN ?_ _ | refine blk_drew ?_ | refine blk_alloc ?_ _)); exact BK231.out) hb)
              have n5_ := Aside0.mk (below_step (by repeat (first | (with_reducible first | exact HB.out | apply below_alloc | apply pw_below_drewN | apply below_drew1 | refine below_set ?_ GE226.out | refine below_set ?_ GE231.out) | exact HB.out)) hb)
              clear HO_1
              clear HO_5
              clear BK226
              clear BK231
              clear HB
              have HO_1 := n0_
              have HO_5 := n1_
              have HO235 := n2_
              have BK226 := n3_
              have BK231 := n4_
              have HB := n5_
              clear n0_ n1_ n2_ n3_ n4_ n5_
              clear hb ho31
              refine hK.out _ _ ((blk_cell BK226.out 0).trans rfl) (fun hHeld => ?_)
              clear hK K
              refine norm_ (a' := ?_) ?_ ?_
              rotate_left
              ·
               show Act.put _ (some 46) _ = _
               simp only [Act.put, List.setIfInBounds_toArray, List.set_cons_zero, List.set_cons_succ, i64_w, i32_w]
               rfl
              refine two_ (i := 4) (j := 6) (Ni := some 48) (Nj := some 50) #[true, true, true, true, true, true, false, false, false, false, false] #[true, true, true, true, false, true, true, false, false, false, false] rfl rfl rfl rfl (two_of HT_.out (by kernel_rfl)) (by decide) (by decide) (fun K hK => ?_) (fun K hK => ?_)
              ·
               skip
               refine Kd.R_append_rows_step (Kd.int .i64) (w0 := w) w.heap.size (by rfl) (.tmp 46) (.tmp 47) 31 3 (.int .i64 0) 8 rfl Try.underlying31 info3 rfl (by decide) (by omega) v234 y233 l1 _ _ _ (fun k_ => (w.heap.size ≤ k_)) (fun _ => False) rfl rfl ?aO ?aR (fun _ _ h => h) (fun _ h => h.elim) ?aF ?aB ?aS ?aL ?_
               (case aR => repeat (first | exact (Kd.V_reads' HO_1.out).2.2 | (with_reducible refine Kd.C_alloc ?_ _) | (with_reducible refine Kd.C_drewN ?_ _) | (with_reducible refine Kd.C_drew ?_)))
               (case aB => exact (by repeat (first | (with_reducible first | exact HB.out | apply below_alloc | apply pw_below_drewN | apply below_drew1 | refine below_set ?_ GE226.out | refine below_set ?_ GE231.out) | exact HB.out)))
               (case aF => exact (fun k_ hk => (Nat.le_trans (below_size (by repeat (first | (with_reducible first | exact HB.out | apply below_alloc | apply pw_below_drewN | apply below_drew1 | refine below_set ?_ GE226.out | refine below_set ?_ GE231.out) | exact HB.out))) hk)))
               (case aO => exact (by (with_reducible repeat (first | apply Kd.R_alloc | apply Kd.R_drewN | apply Kd.R_drew)); exact Kd.R_mono HO235.out (fun _ hk => hk.1)))
               (case aS => exact (below_size (by repeat (first | (with_reducible first | exact HB.out | apply below_alloc | apply pw_below_drewN | apply below_drew1 | refine below_set ?_ GE226.out | refine below_set ?_ GE231.out) | exact HB.out))))
               (case aL => have := LMc22.out; omega)
               intro v237 w32 ho hb hg hat
               rw [← Ny236.out] at ho
               have n0_ := Aside0.mk (Kd.V_afterv (ok := (fun k_ => (P1_ k_ ∨ w.heap.size ≤ k_) ∧ some k_ ≠ (.slice Ao28 x5_2.length co28 : Value).ownBlock ∧ k_ ≠ gb226 ∧ k_ ≠ gb231)) (by (with_reducible repeat (first | apply Kd.V_alloc | apply Kd.V_drewN | apply Kd.V_drew)); exact HO_1.out) hg hat)
               have n1_ := Aside0.mk (Kd.N_afterv (ok := (fun k_ => (P1_ k_ ∨ w.heap.size ≤ k_) ∧ k_ ≠ gb226 ∧ k_ ≠ gb231)) (by (with_reducible repeat (first | apply Kd.N_alloc | apply Kd.N_drewN | apply Kd.N_drew)); exact HO_5.out) hg hat)
               have n2_ := Aside0.mk (blk_grown (g := gb226) (o := .cells #[.slice (some ad230) l0_0.length c0_0] 24 (0, 0)) (by (with_reducible repeat (first | refine blk_drewN ?_ _ | refine blk_drew ?_ | refine blk_alloc ?_ _)); exact BK226.out) hg (Kd.R_ne HO235.out BK226.out (by decide)))
               have n3_ := Aside0.mk (blk_grown (g := gb231) (o := .cells #[.int .i64 ((rd_T54 l0_0 (l1.length : Int)).f0), .int .i64 ((rd_T54 l0_0 (l1.length : Int)).f1)] 54 (0, 0)) (by (with_reducible repeat (first | refine blk_drewN ?_ _ | refine blk_drew ?_ | refine blk_alloc ?_ _)); exact BK231.out) hg (Kd.R_ne HO235.out BK231.out (by decide)))
               have n4_ := Aside0.mk (hb)
               have n5_ := Aside0.mk (ho)
               clear HO_1
               clear HO_5
               clear BK226
               clear BK231
               clear HB
               clear HO235
               have HO_1 := n0_
               have HO_5 := n1_
               have BK226 := n2_
               have BK231 := n3_
               have HB := n4_
               have HO238 := n5_
               clear n0_ n1_ n2_ n3_ n4_ n5_
               clear ho hb hg hat
               refine hK.out _ _ ((blk_cell BK226.out 0).trans rfl) (fun hHeld => ?_)
               clear hK K
               refine norm_ (a' := ?_) ?_ ?_
               rotate_left
               ·
                show Act.put _ (some 48) _ = _
                simp only [Act.put, List.setIfInBounds_toArray, List.set_cons_zero, List.set_cons_succ, i64_w, i32_w]
                rfl
               refine one_ (i := 6) (N := some 50) #[true, true, true, true, true, true, true, false, false, false, false] rfl rfl (one_of HT_.out (by kernel_rfl)) (by decide) (fun K hK => ?_)
               refine Kd.R_lit_step (Kd.int .i64) _ 3 ?hg (N := 50) ?hd (xs := ([x9_2] : List Int)) (inner := [.int .i64 x9_2]) (ok := fun _ => True) (okp := fun _ => True) ?hr ?hp (fun _ hk => hk) trivial (Below.refl _ _) (Nat.le_refl _) (by simp) ?_; (case hd => rfl); (case hg => rfl); (case hr => first | (go_simp; done) | (go_simp; rfl)); (case hp => exact (Reps.one (show Kd.M (Kd.int .i64) _ _ _ x9_2 [.int .i64 x9_2] from rfl) (Reps.none _ _)))
               intro v240 w33 ho34 hb hg_ hnew_
               clear hg_ hnew_
               (first | rw [← Ny239.out] at ho34 | (simp only [Int.reduceToNat] at ho34; rw [← Ny239.out] at ho34))
               have n0_ := Aside0.mk (Kd.V_elder' (by (with_reducible repeat (first | apply Kd.V_alloc | apply Kd.V_drewN | apply Kd.V_drew)); exact HO_1.out) (Kd.R_base ho34) hb)
               have n1_ := Aside0.mk (Kd.N_elder' (by (with_reducible repeat (first | apply Kd.N_alloc | apply Kd.N_drewN | apply Kd.N_drew)); exact HO_5.out) (Kd.R_base ho34) hb)
               have n2_ := Aside0.mk (Kd.R_elder' (by (with_reducible repeat (first | apply Kd.R_alloc | apply Kd.R_drewN | apply Kd.R_drew)); exact HO238.out) (Kd.R_base ho34) hb)
               have n3_ := Aside0.mk (Kd.R_lower (Kd.R_new' (Kd.R_newM (M := fun k_ => (w.heap.size ≤ k_)) ho34 (below_size (by repeat (first | (with_reducible first | exact HB.out | apply below_alloc | apply pw_below_drewN | apply below_drew1 | refine below_set ?_ GE226.out | refine below_set ?_ GE231.out) | exact HB.out))) (fun k_ h_ => h_)) (Kd.R_lt (by (with_reducible repeat (first | apply Kd.R_alloc | apply Kd.R_drewN | apply Kd.R_drew)); exact HO238.out))) (below_size (by repeat (first | (with_reducible first | exact HB.out | apply below_alloc | apply pw_below_drewN | apply below_drew1 | refine below_set ?_ GE226.out | refine below_set ?_ GE231.out) | exact HB.out))))
               have n4_ := Aside0.mk (blk_below (g := gb226) (o := .cells #[.slice (some ad230) l0_0.length c0_0] 24 (0, 0)) (by (with_reducible repeat (first | refine blk_drewN ?_ _ | refine blk_drew ?_ | refine blk_alloc ?_ _)); exact BK226.out) hb)
               have n5_ := Aside0.mk (blk_below (g := gb231) (o := .cells #[.int .i64 ((rd_T54 l0_0 (l1.length : Int)).f0), .int .i64 ((rd_T54 l0_0 (l1.length : Int)).f1)] 54 (0, 0)) (by (with_reducible repeat (first | refine blk_drewN ?_ _ | refine blk_drew ?_ | refine blk_alloc ?_ _)); exact BK231.out) hb)
               have n6_ := Aside0.mk (below_step (by repeat (first | (with_reducible first | exact HB.out | apply below_alloc | apply pw_below_drewN | apply below_drew1 | refine below_set ?_ GE226.out | refine below_set ?_ GE231.out) | exact HB.out)) hb)
               clear HO_1
               clear HO_5
               clear HO238
               clear BK226
               clear BK231
               clear HB
               have HO_1 := n0_
               have HO_5 := n1_
               have HO238 := n2_
               have HO241 := n3_
               have BK226 := n4_
               have BK231 := n5_
               have HB := n6_
               clear n0_ n1_ n2_ n3_ n4_ n5_ n6_
               clear hb ho34
               refine hK.out _ _ ((blk_cell BK226.out 0).trans rfl) (fun hHeld => ?_)
               clear hK K
               refine norm_ (a' := ?_) ?_ ?_
               rotate_left
               ·
                show Act.put _ (some 50) _ = _
                simp only [Act.put, List.setIfInBounds_toArray, List.set_cons_zero, List.set_cons_succ, i64_w, i32_w]
                rfl
               exact norm_ (by simp only [putAll, Act.put, List.setIfInBounds_toArray, List.set_cons_zero, List.set_cons_succ]) (hCont (v234, v237, v240) _ ⟨hHeld, (by (with_reducible repeat (first | apply Kd.R_alloc | apply Kd.R_drewN | apply Kd.R_drew)); exact HO238.out), (by (with_reducible repeat (first | apply Kd.R_alloc | apply Kd.R_drewN | apply Kd.R_drew)); exact Kd.R_mono HO241.out (fun _ hk => ⟨hk.1.1, hk.2⟩)), (by (with_reducible repeat (first | apply Kd.V_alloc | apply Kd.V_drewN | apply Kd.V_drew)); exact Kd.V_mono HO_1.out (fun _ hk => ⟨hk.1.1.1, ⟨hk.1.2, ⟨hk.2, ⟨hk.1.1.2.1, ⟨hk.1.1.2.2.1, hk.1.1.2.2.2⟩⟩⟩⟩⟩)), (by (with_reducible repeat (first | apply Kd.N_alloc | apply Kd.N_drewN | apply Kd.N_drew)); exact Kd.N_mono HO_5.out (fun _ hk => ⟨hk.1.1.1, ⟨hk.1.2, ⟨hk.2, ⟨hk.1.1.2.1, hk.1.1.2.2⟩⟩⟩⟩)), (by (with_reducible repeat (first | refine blk_drewN ?_ _ | refine blk_drew ?_ | refine blk_alloc ?_ _)); exact BK226.out), (by (with_reducible repeat (first | refine blk_drewN ?_ _ | refine blk_drew ?_ | refine blk_alloc ?_ _)); exact BK231.out), (by repeat (first | (with_reducible first | exact HB.out | apply below_alloc | apply pw_below_drewN | apply below_drew1 | refine below_set ?_ GE226.out | refine below_set ?_ GE231.out) | exact HB.out))⟩)
              ·
               skip
               refine Kd.R_lit_step (Kd.int .i64) _ 3 ?hg (N := 50) ?hd (xs := ([x9_2] : List Int)) (inner := [.int .i64 x9_2]) (ok := fun _ => True) (okp := fun _ => True) ?hr ?hp (fun _ hk => hk) trivial (Below.refl _ _) (Nat.le_refl _) (by simp) ?_; (case hd => rfl); (case hg => rfl); (case hr => first | (go_simp; done) | (go_simp; rfl)); (case hp => exact (Reps.one (show Kd.M (Kd.int .i64) _ _ _ x9_2 [.int .i64 x9_2] from rfl) (Reps.none _ _)))
               intro v240 w32 ho33 hb hg_ hnew_
               clear hg_ hnew_
               (first | rw [← Ny239.out] at ho33 | (simp only [Int.reduceToNat] at ho33; rw [← Ny239.out] at ho33))
               have n0_ := Aside0.mk (Kd.V_elder' (by (with_reducible repeat (first | apply Kd.V_alloc | apply Kd.V_drewN | apply Kd.V_drew)); exact HO_1.out) (Kd.R_base ho33) hb)
               have n1_ := Aside0.mk (Kd.N_elder' (by (with_reducible repeat (first | apply Kd.N_alloc | apply Kd.N_drewN | apply Kd.N_drew)); exact HO_5.out) (Kd.R_base ho33) hb)
               have n2_ := Aside0.mk (Kd.R_elder' (by (with_reducible repeat (first | apply Kd.R_alloc | apply Kd.R_drewN | apply Kd.R_drew)); exact HO235.out) (Kd.R_base ho33) hb)
               have n3_ := Aside0.mk (Kd.R_lower (Kd.R_new' (Kd.R_newM (M := fun k_ => (w.heap.size ≤ k_)) ho33 (below_size (by repeat (first | (with_reducible first | exact HB.out | apply below_alloc | apply pw_below_drewN | apply below_drew1 | refine below_set ?_ GE226.out | refine below_set ?_ GE231.out) | exact HB.out))) (fun k_ h_ => h_)) (Kd.R_lt (by (with_reducible repeat (first | apply Kd.R_alloc | apply Kd.R_drewN | apply Kd.R_drew)); exact HO235.out))) (below_size (by repeat (first | (with_reducible first | exact HB.out | apply below_alloc | apply pw_below_drewN | apply below_drew1 | refine below_set ?_ GE226.out | refine below_set ?_ GE231.out) | exact HB.out))))
               have n4_ := Aside0.mk (blk_below (g := gb226) (o := .cells #[.slice (some ad230) l0_0.length c0_0] 24 (0, 0)) (by (with_reducible repeat (first | refine blk_drewN ?_ _ | refine blk_drew ?_ | refine blk_alloc ?_ _)); exact BK226.out) hb)
               have n5_ := Aside0.mk (blk_below (g := gb231) (o := .cells #[.int .i64 ((rd_T54 l0_0 (l1.length : Int)).f0), .int .i64 ((rd_T54 l0_0 (l1.length : Int)).f1)] 54 (0, 0)) (by (with_reducible repeat (first | refine blk_drewN ?_ _ | refine blk_drew ?_ | refine blk_alloc ?_ _)); exact BK231.out) hb)
               have n6_ := Aside0.mk (below_step (by repeat (first | (with_reducible first | exact HB.out | apply below_alloc | apply pw_below_drewN | apply below_drew1 | refine below_set ?_ GE226.out | refine below_set ?_ GE231.out) | exact HB.out)) hb)
               clear HO_1
               clear HO_5
               clear HO235
               clear BK226
               clear BK231
               clear HB
               have HO_1 := n0_
               have HO_5 := n1_
               have HO235 := n2_
               have HO241 := n3_
               have BK226 := n4_
               have BK231 := n5_
               have HB := n6_
               clear n0_ n1_ n2_ n3_ n4_ n5_ n6_
               clear hb ho33
               refine hK.out _ _ ((blk_cell BK226.out 0).trans rfl) (fun hHeld => ?_)
               clear hK K
               refine norm_ (a' := ?_) ?_ ?_
               rotate_left
               ·
                show Act.put _ (some 50) _ = _
                simp only [Act.put, List.setIfInBounds_toArray, List.set_cons_zero, List.set_cons_succ, i64_w, i32_w]
                rfl
               refine one_ (i := 4) (N := some 48) #[true, true, true, true, true, true, true, false, false, false, false] rfl rfl (one_of HT_.out (by kernel_rfl)) (by decide) (fun K hK => ?_)
               refine Kd.R_append_rows_step (Kd.int .i64) (w0 := w) w.heap.size (by rfl) (.tmp 46) (.tmp 47) 31 3 (.int .i64 0) 8 rfl Try.underlying31 info3 rfl (by decide) (by omega) v234 y233 l1 _ _ _ (fun k_ => (w.heap.size ≤ k_) ∧ some k_ ≠ (v240 : Value).ownBlock) (fun _ => False) rfl rfl ?aO ?aR (fun _ _ h => h) (fun _ h => h.elim) ?aF ?aB ?aS ?aL ?_
               (case aR => repeat (first | exact (Kd.V_reads' HO_1.out).2.2 | (with_reducible refine Kd.C_alloc ?_ _) | (with_reducible refine Kd.C_drewN ?_ _) | (with_reducible refine Kd.C_drew ?_)))
               (case aB => exact (by repeat (first | (with_reducible first | exact HB.out | apply below_alloc | apply pw_below_drewN | apply below_drew1 | refine below_set ?_ GE226.out | refine below_set ?_ GE231.out) | exact HB.out)))
               (case aF => exact (fun k_ hk => ⟨(Nat.le_trans (below_size (by repeat (first | (with_reducible first | exact HB.out | apply below_alloc | apply pw_below_drewN | apply below_drew1 | refine below_set ?_ GE226.out | refine below_set ?_ GE231.out) | exact HB.out))) hk), Kd.fresh' (Kd.R_lt (by (with_reducible repeat (first | apply Kd.R_alloc | apply Kd.R_drewN | apply Kd.R_drew)); exact HO241.out)) k_ hk⟩))
               (case aO => exact (by (with_reducible repeat (first | apply Kd.R_alloc | apply Kd.R_drewN | apply Kd.R_drew)); exact Kd.R_mono HO235.out (fun _ hk => ⟨hk.1.1, hk.2⟩)))
               (case aS => exact (below_size (by repeat (first | (with_reducible first | exact HB.out | apply below_alloc | apply pw_below_drewN | apply below_drew1 | refine below_set ?_ GE226.out | refine below_set ?_ GE231.out) | exact HB.out))))
               (case aL => have := LMc22.out; omega)
               intro v237 w34 ho hb hg hat
               rw [← Ny236.out] at ho
               have n0_ := Aside0.mk (Kd.V_afterv (ok := (fun k_ => (P1_ k_ ∨ w.heap.size ≤ k_) ∧ some k_ ≠ (.slice Ao28 x5_2.length co28 : Value).ownBlock ∧ some k_ ≠ (v240 : Value).ownBlock ∧ k_ ≠ gb226 ∧ k_ ≠ gb231)) (by (with_reducible repeat (first | apply Kd.V_alloc | apply Kd.V_drewN | apply Kd.V_drew)); exact Kd.V_mono HO_1.out (fun _ hk => ⟨⟨hk.1.1.1, ⟨hk.1.1.2.1, ⟨hk.2, ⟨hk.1.1.2.2.1, hk.1.1.2.2.2⟩⟩⟩⟩, hk.1.2⟩)) hg hat)
               have n1_ := Aside0.mk (Kd.N_afterv (ok := (fun k_ => (P1_ k_ ∨ w.heap.size ≤ k_) ∧ some k_ ≠ (v240 : Value).ownBlock ∧ k_ ≠ gb226 ∧ k_ ≠ gb231)) (by (with_reducible repeat (first | apply Kd.N_alloc | apply Kd.N_drewN | apply Kd.N_drew)); exact Kd.N_mono HO_5.out (fun _ hk => ⟨⟨hk.1.1.1, ⟨hk.2, ⟨hk.1.1.2.1, hk.1.1.2.2⟩⟩⟩, hk.1.2⟩)) hg hat)
               have n2_ := Aside0.mk (blk_grown (g := gb226) (o := .cells #[.slice (some ad230) l0_0.length c0_0] 24 (0, 0)) (by (with_reducible repeat (first | refine blk_drewN ?_ _ | refine blk_drew ?_ | refine blk_alloc ?_ _)); exact BK226.out) hg (Kd.R_ne HO235.out BK226.out (by decide)))
               have n3_ := Aside0.mk (blk_grown (g := gb231) (o := .cells #[.int .i64 ((rd_T54 l0_0 (l1.length : Int)).f0), .int .i64 ((rd_T54 l0_0 (l1.length : Int)).f1)] 54 (0, 0)) (by (with_reducible repeat (first | refine blk_drewN ?_ _ | refine blk_drew ?_ | refine blk_alloc ?_ _)); exact BK231.out) hg (Kd.R_ne HO235.out BK231.out (by decide)))
               have n4_ := Aside0.mk (Kd.R_after (ok := (fun k_ => (w.heap.size ≤ k_))) (by (with_reducible repeat (first | apply Kd.R_alloc | apply Kd.R_drewN | apply Kd.R_drew)); exact Kd.R_mono HO241.out (fun _ hk => ⟨hk.1.1, hk.2⟩)) hg hat)
               have n5_ := Aside0.mk (hb)
               have n6_ := Aside0.mk (ho)
               clear HO_1
               clear HO_5
               clear BK226
               clear BK231
               clear HO241
               clear HB
               clear HO235
               have HO_1 := n0_
               have HO_5 := n1_
               have BK226 := n2_
               have BK231 := n3_
               have HO241 := n4_
               have HB := n5_
               have HO238 := n6_
               clear n0_ n1_ n2_ n3_ n4_ n5_ n6_
               clear ho hb hg hat
               refine hK.out _ _ ((blk_cell BK226.out 0).trans rfl) (fun hHeld => ?_)
               clear hK K
               refine norm_ (a' := ?_) ?_ ?_
               rotate_left
               ·
                show Act.put _ (some 48) _ = _
                simp only [Act.put, List.setIfInBounds_toArray, List.set_cons_zero, List.set_cons_succ, i64_w, i32_w]
                rfl
               exact norm_ (by simp only [putAll, Act.put, List.setIfInBounds_toArray, List.set_cons_zero, List.set_cons_succ]) (hCont (v234, v237, v240) _ ⟨hHeld, (by (with_reducible repeat (first | apply Kd.R_alloc | apply Kd.R_drewN | apply Kd.R_drew)); exact HO238.out), (by (with_reducible repeat (first | apply Kd.R_alloc | apply Kd.R_drewN | apply Kd.R_drew)); exact HO241.out), (by (with_reducible repeat (first | apply Kd.V_alloc | apply Kd.V_drewN | apply Kd.V_drew)); exact Kd.V_mono HO_1.out (fun _ hk => ⟨hk.1.1, ⟨hk.2, ⟨hk.1.2.2.1, ⟨hk.1.2.1, ⟨hk.1.2.2.2.1, hk.1.2.2.2.2⟩⟩⟩⟩⟩)), (by (with_reducible repeat (first | apply Kd.N_alloc | apply Kd.N_drewN | apply Kd.N_drew)); exact Kd.N_mono HO_5.out (fun _ hk => ⟨hk.1.1, ⟨hk.2, ⟨hk.1.2.1, ⟨hk.1.2.2.1, hk.1.2.2.2⟩⟩⟩⟩)), (by (with_reducible repeat (first | refine blk_drewN ?_ _ | refine blk_drew ?_ | refine blk_alloc ?_ _)); exact BK226.out), (by (with_reducible repeat (first | refine blk_drewN ?_ _ | refine blk_drew ?_ | refine blk_alloc ?_ _)); exact BK231.out), (by repeat (first | (with_reducible first | exact HB.out | apply below_alloc | apply pw_below_drewN | apply below_drew1 | refine below_set ?_ GE226.out | refine below_set ?_ GE231.out) | exact HB.out))⟩)
             ·
              skip
              refine Kd.R_lit_step (Kd.int .i64) _ 3 ?hg (N := 50) ?hd (xs := ([x9_2] : List Int)) (inner := [.int .i64 x9_2]) (ok := fun _ => True) (okp := fun _ => True) ?hr ?hp (fun _ hk => hk) trivial (Below.refl _ _) (Nat.le_refl _) (by simp) ?_; (case hd => rfl); (case hg => rfl); (case hr => first | (go_simp; done) | (go_simp; rfl)); (case hp => exact (Reps.one (show Kd.M (Kd.int .i64) _ _ _ x9_2 [.int .i64 x9_2] from rfl) (Reps.none _ _)))
              intro v240 w30 ho31 hb hg_ hnew_
              clear hg_ hnew_
              (first | rw [← Ny239.out] at ho31 | (simp only [Int.reduceToNat] at ho31; rw [← Ny239.out] at ho31))
              have n0_ := Aside0.mk (Kd.V_elder' (by (with_reducible repeat (first | apply Kd.V_alloc | apply Kd.V_drewN | apply Kd.V_drew)); exact HO_1.out) (Kd.R_base ho31) hb)
              have n1_ := Aside0.mk (Kd.N_elder' (by (with_reducible repeat (first | apply Kd.N_alloc | apply Kd.N_drewN | apply Kd.N_drew)); exact HO_5.out) (Kd.R_base ho31) hb)
              have n2_ := Aside0.mk (Kd.R_lower (Kd.R_newM (M := fun k_ => (w.heap.size ≤ k_)) ho31 (below_size (by repeat (first | (with_reducible first | exact HB.out | apply below_alloc | apply pw_below_drewN | apply below_drew1 | refine below_set ?_ GE226.out | refine below_set ?_ GE231.out) | exact HB.out))) (fun k_ h_ => h_)) (below_size (by repeat (first | (with_reducible first | exact HB.out | apply below_alloc | apply pw_below_drewN | apply below_drew1 | refine below_set ?_ GE226.out | refine below_set ?_ GE231.out) | exact HB.out))))
              have n3_ := Aside0.mk (blk_below (g := gb226) (o := .cells #[.slice (some ad230) l0_0.length c0_0] 24 (0, 0)) (by (with_reducible repeat (first | refine blk_drewN ?_ _ | refine blk_drew ?_ | refine blk_alloc ?_ _)); exact BK226.out) hb)
              have n4_ := Aside0.mk (blk_below (g := gb231) (o := .cells #[.int .i64 ((rd_T54 l0_0 (l1.length : Int)).f0), .int .i64 ((rd_T54 l0_0 (l1.length : Int)).f1)] 54 (0, 0)) (by (with_reducible repeat (first | refine blk_drewN ?_ _ | refine blk_drew ?_ | refine blk_alloc ?_ _)); exact BK231.out) hb)
              have n5_ := Aside0.mk (below_step (by repeat (first | (with_reducible first | exact HB.out | apply below_alloc | apply pw_below_drewN | apply below_drew1 | refine below_set ?_ GE226.out | refine below_set ?_ GE231.out) | exact HB.out)) hb)
              clear HO_1
              clear HO_5
              clear BK226
              clear BK231
              clear HB
              have HO_1 := n0_
              have HO_5 := n1_
              have HO241 := n2_
              have BK226 := n3_
              have BK231 := n4_
              have HB := n5_
              clear n0_ n1_ n2_ n3_ n4_ n5_
              clear hb ho31
              refine hK.out _ _ ((blk_cell BK226.out 0).trans rfl) (fun hHeld => ?_)
              clear hK K
              refine norm_ (a' := ?_) ?_ ?_
              rotate_left
              ·
               show Act.put _ (some 50) _ = _
               simp only [Act.put, List.setIfInBounds_toArray, List.set_cons_zero, List.set_cons_succ, i64_w, i32_w]
               rfl
              refine one_ (i := 2) (N := some 46) #[true, true, true, true, false, true, true, false, false, false, false] rfl rfl (one_of HT_.out (by kernel_rfl)) (by decide) (fun K hK => ?_)
              refine Kd.R_lit_step (Kd.int .i64) _ 3 ?hg (N := 46) ?hd (xs := ([] : List Int)) (inner := []) (ok := fun _ => True) (okp := fun _ => True) ?hr ?hp (fun _ hk => hk) trivial (Below.refl _ _) (Nat.le_refl _) (by simp) ?_; (case hd => rfl); (case hg => rfl); (case hr => first | (go_simp; done) | (go_simp; rfl)); (case hp => exact (Reps.none _ _))
              intro v234 w32 ho33 hb hg_ hnew_
              clear hg_ hnew_
              (first | rw [← Ny233.out] at ho33 | (simp only [Int.reduceToNat] at ho33; rw [← Ny233.out] at ho33))
              have n0_ := Aside0.mk (Kd.V_elder' (by (with_reducible repeat (first | apply Kd.V_alloc | apply Kd.V_drewN | apply Kd.V_drew)); exact HO_1.out) (Kd.R_base ho33) hb)
              have n1_ := Aside0.mk (Kd.N_elder' (by (with_reducible repeat (first | apply Kd.N_alloc | apply Kd.N_drewN | apply Kd.N_drew)); exact HO_5.out) (Kd.R_base ho33) hb)
              have n2_ := Aside0.mk (Kd.R_elder' (by (with_reducible repeat (first | apply Kd.R_alloc | apply Kd.R_drewN | apply Kd.R_drew)); exact HO241.out) (Kd.R_base ho33) hb)
              have n3_ := Aside0.mk (Kd.R_lower (Kd.R_new' (Kd.R_newM (M := fun k_ => (w.heap.size ≤ k_)) ho33 (below_size (by repeat (first | (with_reducible first | exact HB.out | apply below_alloc | apply pw_below_drewN | apply below_drew1 | refine below_set ?_ GE226.out | refine below_set ?_ GE231.out) | exact HB.out))) (fun k_ h_ => h_)) (Kd.R_lt (by (with_reducible repeat (first | apply Kd.R_alloc | apply Kd.R_drewN | apply Kd.R_drew)); exact HO241.out))) (below_size (by repeat (first | (with_reducible first | exact HB.out | apply below_alloc | apply pw_below_drewN | apply below_drew1 | refine below_set ?_ GE226.out | refine below_set ?_ GE231.out) | exact HB.out))))
              have n4_ := Aside0.mk (blk_below (g := gb226) (o := .cells #[.slice (some ad230) l0_0.length c0_0] 24 (0, 0)) (by (with_reducible repeat (first | refine blk_drewN ?_ _ | refine blk_drew ?_ | refine blk_alloc ?_ _)); exact BK226.out) hb)
              have n5_ := Aside0.mk (blk_below (g := gb231) (o := .cells #[.int .i64 ((rd_T54 l0_0 (l1.length : Int)).f0), .int .i64 ((rd_T54 l0_0 (l1.length : Int)).f1)] 54 (0, 0)) (by (with_reducible repeat (first | refine blk_drewN ?_ _ | refine blk_drew ?_ | refine blk_alloc ?_ _)); exact BK231.out) hb)
              have n6_ := Aside0.mk (below_step (by repeat (first | (with_reducible first | exact HB.out | apply below_alloc | apply pw_below_drewN | apply below_drew1 | refine below_set ?_ GE226.out | refine below_set ?_ GE231.out) | exact HB.out)) hb)
              clear HO_1
              clear HO_5
              clear HO241
              clear BK226
              clear BK231
              clear HB
              have HO_1 := n0_
              have HO_5 := n1_
              have HO241 := n2_
              have HO235 := n3_
              have BK226 := n4_
              have BK231 := n5_
              have HB := n6_
              clear n0_ n1_ n2_ n3_ n4_ n5_ n6_
              clear hb ho33
              refine hK.out _ _ ((blk_cell BK226.out 0).trans rfl) (fun hHeld => ?_)
              clear hK K
              refine norm_ (a' := ?_) ?_ ?_
              rotate_left
              ·
               show Act.put _ (some 46) _ = _
               simp only [Act.put, List.setIfInBounds_toArray, List.set_cons_zero, List.set_cons_succ, i64_w, i32_w]
               rfl
              refine one_ (i := 4) (N := some 48) #[true, true, true, true, true, true, true, false, false, false, false] rfl rfl (one_of HT_.out (by kernel_rfl)) (by decide) (fun K hK => ?_)
              refine Kd.R_append_rows_step (Kd.int .i64) (w0 := w) w.heap.size (by rfl) (.tmp 46) (.tmp 47) 31 3 (.int .i64 0) 8 rfl Try.underlying31 info3 rfl (by decide) (by omega) v234 y233 l1 _ _ _ (fun k_ => (w.heap.size ≤ k_) ∧ some k_ ≠ (v240 : Value).ownBlock) (fun _ => False) rfl rfl ?aO ?aR (fun _ _ h => h) (fun _ h => h.elim) ?aF ?aB ?aS ?aL ?_
              (case aR => repeat (first | exact (Kd.V_reads' HO_1.out).2.2 | (with_reducible refine Kd.C_alloc ?_ _) | (with_reducible refine Kd.C_drewN ?_ _) | (with_reducible refine Kd.C_drew ?_)))
              (case aB => exact (by repeat (first | (with_reducible first | exact HB.out | apply below_alloc | apply pw_below_drewN | apply below_drew1 | refine below_set ?_ GE226.out | refine below_set ?_ GE231.out) | exact HB.out)))
              (case aF => exact (fun k_ hk => ⟨(Nat.le_trans (below_size (by repeat (first | (with_reducible first | exact HB.out | apply below_alloc | apply pw_below_drewN | apply below_drew1 | refine below_set ?_ GE226.out | refine below_set ?_ GE231.out) | exact HB.out))) hk), Kd.fresh' (Kd.R_lt (by (with_reducible repeat (first | apply Kd.R_alloc | apply Kd.R_drewN | apply Kd.R_drew)); exact HO241.out)) k_ hk⟩))
              (case aO => exact (by (with_reducible repeat (first | apply Kd.R_alloc | apply Kd.R_drewN | apply Kd.R_drew)); exact Kd.R_mono HO235.out (fun _ hk => ⟨hk.1.1, hk.2⟩)))
              (case aS => exact (below_size (by repeat (first | (with_reducible first | exact HB.out | apply below_alloc | apply pw_below_drewN | apply below_drew1 | refine below_set ?_ GE226.out | refine below_set ?_ GE231.out) | exact HB.out))))
              (case aL => have := LMc22.out; omega)
              intro v237 w34 ho hb hg hat
              rw [← Ny236.out] at ho
              have n0_ := Aside0.mk (Kd.V_afterv (ok := (fun k_ => (P1_ k_ ∨ w.heap.size ≤ k_) ∧ some k_ ≠ (.slice Ao28 x5_2.length co28 : Value).ownBlock ∧ some k_ ≠ (v240 : Value).ownBlock ∧ k_ ≠ gb226 ∧ k_ ≠ gb231)) (by (with_reducible repeat (first | apply Kd.V_alloc | apply Kd.V_drewN | apply Kd.V_drew)); exact Kd.V_mono HO_1.out (fun _ hk => ⟨⟨hk.1.1.1, ⟨hk.1.1.2.1, ⟨hk.1.2, ⟨hk.1.1.2.2.1, hk.1.1.2.2.2⟩⟩⟩⟩, hk.2⟩)) hg hat)
              have n1_ := Aside0.mk (Kd.N_afterv (ok := (fun k_ => (P1_ k_ ∨ w.heap.size ≤ k_) ∧ some k_ ≠ (v240 : Value).ownBlock ∧ k_ ≠ gb226 ∧ k_ ≠ gb231)) (by (with_reducible repeat (first | apply Kd.N_alloc | apply Kd.N_drewN | apply Kd.N_drew)); exact Kd.N_mono HO_5.out (fun _ hk => ⟨⟨hk.1.1.1, ⟨hk.1.2, ⟨hk.1.1.2.1, hk.1.1.2.2⟩⟩⟩, hk.2⟩)) hg hat)
              have n2_ := Aside0.mk (blk_grown (g := gb226) (o := .cells #[.slice (some ad230) l0_0.length c0_0] 24 (0, 0)) (by (with_reducible repeat (first | refine blk_drewN ?_ _ | refine blk_drew ?_ | refine blk_alloc ?_ _)); exact BK226.out) hg (Kd.R_ne HO235.out BK226.out (by decide)))
              have n3_ := Aside0.mk (blk_grown (g := gb231) (o := .cells #[.int .i64 ((rd_T54 l0_0 (l1.length : Int)).f0), .int .i64 ((rd_T54 l0_0 (l1.length : Int)).f1)] 54 (0, 0)) (by (with_reducible repeat (first | refine blk_drewN ?_ _ | refine blk_drew ?_ | refine blk_alloc ?_ _)); exact BK231.out) hg (Kd.R_ne HO235.out BK231.out (by decide)))
              have n4_ := Aside0.mk (Kd.R_after (ok := (fun k_ => (w.heap.size ≤ k_))) (by (with_reducible repeat (first | apply Kd.R_alloc | apply Kd.R_drewN | apply Kd.R_drew)); exact Kd.R_mono HO241.out (fun _ hk => ⟨hk.1.1, hk.2⟩)) hg hat)
              have n5_ := Aside0.mk (hb)
              have n6_ := Aside0.mk (ho)
              clear HO_1
              clear HO_5
              clear BK226
              clear BK231
              clear HO241
              clear HB
              clear HO235
              have HO_1 := n0_
              have HO_5 := n1_
              have BK226 := n2_
              have BK231 := n3_
              have HO241 := n4_
              have HB := n5_
              have HO238 := n6_
              clear n0_ n1_ n2_ n3_ n4_ n5_ n6_
              clear ho hb hg hat
              refine hK.out _ _ ((blk_cell BK226.out 0).trans rfl) (fun hHeld => ?_)
              clear hK K
              refine norm_ (a' := ?_) ?_ ?_
              rotate_left
              ·
               show Act.put _ (some 48) _ = _
               simp only [Act.put, List.setIfInBounds_toArray, List.set_cons_zero, List.set_cons_succ, i64_w, i32_w]
               rfl
              exact norm_ (by simp only [putAll, Act.put, List.setIfInBounds_toArray, List.set_cons_zero, List.set_cons_succ]) (hCont (v234, v237, v240) _ ⟨hHeld, (by (with_reducible repeat (first | apply Kd.R_alloc | apply Kd.R_drewN | apply Kd.R_drew)); exact HO238.out), (by (with_reducible repeat (first | apply Kd.R_alloc | apply Kd.R_drewN | apply Kd.R_drew)); exact HO241.out), (by (with_reducible repeat (first | apply Kd.V_alloc | apply Kd.V_drewN | apply Kd.V_drew)); exact Kd.V_mono HO_1.out (fun _ hk => ⟨hk.1.1, ⟨hk.2, ⟨hk.1.2.2.1, ⟨hk.1.2.1, ⟨hk.1.2.2.2.1, hk.1.2.2.2.2⟩⟩⟩⟩⟩)), (by (with_reducible repeat (first | apply Kd.N_alloc | apply Kd.N_drewN | apply Kd.N_drew)); exact Kd.N_mono HO_5.out (fun _ hk => ⟨hk.1.1, ⟨hk.2, ⟨hk.1.2.1, ⟨hk.1.2.2.1, hk.1.2.2.2⟩⟩⟩⟩)), (by (with_reducible repeat (first | refine blk_drewN ?_ _ | refine blk_drew ?_ | refine blk_alloc ?_ _)); exact BK226.out), (by (with_reducible repeat (first | refine blk_drewN ?_ _ | refine blk_drew ?_ | refine blk_alloc ?_ _)); exact BK231.out), (by repeat (first | (with_reducible first | exact HB.out | apply below_alloc | apply pw_below_drewN | apply below_drew1 | refine below_set ?_ GE226.out | refine below_set ?_ GE231.out) | exact HB.out))⟩)
            rintro ⟨v234, v237, v240⟩ w35 ⟨hS_, h0_, h1_, h2_, h3_, h4_, h5_, h6_⟩
            have n0_ : Aside0 (Kd.R (Kd.int .i64) 3 w35 w.heap.size (fun k_ => (w.heap.size ≤ k_) ∧ some k_ ≠ (v240 : Value).ownBlock) v237 y236) := ⟨h0_⟩
            have n1_ : Aside0 (Kd.R (Kd.int .i64) 3 w35 w.heap.size (fun k_ => (w.heap.size ≤ k_) ∧ some k_ ≠ (v237 : Value).ownBlock) v240 y239) := ⟨h1_⟩
            have n2_ : Aside0 (Kd.V (Kd.int .i64) 3 w35 w.heap.size (fun k_ => (P1_ k_ ∨ w.heap.size ≤ k_) ∧ some k_ ≠ (v237 : Value).ownBlock ∧ some k_ ≠ (v240 : Value).ownBlock ∧ some k_ ≠ (.slice Ao28 x5_2.length co28 : Value).ownBlock ∧ k_ ≠ gb226 ∧ k_ ≠ gb231) (.slice A1 l1.length c1) l1) := ⟨h2_⟩
            have n3_ : Aside0 (Kd.N (Kd.slice 3 (Kd.int .i64)) 31 w35 w.heap.size (fun k_ => (P1_ k_ ∨ w.heap.size ≤ k_) ∧ some k_ ≠ (v237 : Value).ownBlock ∧ some k_ ≠ (v240 : Value).ownBlock ∧ k_ ≠ gb226 ∧ k_ ≠ gb231) (.slice Ao28 x5_2.length co28) x5_2) := ⟨h3_⟩
            have n4_ : Aside0 (w35.heap[gb226]? = some (.cells #[.slice (some ad230) l0_0.length c0_0] 24 (0, 0))) := ⟨h4_⟩
            have n5_ : Aside0 (w35.heap[gb231]? = some (.cells #[.int .i64 ((rd_T54 l0_0 (l1.length : Int)).f0), .int .i64 ((rd_T54 l0_0 (l1.length : Int)).f1)] 54 (0, 0))) := ⟨h5_⟩
            have n6_ : Aside0 (Below w.heap.size w w35) := ⟨h6_⟩
            clear HO_1
            clear HO_5
            clear BK226
            clear BK231
            clear HB
            clear h0_ h1_ h2_ h3_ h4_ h5_ h6_
            have HO238 := n0_
            have HO241 := n1_
            have HO_1 := n2_
            have HO_5 := n3_
            have BK226 := n4_
            have BK231 := n5_
            have HB := n6_
            clear n0_ n1_ n2_ n3_ n4_ n5_ n6_
            have hHeld : w35.cell? ⟨gb226, 0, none⟩ = some (.slice (some ad230) l0_0.length c0_0) := hS_
            obtain ⟨Ao37, co37, eo37⟩ := Kd.R_slice HO241.out
            (first | subst eo37 | (injection eo37 with f1_ f2_ f3_; have f4_ := f1_.symm; have f5_ := f3_.symm; clear f1_ f2_ f3_; subst f4_; subst f5_))
            refine norm_ (a' := ?_) ?_ ?_
            rotate_left
            ·
             simp only [putAll, Act.put, List.setIfInBounds_toArray, List.set_cons_zero, List.set_cons_succ]
             rfl
            refine one_ (i := 7) (N := some 51) #[true, true, true, true, true, true, true, true, false, false, false] rfl rfl (one_of HT_.out (by kernel_rfl)) (by decide) (fun K hK => ?_)
            refine Kd.R_append_rows_step (Kd.int .i64) (w0 := w) w.heap.size (by rfl) (.tmp 48) (.tmp 50) 31 3 (.int .i64 0) 8 rfl Try.underlying31 info3 rfl (by decide) (by omega) v237 y236 y239 _ _ _ (fun k_ => (w.heap.size ≤ k_) ∧ some k_ ≠ (.slice Ao37 y239.length co37 : Value).ownBlock) (fun _ => False) rfl rfl ?aO ?aR (fun _ _ h => h) (fun _ h => h.elim) ?aF ?aB ?aS ?aL ?_
            (case aR => repeat (first | exact (Kd.R_reads' HO241.out).2.2 | (with_reducible refine Kd.C_alloc ?_ _) | (with_reducible refine Kd.C_drewN ?_ _) | (with_reducible refine Kd.C_drew ?_)))
            (case aB => exact (by repeat (first | (with_reducible first | exact HB.out | apply below_alloc | apply pw_below_drewN | apply below_drew1 | refine below_set ?_ GE226.out | refine below_set ?_ GE231.out) | exact HB.out)))
            (case aF => exact (fun k_ hk => ⟨(Nat.le_trans (below_size (by repeat (first | (with_reducible first | exact HB.out | apply below_alloc | apply pw_below_drewN | apply below_drew1 | refine below_set ?_ GE226.out | refine below_set ?_ GE231.out) | exact HB.out))) hk), Kd.fresh' (Kd.R_lt (by (with_reducible repeat (first | apply Kd.R_alloc | apply Kd.R_drewN | apply Kd.R_drew)); exact HO241.out)) k_ hk⟩))
            (case aO => exact (by (with_reducible repeat (first | apply Kd.R_alloc | apply Kd.R_drewN | apply Kd.R_drew)); exact HO238.out))
            (case aS => exact (below_size (by repeat (first | (with_reducible first | exact HB.out | apply below_alloc | apply pw_below_drewN | apply below_drew1 | refine below_set ?_ GE226.out | refine below_set ?_ GE231.out) | exact HB.out))))
            (case aL => have := LMc23.out; omega)
            intro v243 w36 ho hb hg hat
            rw [← Ny242.out] at ho
            have n0_ := Aside0.mk (Kd.V_afterv (ok := (fun k_ => (P1_ k_ ∨ w.heap.size ≤ k_) ∧ some k_ ≠ (.slice Ao28 x5_2.length co28 : Value).ownBlock ∧ some k_ ≠ (.slice Ao37 y239.length co37 : Value).ownBlock ∧ k_ ≠ gb226 ∧ k_ ≠ gb231)) (by (with_reducible repeat (first | apply Kd.V_alloc | apply Kd.V_drewN | apply Kd.V_drew)); exact Kd.V_mono HO_1.out (fun _ hk => ⟨⟨hk.1, ⟨hk.2.2.2.1, ⟨hk.2.2.1, ⟨hk.2.2.2.2.1, hk.2.2.2.2.2⟩⟩⟩⟩, hk.2.1⟩)) hg hat)
            have n1_ := Aside0.mk (Kd.N_afterv (ok := (fun k_ => (P1_ k_ ∨ w.heap.size ≤ k_) ∧ some k_ ≠ (.slice Ao37 y239.length co37 : Value).ownBlock ∧ k_ ≠ gb226 ∧ k_ ≠ gb231)) (by (with_reducible repeat (first | apply Kd.N_alloc | apply Kd.N_drewN | apply Kd.N_drew)); exact Kd.N_mono HO_5.out (fun _ hk => ⟨⟨hk.1, ⟨hk.2.2.1, ⟨hk.2.2.2.1, hk.2.2.2.2⟩⟩⟩, hk.2.1⟩)) hg hat)
            have n2_ := Aside0.mk (blk_grown (g := gb226) (o := .cells #[.slice (some ad230) l0_0.length c0_0] 24 (0, 0)) (by (with_reducible repeat (first | refine blk_drewN ?_ _ | refine blk_drew ?_ | refine blk_alloc ?_ _)); exact BK226.out) hg (Kd.R_ne HO238.out BK226.out (by decide)))
            have n3_ := Aside0.mk (blk_grown (g := gb231) (o := .cells #[.int .i64 ((rd_T54 l0_0 (l1.length : Int)).f0), .int .i64 ((rd_T54 l0_0 (l1.length : Int)).f1)] 54 (0, 0)) (by (with_reducible repeat (first | refine blk_drewN ?_ _ | refine blk_drew ?_ | refine blk_alloc ?_ _)); exact BK231.out) hg (Kd.R_ne HO238.out BK231.out (by decide)))
            have n4_ := Aside0.mk (Kd.R_after (ok := (fun k_ => (w.heap.size ≤ k_))) (by (with_reducible repeat (first | apply Kd.R_alloc | apply Kd.R_drewN | apply Kd.R_drew)); exact HO241.out) hg hat)
            have n5_ := Aside0.mk (hb)
            have n6_ := Aside0.mk (ho)
            clear HO_1
            clear HO_5
            clear BK226
            clear BK231
            clear HO241
            clear HB
            clear HO238
            have HO_1 := n0_
            have HO_5 := n1_
            have BK226 := n2_
            have BK231 := n3_
            have HO241 := n4_
            have HB := n5_
            have HO244 := n6_
            clear n0_ n1_ n2_ n3_ n4_ n5_ n6_
            clear ho hb hg hat
            obtain ⟨Ao38, co38, eo38⟩ := Kd.R_slice HO244.out
            (first | subst eo38 | (injection eo38 with f1_ f2_ f3_; have f4_ := f1_.symm; have f5_ := f3_.symm; clear f1_ f2_ f3_; subst f4_; subst f5_))
            refine hK.out _ _ ((blk_cell BK226.out 0).trans rfl) (fun hHeld => ?_)
            clear hK K
            refine norm_ (a' := ?_) ?_ ?_
            rotate_left
            ·
             show Act.put _ (some 51) _ = _
             simp only [Act.put, List.setIfInBounds_toArray, List.set_cons_zero, List.set_cons_succ, i64_w, i32_w]
             rfl
            refine one_ (i := 8) (N := some 52) #[true, true, true, true, true, true, true, true, true, false, false] rfl rfl (one_of HT_.out (by kernel_rfl)) (by decide) (fun K hK => ?_)
            refine goes_ Try.func50 (by kernel_rfl) rfl #[.agg #[.slice (some ad230) l0_0.length c0_0], .slice Ao38 y242.length co38] (by rfl) rfl rfl (by (try simp only [List.map_toArray, List.map_cons, List.map_nil]); first | done | rfl | (simp only [List.length_drop, List.length_take]; rfl)) ?_
            with_reducible refine (ih k2 (by have := HJ9.out; have := HK2.out; omega) _ _ l0_0 (fun k_ => some k_ = (.slice Ao38 y242.length co38 : Value).ownBlock) _ _ y242 t245 _ ?side1 ?side2 ?side3 A24.out).mono ?_
            (case side1 => repeat (first | exact (Kd.C_below HR0_0.out HB.out) | (with_reducible refine Kd.C_alloc ?_ _) | (with_reducible refine Kd.C_drewN ?_ _) | (with_reducible refine Kd.C_drew ?_)))
            (case side2 => exact HC0_0.out)
            (case side3 => exact Kd.R_V (Kd.R_tight rfl (Kd.R_types (Kd.R_types (Kd.R_apart' (HO244.out) (Kd.N_typed HO_5.out) (by decide)) BK226.out (by decide)) BK231.out (by decide))))
            rintro e w39 ⟨v246, rfl, ho0, hb⟩
            refine ⟨_, rfl, ?_⟩
            have n0_ := Aside0.mk (Kd.V_elder' (by (with_reducible repeat (first | apply Kd.V_alloc | apply Kd.V_drewN | apply Kd.V_drew)); exact HO_1.out) (Kd.N_base ho0) hb)
            have n1_ := Aside0.mk (Kd.N_elder' (by (with_reducible repeat (first | apply Kd.N_alloc | apply Kd.N_drewN | apply Kd.N_drew)); exact HO_5.out) (Kd.N_base ho0) hb)
            have n2_ := Aside0.mk (Kd.R_below (by (with_reducible repeat (first | apply Kd.R_alloc | apply Kd.R_drewN | apply Kd.R_drew)); exact HO241.out) hb)
            have n3_ := Aside0.mk (Kd.R_below (by (with_reducible repeat (first | apply Kd.R_alloc | apply Kd.R_drewN | apply Kd.R_drew)); exact HO244.out) hb)
            have n4_ := Aside0.mk (Kd.N_lower (Kd.N_mono (ok' := fun k_ => (P1_ k_ ∨ w.heap.size ≤ k_) ∧ some k_ ≠ (.slice Ao28 x5_2.length co28 : Value).ownBlock ∧ some k_ ≠ (.slice Ao37 y239.length co37 : Value).ownBlock ∧ k_ ≠ gb226 ∧ k_ ≠ gb231) ho0 (fun k_ hk_ => ⟨Or.elim hk_ (fun hs_ => (.inr (((Kd.R_types (Kd.R_types (Kd.R_apart' (HO244.out) (Kd.N_typed HO_5.out) (by decide)) BK226.out (by decide)) BK231.out (by decide)).1 k_ hs_.symm).1.1.1.1))) (fun hn_ => (.inr (Nat.le_trans (below_size (by repeat (first | (with_reducible first | exact HB.out | apply below_alloc | apply pw_below_drewN | apply below_drew1 | refine below_set ?_ GE226.out | refine below_set ?_ GE231.out) | exact HB.out))) hn_))), Or.elim hk_ (fun hs_ => ((Kd.R_types (Kd.R_types (Kd.R_apart' (HO244.out) (Kd.N_typed HO_5.out) (by decide)) BK226.out (by decide)) BK231.out (by decide)).1 k_ hs_.symm).1.1.2) (fun hn_ => (Kd.fresh' (Kd.N_lt (by (with_reducible repeat (first | apply Kd.N_alloc | apply Kd.N_drewN | apply Kd.N_drew)); exact HO_5.out)) k_ hn_)), Or.elim hk_ (fun hs_ => ((Kd.R_types (Kd.R_types (Kd.R_apart' (HO244.out) (Kd.N_typed HO_5.out) (by decide)) BK226.out (by decide)) BK231.out (by decide)).1 k_ hs_.symm).1.1.1.2) (fun hn_ => (Kd.fresh' (Kd.R_lt (by (with_reducible repeat (first | apply Kd.R_alloc | apply Kd.R_drewN | apply Kd.R_drew)); exact HO241.out)) k_ hn_)), Or.elim hk_ (fun hs_ => ((Kd.R_types (Kd.R_types (Kd.R_apart' (HO244.out) (Kd.N_typed HO_5.out) (by decide)) BK226.out (by decide)) BK231.out (by decide)).1 k_ hs_.symm).1.2) (fun hn_ => (Kd.freshB (g := gb226) (o := .cells #[.slice (some ad230) l0_0.length c0_0] 24 (0, 0)) (by (with_reducible repeat (first | refine blk_drewN ?_ _ | refine blk_drew ?_ | refine blk_alloc ?_ _)); exact BK226.out) k_ hn_)), Or.elim hk_ (fun hs_ => ((Kd.R_types (Kd.R_types (Kd.R_apart' (HO244.out) (Kd.N_typed HO_5.out) (by decide)) BK226.out (by decide)) BK231.out (by decide)).1 k_ hs_.symm).2) (fun hn_ => (Kd.freshB (g := gb231) (o := .cells #[.int .i64 ((rd_T54 l0_0 (l1.length : Int)).f0), .int .i64 ((rd_T54 l0_0 (l1.length : Int)).f1)] 54 (0, 0)) (by (with_reducible repeat (first | refine blk_drewN ?_ _ | refine blk_drew ?_ | refine blk_alloc ?_ _)); exact BK231.out) k_ hn_))⟩)) (below_size (by repeat (first | (with_reducible first | exact HB.out | apply below_alloc | apply pw_below_drewN | apply below_drew1 | refine below_set ?_ GE226.out | refine below_set ?_ GE231.out) | exact HB.out))))
            have n5_ := Aside0.mk (blk_below (g := gb226) (o := .cells #[.slice (some ad230) l0_0.length c0_0] 24 (0, 0)) (by (with_reducible repeat (first | refine blk_drewN ?_ _ | refine blk_drew ?_ | refine blk_alloc ?_ _)); exact BK226.out) hb)
            have n6_ := Aside0.mk (blk_below (g := gb231) (o := .cells #[.int .i64 ((rd_T54 l0_0 (l1.length : Int)).f0), .int .i64 ((rd_T54 l0_0 (l1.length : Int)).f1)] 54 (0, 0)) (by (with_reducible repeat (first | refine blk_drewN ?_ _ | refine blk_drew ?_ | refine blk_alloc ?_ _)); exact BK231.out) hb)
            have n7_ := Aside0.mk (below_step (by repeat (first | (with_reducible first | exact HB.out | apply below_alloc | apply pw_below_drewN | apply below_drew1 | refine below_set ?_ GE226.out | refine below_set ?_ GE231.out) | exact HB.out)) hb)
            clear HO_1
            clear HO_5
            clear HO241
            clear HO244
            clear BK226
            clear BK231
            clear HB
            have HO_1 := n0_
            have HO_5 := n1_
            have HO241 := n2_
            have HO244 := n3_
            have HO247 := n4_
            have BK226 := n5_
            have BK231 := n6_
            have HB := n7_
            clear n0_ n1_ n2_ n3_ n4_ n5_ n6_ n7_
            (try clear hb)
            (try clear hb2)
            (try clear hk)
            (try clear hi)
            (try clear ho0)
            obtain ⟨Ao41, co41, eo41⟩ := Kd.N_slice HO247.out
            (first | subst eo41 | (injection eo41 with f1_ f2_ f3_; have f4_ := f1_.symm; have f5_ := f3_.symm; clear f1_ f2_ f3_; subst f4_; subst f5_))
            refine hK.out _ _ ((blk_cell BK226.out 0).trans rfl) (fun hHeld => ?_)
            clear hK K
            refine norm_ (a' := ?_) ?_ ?_
            rotate_left
            ·
             show Act.put _ (some 52) _ = _
             simp only [Act.put, List.setIfInBounds_toArray, List.set_cons_zero, List.set_cons_succ, i64_w, i32_w]
             rfl
            refine one_ (i := 9) (N := some 53) #[true, true, true, true, true, true, true, true, true, true, false] rfl rfl (one_of HT_.out (by kernel_rfl)) (by decide) (fun K hK => ?_)
            refine Kd.N_append_rows_step (Kd.slice 3 (Kd.int .i64)) (w0 := w) w.heap.size (by rfl) (.tmp 44) (.tmp 52) 72 31 (.slice none 0 0) 24 rfl Try.underlying72 info31 rfl (by decide) (by omega) (.slice Ao28 x5_2.length co28) x5_2 t245 _ _ _ (fun k_ => (P1_ k_ ∨ w.heap.size ≤ k_) ∧ some k_ ≠ (.slice Ao37 y239.length co37 : Value).ownBlock ∧ k_ ≠ gb226 ∧ k_ ≠ gb231) (fun k_ => ((fun k_ => (P1_ k_ ∨ w.heap.size ≤ k_) ∧ some k_ ≠ (.slice Ao37 y239.length co37 : Value).ownBlock ∧ k_ ≠ gb226 ∧ k_ ≠ gb231)) k_ ∧ some k_ ≠ (.slice Ao28 x5_2.length co28 : Value).ownBlock) rfl rfl ?aO ?aR (fun _ hk => hk) ?aF ?aB ?aS ?aL ?_
            (case aR => exact (by skip; exact Kd.N_F (Kd.N_mono (ok' := (fun k_ => ((fun k_ => (P1_ k_ ∨ w.heap.size ≤ k_) ∧ some k_ ≠ (.slice Ao37 y239.length co37 : Value).ownBlock ∧ k_ ≠ gb226 ∧ k_ ≠ gb231)) k_ ∧ some k_ ≠ (.slice Ao28 x5_2.length co28 : Value).ownBlock)) (HO247.out) (fun k_ hk => ⟨⟨hk.1, ⟨hk.2.2.1, ⟨hk.2.2.2.1, hk.2.2.2.2⟩⟩⟩, hk.2.1⟩))))
            (case aB => exact (by repeat (first | (with_reducible first | exact HB.out | apply below_alloc | apply pw_below_drewN | apply below_drew1 | refine below_set ?_ GE226.out | refine below_set ?_ GE231.out) | exact HB.out)))
            (case aF => exact (fun k_ hk => ⟨(.inr (Nat.le_trans (below_size (by repeat (first | (with_reducible first | exact HB.out | apply below_alloc | apply pw_below_drewN | apply below_drew1 | refine below_set ?_ GE226.out | refine below_set ?_ GE231.out) | exact HB.out))) hk)), Kd.fresh' (Kd.R_lt (by (with_reducible repeat (first | apply Kd.R_alloc | apply Kd.R_drewN | apply Kd.R_drew)); exact HO241.out)) k_ hk, Kd.freshB (g := gb226) (o := .cells #[.slice (some ad230) l0_0.length c0_0] 24 (0, 0)) (by (with_reducible repeat (first | refine blk_drewN ?_ _ | refine blk_drew ?_ | refine blk_alloc ?_ _)); exact BK226.out) k_ hk, Kd.freshB (g := gb231) (o := .cells #[.int .i64 ((rd_T54 l0_0 (l1.length : Int)).f0), .int .i64 ((rd_T54 l0_0 (l1.length : Int)).f1)] 54 (0, 0)) (by (with_reducible repeat (first | refine blk_drewN ?_ _ | refine blk_drew ?_ | refine blk_alloc ?_ _)); exact BK231.out) k_ hk⟩))
            (case aO => exact (by (with_reducible repeat (first | apply Kd.N_alloc | apply Kd.N_drewN | apply Kd.N_drew)); exact Kd.N_mono HO_5.out (fun _ hk => ⟨hk.1.1.1, ⟨hk.1.1.2.1, ⟨hk.1.1.2.2.1, hk.1.1.2.2.2⟩⟩⟩)))
            (case aS => exact (below_size (by repeat (first | (with_reducible first | exact HB.out | apply below_alloc | apply pw_below_drewN | apply below_drew1 | refine below_set ?_ GE226.out | refine below_set ?_ GE231.out) | exact HB.out))))
            (case aL => have := LMc25.out; omega)
            intro v249 w40 ho hb hg hat
            rw [← Ny248.out] at ho
            have n0_ := Aside0.mk (Kd.V_afterv (ok := (fun k_ => (P1_ k_ ∨ w.heap.size ≤ k_) ∧ some k_ ≠ (.slice Ao37 y239.length co37 : Value).ownBlock ∧ some k_ ≠ (.slice Ao38 y242.length co38 : Value).ownBlock ∧ some k_ ≠ (.slice Ao41 t245.length co41 : Value).ownBlock ∧ k_ ≠ gb226 ∧ k_ ≠ gb231)) (by (with_reducible repeat (first | apply Kd.V_alloc | apply Kd.V_drewN | apply Kd.V_drew)); exact Kd.V_mono HO_1.out (fun _ hk => ⟨⟨hk.1.1.1, ⟨hk.1.1.2.2.1, ⟨hk.1.2, ⟨hk.2, ⟨hk.1.1.2.2.2.1, hk.1.1.2.2.2.2⟩⟩⟩⟩⟩, hk.1.1.2.1⟩)) hg hat)
            have n1_ := Aside0.mk (blk_grown (g := gb226) (o := .cells #[.slice (some ad230) l0_0.length c0_0] 24 (0, 0)) (by (with_reducible repeat (first | refine blk_drewN ?_ _ | refine blk_drew ?_ | refine blk_alloc ?_ _)); exact BK226.out) hg (Kd.N_ne HO_5.out BK226.out (by decide)))
            have n2_ := Aside0.mk (blk_grown (g := gb231) (o := .cells #[.int .i64 ((rd_T54 l0_0 (l1.length : Int)).f0), .int .i64 ((rd_T54 l0_0 (l1.length : Int)).f1)] 54 (0, 0)) (by (with_reducible repeat (first | refine blk_drewN ?_ _ | refine blk_drew ?_ | refine blk_alloc ?_ _)); exact BK231.out) hg (Kd.N_ne HO_5.out BK231.out (by decide)))
            have n3_ := Aside0.mk (Kd.R_over' (by (with_reducible repeat (first | apply Kd.R_alloc | apply Kd.R_drewN | apply Kd.R_drew)); exact HO241.out) (Kd.N_typed (by (with_reducible repeat (first | apply Kd.N_alloc | apply Kd.N_drewN | apply Kd.N_drew)); exact HO_5.out)) (by decide) hg)
            have n4_ := Aside0.mk (Kd.R_over' (by (with_reducible repeat (first | apply Kd.R_alloc | apply Kd.R_drewN | apply Kd.R_drew)); exact HO244.out) (Kd.N_typed (by (with_reducible repeat (first | apply Kd.N_alloc | apply Kd.N_drewN | apply Kd.N_drew)); exact HO_5.out)) (by decide) hg)
            have n5_ := Aside0.mk (Kd.N_afterv (ok := (fun k_ => (P1_ k_ ∨ w.heap.size ≤ k_) ∧ some k_ ≠ (.slice Ao37 y239.length co37 : Value).ownBlock ∧ k_ ≠ gb226 ∧ k_ ≠ gb231)) (by (with_reducible repeat (first | apply Kd.N_alloc | apply Kd.N_drewN | apply Kd.N_drew)); exact Kd.N_mono HO247.out (fun _ hk => ⟨⟨hk.1, ⟨hk.2.2.1, ⟨hk.2.2.2.1, hk.2.2.2.2⟩⟩⟩, hk.2.1⟩)) hg hat)
            have n6_ := Aside0.mk (hb)
            have n7_ := Aside0.mk (ho)
            clear HO_1
            clear BK226
            clear BK231
            clear HO241
            clear HO244
            clear HO247
            clear HB
            clear HO_5
            have HO_1 := n0_
            have BK226 := n1_
            have BK231 := n2_
            have HO241 := n3_
            have HO244 := n4_
            have HO247 := n5_
            have HB := n6_
            have HO250 := n7_
            clear n0_ n1_ n2_ n3_ n4_ n5_ n6_ n7_
            clear ho hb hg hat
            refine hK.out _ _ ((blk_cell BK226.out 0).trans rfl) (fun hHeld => ?_)
            clear hK K
            refine norm_ (a' := ?_) ?_ ?_
            rotate_left
            ·
             show Act.put _ (some 53) _ = _
             simp only [Act.put, List.setIfInBounds_toArray, List.set_cons_zero, List.set_cons_succ, i64_w, i32_w]
             rfl
            refine pure_ (i := 10) (N := some 5) (v := ?_) (a' := ?_) #[true, true, true, true, true, true, true, true, true, true, true] rfl rfl (any_of HT_.out (by kernel_rfl)) (fun _ _ _ h => h) (Or.inl ⟨by rfl, ?_⟩) ?_ ?_
            rotate_left
            ·
             intro w'
             go_simp
             with_reducible rfl
            rotate_left
            ·
             simp only [Act.put, List.setIfInBounds_toArray, List.set_cons_zero, List.set_cons_succ, i64_w, i32_w]
             rfl
            refine done_ (done_of HT_.out (by kernel_rfl)) ?_
            try go_wp2
            go_roundg k2
            case measure => have := HJ9.out; have := HK2.out; omega
            case rel => exact ⟨(y248), (wrap64 (x9_2 + 1)), (by first | rfl | (simp; done) | (simp [*]; done)), H', ⟨by have := HJ9.out; have := HK2.out; omega⟩, ⟨by (with_reducible repeat (first | apply Kd.V_alloc | apply Kd.V_drewN | apply Kd.V_drew)); exact Kd.V_mono HO_1.out (fun _ hk => ⟨hk.1.1, ⟨hk.2, ⟨hk.1.2.2.2.2.1, hk.1.2.2.2.2.2⟩⟩⟩)⟩, ⟨by (with_reducible repeat (first | apply Kd.N_alloc | apply Kd.N_drewN | apply Kd.N_drew)); exact Kd.N_mono HO250.out (fun _ hk => ⟨hk.1, ⟨hk.2.2.1, hk.2.2.2⟩⟩)⟩, ⟨by (with_reducible repeat (first | refine blk_drewN ?_ _ | refine blk_drew ?_ | refine blk_alloc ?_ _)); exact BK226.out⟩, ⟨by (with_reducible repeat (first | refine blk_drewN ?_ _ | refine blk_drew ?_ | refine blk_alloc ?_ _)); exact BK231.out⟩, ⟨by repeat (first | (with_reducible first | exact HB.out | apply below_alloc | apply pw_below_drewN | apply below_drew1 | refine below_set ?_ GE226.out | refine below_set ?_ GE231.out) | exact HB.out)⟩⟩
           ·
            rw [if_neg c25] at H
            exact absurd H (by simp)
          ·
           rw [if_neg c23] at H
           exact absurd H (by simp)
         ·
          rw [if_neg c22] at H
          exact absurd H (by simp)
        ·
         rw [if_neg c21] at H
         have c21b0 : decide (x9_2 ≤ ((rd_T54 l0_0 (l1.length : Int)).f1)) = false := decide_eq_false c21
         clear c21
         obtain rfl := Option.some.inj H
         have hnb42 := NB231_226.out
         have hnc42 := NB226_231.out
         have hcz43_0 : wr.cell? ⟨gb231, 0, none⟩ = some (.int .i64 ((rd_T54 l0_0 (l1.length : Int)).f0)) := (blk_cell BK231.out 0).trans rfl
         have hcz43_1 : wr.cell? ⟨gb231, 1, none⟩ = some (.int .i64 ((rd_T54 l0_0 (l1.length : Int)).f1)) := (blk_cell BK231.out 1).trans rfl
         have hfz43_0 := blk_frozen BK231.out 0
         have hfz43_1 := blk_frozen BK231.out 1
         go_wp2
         go_ret
         exact ⟨_, by first | rfl | (simp [errW_none, errW_some] <;> rfl) | (simp [*, errW_none, errW_some] <;> rfl), by (with_reducible repeat (first | apply Kd.N_alloc | apply Kd.N_drewN | apply Kd.N_drew)); exact Kd.N_mono HO_5.out (fun _ hk => hk.1), by repeat (first | (with_reducible first | exact HB.out | apply below_alloc | apply pw_below_drewN | apply below_drew1 | refine below_set ?_ GE226.out | refine below_set ?_ GE231.out) | exact HB.out)⟩
   ·
    rw [if_neg c9] at H
    exact absurd H (by simp)
  ·
   rw [if_neg c8] at H
   exact absurd H (by simp)

end Go.Proofs.Ytdagijgoegkphaa.P

namespace Go.Proofs.Ytdagijgoegkphaa.P
open Go.RowKit Go.Proofs.YtdagijgoegkphaaW.PrintWords Go.Proofs.YtdagijgoegkphaaW.PrintLast Go.Proofs.YtdagijgoegkphaaW.PrintMore
attribute [local go_sem] max2_int min2_int max_two min_two max_three min_three max_four min_four   -- for this text's walks alone

/-! ### tensileref05_Allowed: function 39 -/
def tensileref05_Allowed.l0 : Nat → List (S81) → List (List Int) → List (List Int) → Int → Option ((List (List Int)))
 | 0, _, _, _, _ => none
 | k + 1, x1, x5, x6, x7 => if x7 < (x6.length : Int) then (if 0 ≤ x7 then ((tensileref05_Allows.f k x1 (rd_L8 x6 x7)).bind fun t256 => (if t256 = true then (if x5.length < 5864062014805 then (tensileref05_Allowed.l0 k x1 (x5 ++ [rd_L8 x6 x7]) x6 (wrap64 (x7 + 1))) else (none)) else (tensileref05_Allowed.l0 k x1 x5 x6 (wrap64 (x7 + 1))))) else (none)) else (some x5)
def tensileref05_Allowed.f (k : Nat) (l0_0 : List (S54)) (l1 : List (S81)) : Option ((List (List Int))) := (tensileref05_Lists.f k l0_0 ([] : List Int)).bind fun t252 => (tensileref05_Allowed.l0 k l1 ([] : List (List Int)) t252 0)
set_option maxHeartbeats 8000000 in
set_option maxRecDepth 100000 in
theorem tensileref05_Allowed.calls (k : Nat) (A0_0 : Option Addr) (c0_0 : Nat) (l0_0 : List (S54)) (A1 : Option Addr) (c1 : Nat) (l1 : List (S81)) (r : List (List Int)) (w : World) (hr0_0 : Kd.C k54 w A0_0 l0_0.length l0_0) (hc0_0 : l0_0.length ≤ c0_0) (hr1 : Kd.C k81 w A1 l1.length l1) (hc1 : l1.length ≤ c1) (h : tensileref05_Allowed.f k l0_0 l1 = some r) :
  Calls Try.prog 39 #[.agg #[.slice A0_0 l0_0.length c0_0], .slice A1 l1.length c1] w fun e w' => ∃ v0_ : Value, e = .returned (v0_) ∧ Kd.N (Kd.slice 3 (Kd.int .i64)) 31 w' w.heap.size (fun k_ => (w.heap.size ≤ k_)) v0_ r ∧ Below w.heap.size w w' := by
 have hu24 := Try.underlying24
 have HR0_0 := Aside0.mk hr0_0
 have HC0_0 := Aside0.mk hc0_0
 clear hr0_0 hc0_0
 have HR1 := Aside0.mk hr1
 have HC1 := Aside0.mk hc1
 clear hr1 hc1
 have HB := Aside0.mk (Below.refl w.heap.size w)
 have H : ((tensileref05_Lists.f k l0_0 ([] : List Int)).bind fun t252 => (tensileref05_Allowed.l0 k l1 ([] : List (List Int)) t252 0)) = some r := h
 clear h
 replace H := Option.bind_eq_some_iff.mp H
 obtain ⟨t252, A30, H⟩ := H
 replace H : (tensileref05_Allowed.l0 k l1 ([] : List (List Int)) t252 0) = some r := H
 have A3 := Aside0.mk A30
 clear A30
 have H' := Aside0.mk H
 clear H
 go_enter Try.func39, Try.ntmps39
 go_wp2_with (first | ((with_reducible refine gate_dst (N := 2) rfl ?_); refine box_event ?hg (N := 2) ?hd (cs := #[.slice A0_0 l0_0.length c0_0]) (t := 24) ?hr ?_; (case hd => rfl); (case hg => rfl); (case hr => first | (go_simp; done) | (go_simp; rfl)); intro gb251 hg w4 hbox hb; have n0_ := Aside0.mk (below_step (by repeat (first | (with_reducible first | exact HB.out | apply below_alloc | apply pw_below_drewN | apply below_drew1) | exact HB.out)) hb); have n1_ := Aside0.mk (hbox); have n2_ := Aside0.mk ((by rw [hg]; exact (below_size (by repeat (first | (with_reducible first | exact HB.out | apply below_alloc | apply pw_below_drewN | apply below_drew1) | exact HB.out))) : w.heap.size ≤ gb251)); have n3_ := Aside0.mk ((by rw [hg]; exact (below_size (by repeat (first | (with_reducible first | exact HB.out | apply below_alloc | apply pw_below_drewN | apply below_drew1) | exact HB.out))) : w.heap.size ≤ gb251)); clear HB; have HB := n0_; have BK251 := n1_; have GW251 := n2_; have GE251 := n3_; clear n0_ n1_ n2_ n3_; clear hb hbox hg; have hcz5_0 : w4.cell? ⟨gb251, 0, none⟩ = some (.slice A0_0 l0_0.length c0_0) := (blk_cell BK251.out 0).trans rfl; have hfz5_0 := blk_frozen BK251.out 0) | ((with_reducible refine gate_callee (f := 50) rfl ?_); refine goesL_ (some 9) rfl rfl Try.func50 (by kernel_rfl) rfl #[.agg #[.slice A0_0 l0_0.length c0_0], .slice none 0 0] rfl (by (try simp only [List.map_toArray, List.map_cons, List.map_nil]); first | done | rfl | (simp only [List.length_drop, List.length_take]; rfl)) ?_; (refine (tensileref05_Lists.calls k _ _ l0_0 (fun k_ => False) _ _ ([] : List Int) t252 _ ?side1 ?side2 ?side3 A3.out).mono ?_); (case side1 => repeat (first | exact (Kd.C_below HR0_0.out HB.out) | (with_reducible refine Kd.C_alloc ?_ _) | (with_reducible refine Kd.C_drewN ?_ _) | (with_reducible refine Kd.C_drew ?_))); (case side2 => exact HC0_0.out); (case side3 => exact Kd.V_nil _ _ _ _ _); rintro e w6 ⟨v253, rfl, ho0, hb⟩; refine ⟨_, rfl, ?_⟩; have n0_ := Aside0.mk (Kd.N_lower (Kd.N_mono (ok' := fun k_ => (w.heap.size ≤ k_) ∧ k_ ≠ gb251) ho0 (fun k_ hk_ => ⟨Or.elim hk_ (fun hs_ => (hs_).elim) (fun hn_ => (Nat.le_trans (below_size (by repeat (first | (with_reducible first | exact HB.out | apply below_alloc | apply pw_below_drewN | apply below_drew1 | refine below_set ?_ GE251.out) | exact HB.out))) hn_)), Or.elim hk_ (fun hs_ => (hs_).elim) (fun hn_ => (Kd.freshB (g := gb251) (o := .cells #[.slice A0_0 l0_0.length c0_0] 24 (0, 0)) (by (with_reducible repeat (first | refine blk_drewN ?_ _ | refine blk_drew ?_ | refine blk_alloc ?_ _)); exact BK251.out) k_ hn_))⟩)) (below_size (by repeat (first | (with_reducible first | exact HB.out | apply below_alloc | apply pw_below_drewN | apply below_drew1 | refine below_set ?_ GE251.out) | exact HB.out)))); have n1_ := Aside0.mk (blk_below (g := gb251) (o := .cells #[.slice A0_0 l0_0.length c0_0] 24 (0, 0)) (by (with_reducible repeat (first | refine blk_drewN ?_ _ | refine blk_drew ?_ | refine blk_alloc ?_ _)); exact BK251.out) hb); have n2_ := Aside0.mk (below_step (by repeat (first | (with_reducible first | exact HB.out | apply below_alloc | apply pw_below_drewN | apply below_drew1 | refine below_set ?_ GE251.out) | exact HB.out)) hb); clear BK251; clear HB; have HO254 := n0_; have BK251 := n1_; have HB := n2_; clear n0_ n1_ n2_; (try clear hb); (try clear hb2); (try clear hk); (try clear hi); (try clear ho0)))
 go_loopg [5, 7] k (fun kq v5 v7 w' => ∃ (x5_1 : List (List Int)) (x7_1 : Int), v7 = .int .i64 x7_1 ∧ Aside0 (tensileref05_Allowed.l0 kq l1 x5_1 t252 x7_1 = some r) ∧ Aside0 (kq ≤ k) ∧ Aside0 (Kd.N (Kd.slice 3 (Kd.int .i64)) 31 w' w.heap.size (fun k_ => (w.heap.size ≤ k_) ∧ some k_ ≠ (v253 : Value).ownBlock ∧ k_ ≠ gb251) v5 x5_1) ∧ Aside0 (Kd.N (Kd.slice 3 (Kd.int .i64)) 31 w' w.heap.size (fun k_ => (w.heap.size ≤ k_) ∧ some k_ ≠ (v5 : Value).ownBlock ∧ k_ ≠ gb251) v253 t252) ∧ Aside0 (w'.heap[gb251]? = some (.cells #[(.slice A0_0 l0_0.length c0_0)] 24 (0, 0))) ∧ Aside0 (Below w.heap.size w w'))
 case atStart => exact ⟨(([] : List (List Int))), (0), (by first | rfl | (simp; done) | (simp [*]; done)), H', ⟨Nat.le_refl _⟩, ⟨by first | exact Kd.S_nil _ _ _ _ _ | exact Kd.N_nil _ _ _ _ _ | exact Kd.V_nil _ _ _ _ _ | exact Kd.Q_nil _ _ _ _ _ | exact Kd.R_nil _ _ _ _ _⟩, ⟨by (with_reducible repeat (first | apply Kd.N_alloc | apply Kd.N_drewN | apply Kd.N_drew)); exact Kd.N_mono HO254.out (fun _ hk => ⟨hk.1, ⟨(by simp [Value.ownBlock]), hk.2⟩⟩)⟩, ⟨by (with_reducible repeat (first | refine blk_drewN ?_ _ | refine blk_drew ?_ | refine blk_alloc ?_ _)); exact BK251.out⟩, ⟨by repeat (first | (with_reducible first | exact HB.out | apply below_alloc | apply pw_below_drewN | apply below_drew1 | refine below_set ?_ GE251.out) | exact HB.out)⟩⟩
 case round =>
  clear H'
  try clear c1
  try clear p2
  try clear c3
  try clear c5
  try clear hcz5_0
  try clear hfz5_0
  obtain ⟨x5_1, x7_1, rfl, HA, HK1, HO_5, HO_6, BK251, HB⟩ := hrel
  cases gk with
  | zero => exact absurd HA.out (by simp [tensileref05_Allowed.l0])
  | succ k1 =>
   have H := HA.out
   clear HA
   simp only [tensileref05_Allowed.l0] at H
   by_cases c7 : x7_1 < (t252.length : Int)
   ·
    rw [if_pos c7] at H
    have c7b0 : decide (x7_1 < (t252.length : Int)) = true := decide_eq_true c7
    clear c7
    by_cases c8 : 0 ≤ x7_1
    ·
     rw [if_pos c8] at H
     have c8b0 : decide (0 ≤ x7_1) = true := decide_eq_true c8
     clear c8
     replace H := Option.bind_eq_some_iff.mp H
     obtain ⟨t256, A90, H⟩ := H
     replace H : (if t256 = true then (if x5_1.length < 5864062014805 then (tensileref05_Allowed.l0 k1 l1 (x5_1 ++ [rd_L8 t252 x7_1]) t252 (wrap64 (x7_1 + 1))) else (none)) else (tensileref05_Allowed.l0 k1 l1 x5_1 t252 (wrap64 (x7_1 + 1)))) = some r := H
     have A9 := Aside0.mk A90
     clear A90
     by_cases c10 : t256 = true
     ·
      subst c10
      have H1 : (if x5_1.length < 5864062014805 then (tensileref05_Allowed.l0 k1 l1 (x5_1 ++ [rd_L8 t252 x7_1]) t252 (wrap64 (x7_1 + 1))) else (none)) = some r := by rw [if_pos rfl] at H; exact H
      clear H
      have H := H1
      clear H1
      by_cases c11 : x5_1.length < 5864062014805
      ·
       rw [if_pos c11] at H
       have LMc11 := Aside0.mk c11
       clear c11
       obtain ⟨y258, hy258⟩ : ∃ y_ : List (List Int), y_ = (x5_1 ++ [rd_L8 t252 x7_1]) := ⟨_, rfl⟩
       replace H : (tensileref05_Allowed.l0 k1 l1 y258 t252 (wrap64 (x7_1 + 1))) = some r := by first | (rw [hy258]; with_reducible exact H) | (have H2_ := (Option.bind_some _ _).symm.trans H; rw [hy258]; with_reducible exact H2_) | (have H2_ := (Option.bind_some _ _).symm.trans H; with_reducible exact H2_) | with_reducible exact H | (rw [hy258]; exact H) | exact H
       have Ny258 := Aside0.mk hy258
       clear hy258
       have H' := Aside0.mk H
       clear H
       obtain ⟨Ao12, co12, eo12⟩ := Kd.N_slice HO_6.out
       subst eo12
       have p255 : 0 ≤ (x7_1 : Int) := of_decide_eq_true (by first | (with_reducible assumption) | assumption)
       have q255 : x7_1 < (t252.length : Int) := of_decide_eq_true (by first | (with_reducible assumption) | assumption)
       obtain ⟨ad255, A255_0, c255_0, e255, hx255_0, hl255_0, hi255_0⟩ := at_L8 (Kd.N_reads' HO_6.out).2.2 x7_1 p255 q255
       cases e255
       obtain ⟨ce255, hce255, hMe255, hcc255⟩ := Kd.N_get HO_6.out [] x7_1 p255 (by first | exact q255 | exact of_decide_eq_true (by first | (with_reducible assumption) | assumption) | (have e_ := (Kd.N_reads' HO_6.out).1; omega))
       obtain ⟨ua255_0, uc255_0, rfl, ul255_0, ge255_0⟩ := Kd.FK_slice_open hMe255
       have hv255_0 := hcc255 0 _ rfl
       rw [Nat.add_zero, show ((Kd.slice 3 (Kd.int .i64))).sz = 1 from rfl, Nat.mul_one] at hv255_0
       replace hv255_0 := Option.some.inj (hv255_0.symm.trans hx255_0)
       injection hv255_0 with hva_ hvn_ hvc_
       rw [hva_] at ge255_0
       rw [hvc_] at ul255_0
       have HL255_0 := Aside0.mk (show Kd.V (Kd.int .i64) 3 _ w.heap.size _ _ (rd_L8 t252 x7_1) from Kd.V_mk ul255_0 ge255_0)
       clear hva_ hvn_ hvc_ ge255_0 ul255_0
       clear hcc255 hce255
       have HR255_0 := Aside0.mk hi255_0
       have HC255_0 := Aside0.mk hl255_0
       clear hi255_0 hl255_0
       replace p255 := eq_true p255
       replace q255 := eq_true q255
       go_wp2_with (first | ((with_reducible refine gate_callee (f := 47) rfl ?_); refine goesL_ (some 21) rfl rfl Try.func47 (by kernel_rfl) rfl #[.slice A1 l1.length c1, .slice A255_0 (rd_L8 t252 x7_1).length c255_0] rfl (by (try simp only [List.map_toArray, List.map_cons, List.map_nil]); first | done | rfl | (simp only [List.length_drop, List.length_take]; rfl)) ?_; (with_reducible refine (tensileref05_Allows.calls k1 _ _ l1 _ _ (rd_L8 t252 x7_1) true _ ?side1 ?side2 ?side3 ?side4 A9.out).mono ?_); (case side1 => repeat (first | exact (Kd.C_below HR1.out HB.out) | (with_reducible refine Kd.C_alloc ?_ _) | (with_reducible refine Kd.C_drewN ?_ _) | (with_reducible refine Kd.C_drew ?_))); (case side2 => exact HC1.out); (case side3 => repeat (first | exact (by repeat (first | (with_reducible exact HR255_0.out) | (with_reducible refine Kd.C_alloc ?_ _) | (with_reducible refine Kd.C_drewN ?_ _) | (with_reducible refine Kd.C_drew ?_) | exact HR255_0.out)) | (with_reducible refine Kd.C_alloc ?_ _) | (with_reducible refine Kd.C_drewN ?_ _) | (with_reducible refine Kd.C_drew ?_))); (case side4 => exact HC255_0.out); rintro e w13 ⟨rfl, hb⟩; refine ⟨_, rfl, ?_⟩; have n0_ := Aside0.mk (Kd.N_below (by (with_reducible repeat (first | apply Kd.N_alloc | apply Kd.N_drewN | apply Kd.N_drew)); exact HO_5.out) hb); have n1_ := Aside0.mk (Kd.N_below (by (with_reducible repeat (first | apply Kd.N_alloc | apply Kd.N_drewN | apply Kd.N_drew)); exact HO_6.out) hb); have n2_ := Aside0.mk (Kd.V_below (by (with_reducible repeat (first | apply Kd.V_alloc | apply Kd.V_drewN | apply Kd.V_drew)); exact HL255_0.out) hb); have n3_ := Aside0.mk (blk_below (g := gb251) (o := .cells #[.slice A0_0 l0_0.length c0_0] 24 (0, 0)) (by (with_reducible repeat (first | refine blk_drewN ?_ _ | refine blk_drew ?_ | refine blk_alloc ?_ _)); exact BK251.out) hb); have n4_ := Aside0.mk (Kd.C_below (by repeat (first | (with_reducible exact HR255_0.out) | (with_reducible refine Kd.C_alloc ?_ _) | (with_reducible refine Kd.C_drewN ?_ _) | (with_reducible refine Kd.C_drew ?_) | exact HR255_0.out)) hb); have n5_ := Aside0.mk (below_step (by repeat (first | (with_reducible first | exact HB.out | apply below_alloc | apply pw_below_drewN | apply below_drew1 | refine below_set ?_ GE251.out) | exact HB.out)) hb); clear HO_5; clear HO_6; clear HL255_0; clear BK251; clear HR255_0; clear HB; have HO_5 := n0_; have HO_6 := n1_; have HL255_0 := n2_; have BK251 := n3_; have HR255_0 := n4_; have HB := n5_; clear n0_ n1_ n2_ n3_ n4_ n5_; (try clear hb); (try clear hb2); (try clear hk); (try clear hi); have p257 : 0 ≤ (x7_1 : Int) := of_decide_eq_true (by first | (with_reducible assumption) | assumption); have q257 : x7_1 < (t252.length : Int) := of_decide_eq_true (by first | (with_reducible assumption) | assumption); obtain ⟨ad257, A257_0, c257_0, e257, hx257_0, hl257_0, hi257_0⟩ := at_L8 (Kd.N_reads' HO_6.out).2.2 x7_1 p257 q257; obtain rfl : ad255 = ad257 := (by injection e257); obtain ⟨ce257, hce257, hMe257, hcc257⟩ := Kd.N_get HO_6.out [] x7_1 p257 (by first | exact q257 | exact of_decide_eq_true (by first | (with_reducible assumption) | assumption) | (have e_ := (Kd.N_reads' HO_6.out).1; omega)); obtain ⟨ua257_0, uc257_0, rfl, ul257_0, ge257_0⟩ := Kd.FK_slice_open hMe257; have hv257_0 := hcc257 0 _ rfl; rw [Nat.add_zero, show ((Kd.slice 3 (Kd.int .i64))).sz = 1 from rfl, Nat.mul_one] at hv257_0; replace hv257_0 := Option.some.inj (hv257_0.symm.trans hx257_0); injection hv257_0 with hva_ hvn_ hvc_; rw [hva_] at ge257_0; rw [hvc_] at ul257_0; have HL257_0 := Aside0.mk (show Kd.V (Kd.int .i64) 3 _ w.heap.size _ _ (rd_L8 t252 x7_1) from Kd.V_mk ul257_0 ge257_0); clear hva_ hvn_ hvc_ ge257_0 ul257_0; clear hcc257 hce257; have HR257_0 := Aside0.mk hi257_0; have HC257_0 := Aside0.mk hl257_0; clear hi257_0 hl257_0; replace p257 := eq_true p257; replace q257 := eq_true q257) | ((with_reducible refine gate_builtin (b := .append) (xs := #[.tmp 22, .tmp 27]) rfl ?_); at_builtin; refine Kd.N_append (Kd.slice 3 (Kd.int .i64)) (w0 := w) w.heap.size rfl (.tmp 22) (.tmp 27) 72 31 (.slice none 0 0) 24 rfl Try.underlying72 info31 rfl (by decide) (by omega) u5 x5_1 (rd_L8 t252 x7_1) [.slice A257_0 (rd_L8 t252 x7_1).length c257_0] (fun k_ => (w.heap.size ≤ k_) ∧ some k_ ≠ (.slice (some ad255) t252.length co12 : Value).ownBlock ∧ k_ ≠ gb251) (fun k_ => ((fun k_ => (w.heap.size ≤ k_) ∧ some k_ ≠ (.slice (some ad255) t252.length co12 : Value).ownBlock ∧ k_ ≠ gb251)) k_ ∧ some k_ ≠ (u5 : Value).ownBlock) rfl rfl ?aP (fun _ hk => hk) ?aF ?aO ?aB ?aS ?aL ?_; (case aP => exact (Kd.FK_slice_mk (Kd.V_reads' (Kd.V_mono (ok' := (fun k_ => ((fun k_ => (w.heap.size ≤ k_) ∧ some k_ ≠ (.slice (some ad255) t252.length co12 : Value).ownBlock ∧ k_ ≠ gb251)) k_ ∧ some k_ ≠ (u5 : Value).ownBlock)) (HL257_0.out) (fun k_ hk => ⟨⟨hk.1.1, ⟨hk.2, hk.1.2.2⟩⟩, hk.1.2.1⟩))).2.1 (Kd.V_F (Kd.V_mono (ok' := (fun k_ => ((fun k_ => (w.heap.size ≤ k_) ∧ some k_ ≠ (.slice (some ad255) t252.length co12 : Value).ownBlock ∧ k_ ≠ gb251)) k_ ∧ some k_ ≠ (u5 : Value).ownBlock)) (HL257_0.out) (fun k_ hk => ⟨⟨hk.1.1, ⟨hk.2, hk.1.2.2⟩⟩, hk.1.2.1⟩))))); (case aB => exact (by repeat (first | (with_reducible first | exact HB.out | apply below_alloc | apply pw_below_drewN | apply below_drew1 | refine below_set ?_ GE251.out) | exact HB.out))); (case aF => exact (fun k_ hk => ⟨(Nat.le_trans (below_size (by repeat (first | (with_reducible first | exact HB.out | apply below_alloc | apply pw_below_drewN | apply below_drew1 | refine below_set ?_ GE251.out) | exact HB.out))) hk), Kd.fresh' (Kd.N_lt (by (with_reducible repeat (first | apply Kd.N_alloc | apply Kd.N_drewN | apply Kd.N_drew)); exact HO_6.out)) k_ hk, Kd.freshB (g := gb251) (o := .cells #[.slice A0_0 l0_0.length c0_0] 24 (0, 0)) (by (with_reducible repeat (first | refine blk_drewN ?_ _ | refine blk_drew ?_ | refine blk_alloc ?_ _)); exact BK251.out) k_ hk⟩)); (case aO => exact (by (with_reducible repeat (first | apply Kd.N_alloc | apply Kd.N_drewN | apply Kd.N_drew)); exact HO_5.out)); (case aS => exact (below_size (by repeat (first | (with_reducible first | exact HB.out | apply below_alloc | apply pw_below_drewN | apply below_drew1 | refine below_set ?_ GE251.out) | exact HB.out)))); (case aL => have := LMc11.out; omega); intro v259 w14 ho hb hg hat; rw [← Ny258.out] at ho; have n0_ := Aside0.mk (Kd.N_afterv (ok := (fun k_ => (w.heap.size ≤ k_) ∧ k_ ≠ gb251)) (by (with_reducible repeat (first | apply Kd.N_alloc | apply Kd.N_drewN | apply Kd.N_drew)); exact Kd.N_mono HO_6.out (fun _ hk => ⟨⟨hk.1, hk.2.2⟩, hk.2.1⟩)) hg hat); have n1_ := Aside0.mk (blk_grown (g := gb251) (o := .cells #[.slice A0_0 l0_0.length c0_0] 24 (0, 0)) (by (with_reducible repeat (first | refine blk_drewN ?_ _ | refine blk_drew ?_ | refine blk_alloc ?_ _)); exact BK251.out) hg (Kd.N_ne HO_5.out BK251.out (by decide))); have n2_ := Aside0.mk (Kd.V_afterv (ok := (fun k_ => (w.heap.size ≤ k_) ∧ some k_ ≠ (.slice (some ad255) t252.length co12 : Value).ownBlock ∧ k_ ≠ gb251)) (by (with_reducible repeat (first | apply Kd.V_alloc | apply Kd.V_drewN | apply Kd.V_drew)); exact Kd.V_mono HL255_0.out (fun _ hk => ⟨⟨hk.1.1, ⟨hk.2, hk.1.2.2⟩⟩, hk.1.2.1⟩)) hg hat); have n3_ := Aside0.mk (Kd.V_afterv (ok := (fun k_ => (w.heap.size ≤ k_) ∧ some k_ ≠ (.slice (some ad255) t252.length co12 : Value).ownBlock ∧ k_ ≠ gb251)) (by (with_reducible repeat (first | apply Kd.V_alloc | apply Kd.V_drewN | apply Kd.V_drew)); exact Kd.V_mono HL257_0.out (fun _ hk => ⟨⟨hk.1.1, ⟨hk.2, hk.1.2.2⟩⟩, hk.1.2.1⟩)) hg hat); have n4_ := Aside0.mk (hb); have n5_ := Aside0.mk (ho); clear HO_6; clear BK251; clear HL255_0; clear HL257_0; clear HB; clear HO_5; have HO_6 := n0_; have BK251 := n1_; have HL255_0 := n2_; have HL257_0 := n3_; have HB := n4_; have HO260 := n5_; clear n0_ n1_ n2_ n3_ n4_ n5_; clear ho hb hg hat))
       go_roundg k1
       case measure => have := HK1.out; omega
       case rel => exact ⟨(y258), (wrap64 (x7_1 + 1)), (by first | rfl | (simp; done) | (simp [*]; done)), H', ⟨by have := HK1.out; omega⟩, ⟨by (with_reducible repeat (first | apply Kd.N_alloc | apply Kd.N_drewN | apply Kd.N_drew)); exact HO260.out⟩, ⟨by (with_reducible repeat (first | apply Kd.N_alloc | apply Kd.N_drewN | apply Kd.N_drew)); exact Kd.N_mono HO_6.out (fun _ hk => ⟨hk.1.1, ⟨hk.2, hk.1.2⟩⟩)⟩, ⟨by (with_reducible repeat (first | refine blk_drewN ?_ _ | refine blk_drew ?_ | refine blk_alloc ?_ _)); exact BK251.out⟩, ⟨by repeat (first | (with_reducible first | exact HB.out | apply below_alloc | apply pw_below_drewN | apply below_drew1 | refine below_set ?_ GE251.out) | exact HB.out)⟩⟩
      ·
       rw [if_neg c11] at H
       exact absurd H (by simp)
     ·
      replace c10 := Bool.eq_false_iff.mpr c10
      subst c10
      have H1 : (tensileref05_Allowed.l0 k1 l1 x5_1 t252 (wrap64 (x7_1 + 1))) = some r := by rw [if_neg (show ¬ (false = true) by decide)] at H; exact H
      clear H
      have H := H1
      clear H1
      have H' := Aside0.mk H
      clear H
      obtain ⟨Ao15, co15, eo15⟩ := Kd.N_slice HO_6.out
      subst eo15
      have p255 : 0 ≤ (x7_1 : Int) := of_decide_eq_true (by first | (with_reducible assumption) | assumption)
      have q255 : x7_1 < (t252.length : Int) := of_decide_eq_true (by first | (with_reducible assumption) | assumption)
      obtain ⟨ad255, A255_0, c255_0, e255, hx255_0, hl255_0, hi255_0⟩ := at_L8 (Kd.N_reads' HO_6.out).2.2 x7_1 p255 q255
      cases e255
      obtain ⟨ce255, hce255, hMe255, hcc255⟩ := Kd.N_get HO_6.out [] x7_1 p255 (by first | exact q255 | exact of_decide_eq_true (by first | (with_reducible assumption) | assumption) | (have e_ := (Kd.N_reads' HO_6.out).1; omega))
      obtain ⟨ua255_0, uc255_0, rfl, ul255_0, ge255_0⟩ := Kd.FK_slice_open hMe255
      have hv255_0 := hcc255 0 _ rfl
      rw [Nat.add_zero, show ((Kd.slice 3 (Kd.int .i64))).sz = 1 from rfl, Nat.mul_one] at hv255_0
      replace hv255_0 := Option.some.inj (hv255_0.symm.trans hx255_0)
      injection hv255_0 with hva_ hvn_ hvc_
      rw [hva_] at ge255_0
      rw [hvc_] at ul255_0
      have HL255_0 := Aside0.mk (show Kd.V (Kd.int .i64) 3 _ w.heap.size _ _ (rd_L8 t252 x7_1) from Kd.V_mk ul255_0 ge255_0)
      clear hva_ hvn_ hvc_ ge255_0 ul255_0
      clear hcc255 hce255
      have HR255_0 := Aside0.mk hi255_0
      have HC255_0 := Aside0.mk hl255_0
      clear hi255_0 hl255_0
      replace p255 := eq_true p255
      replace q255 := eq_true q255
      go_wp2_with (first | ((with_reducible refine gate_callee (f := 47) rfl ?_); refine goesL_ (some 21) rfl rfl Try.func47 (by kernel_rfl) rfl #[.slice A1 l1.length c1, .slice A255_0 (rd_L8 t252 x7_1).length c255_0] rfl (by (try simp only [List.map_toArray, List.map_cons, List.map_nil]); first | done | rfl | (simp only [List.length_drop, List.length_take]; rfl)) ?_; (with_reducible refine (tensileref05_Allows.calls k1 _ _ l1 _ _ (rd_L8 t252 x7_1) false _ ?side1 ?side2 ?side3 ?side4 A9.out).mono ?_); (case side1 => repeat (first | exact (Kd.C_below HR1.out HB.out) | (with_reducible refine Kd.C_alloc ?_ _) | (with_reducible refine Kd.C_drewN ?_ _) | (with_reducible refine Kd.C_drew ?_))); (case side2 => exact HC1.out); (case side3 => repeat (first | exact (by repeat (first | (with_reducible exact HR255_0.out) | (with_reducible refine Kd.C_alloc ?_ _) | (with_reducible refine Kd.C_drewN ?_ _) | (with_reducible refine Kd.C_drew ?_) | exact HR255_0.out)) | (with_reducible refine Kd.C_alloc ?_ _) | (with_reducible refine Kd.C_drewN ?_ _) | (with_reducible refine Kd.C_drew ?_))); (case side4 => exact HC255_0.out); rintro e w16 ⟨rfl, hb⟩; refine ⟨_, rfl, ?_⟩; have n0_ := Aside0.mk (Kd.N_below (by (with_reducible repeat (first | apply Kd.N_alloc | apply Kd.N_drewN | apply Kd.N_drew)); exact HO_5.out) hb); have n1_ := Aside0.mk (Kd.N_below (by (with_reducible repeat (first | apply Kd.N_alloc | apply Kd.N_drewN | apply Kd.N_drew)); exact HO_6.out) hb); have n2_ := Aside0.mk (Kd.V_below (by (with_reducible repeat (first | apply Kd.V_alloc | apply Kd.V_drewN | apply Kd.V_drew)); exact HL255_0.out) hb); have n3_ := Aside0.mk (blk_below (g := gb251) (o := .cells #[.slice A0_0 l0_0.length c0_0] 24 (0, 0)) (by (with_reducible repeat (first | refine blk_drewN ?_ _ | refine blk_drew ?_ | refine blk_alloc ?_ _)); exact BK251.out) hb); have n4_ := Aside0.mk (Kd.C_below (by repeat (first | (with_reducible exact HR255_0.out) | (with_reducible refine Kd.C_alloc ?_ _) | (with_reducible refine Kd.C_drewN ?_ _) | (with_reducible refine Kd.C_drew ?_) | exact HR255_0.out)) hb); have n5_ := Aside0.mk (below_step (by repeat (first | (with_reducible first | exact HB.out | apply below_alloc | apply pw_below_drewN | apply below_drew1 | refine below_set ?_ GE251.out) | exact HB.out)) hb); clear HO_5; clear HO_6; clear HL255_0; clear BK251; clear HR255_0; clear HB; have HO_5 := n0_; have HO_6 := n1_; have HL255_0 := n2_; have BK251 := n3_; have HR255_0 := n4_; have HB := n5_; clear n0_ n1_ n2_ n3_ n4_ n5_; (try clear hb); (try clear hb2); (try clear hk); (try clear hi)))
      go_roundg k1
      case measure => have := HK1.out; omega
      case rel => exact ⟨(x5_1), (wrap64 (x7_1 + 1)), (by first | rfl | (simp; done) | (simp [*]; done)), H', ⟨by have := HK1.out; omega⟩, ⟨by (with_reducible repeat (first | apply Kd.N_alloc | apply Kd.N_drewN | apply Kd.N_drew)); exact HO_5.out⟩, ⟨by (with_reducible repeat (first | apply Kd.N_alloc | apply Kd.N_drewN | apply Kd.N_drew)); exact HO_6.out⟩, ⟨by (with_reducible repeat (first | refine blk_drewN ?_ _ | refine blk_drew ?_ | refine blk_alloc ?_ _)); exact BK251.out⟩, ⟨by repeat (first | (with_reducible first | exact HB.out | apply below_alloc | apply pw_below_drewN | apply below_drew1 | refine below_set ?_ GE251.out) | exact HB.out)⟩⟩
    ·
     rw [if_neg c8] at H
     exact absurd H (by simp)
   ·
    rw [if_neg c7] at H
    have c7b0 : decide (x7_1 < (t252.length : Int)) = false := decide_eq_false c7
    clear c7
    obtain rfl := Option.some.inj H
    obtain ⟨Ao17, co17, eo17⟩ := Kd.N_slice HO_6.out
    subst eo17
    go_wp2
    go_ret
    exact ⟨_, by first | rfl | (simp [errW_none, errW_some] <;> rfl) | (simp [*, errW_none, errW_some] <;> rfl), by (with_reducible repeat (first | apply Kd.N_alloc | apply Kd.N_drewN | apply Kd.N_drew)); exact Kd.N_mono HO_5.out (fun _ hk => hk.1), by repeat (first | (with_reducible first | exact HB.out | apply below_alloc | apply pw_below_drewN | apply below_drew1 | refine below_set ?_ GE251.out) | exact HB.out)⟩

end Go.Proofs.Ytdagijgoegkphaa.P

namespace Go.Proofs.Ytdagijgoegkphaa.P
open Go.RowKit Go.Proofs.YtdagijgoegkphaaW.PrintWords Go.Proofs.YtdagijgoegkphaaW.PrintLast Go.Proofs.YtdagijgoegkphaaW.PrintMore
attribute [local go_sem] max2_int min2_int max_two min_two max_three min_three max_four min_four   -- for this text's walks alone

/-! ### tensilelaw05_asked: function 38 -/
def tensilelaw05_asked.f (k : Nat) (l0_0 : List (S54)) (l1 : List (S81)) : Option (Int) := (tensilelaw05_fault.f k l0_0 l1).bind fun t262 => (if t262 = 0 then ((tensileref05_Allowed.f k l0_0 l1).bind fun t263 => (if (t263.length : Int) = 0 then (some 9) else (some 0))) else (some t262))
set_option maxHeartbeats 8000000 in
set_option maxRecDepth 100000 in
theorem tensilelaw05_asked.calls (k : Nat) (A0_0 : Option Addr) (c0_0 : Nat) (l0_0 : List (S54)) (A1 : Option Addr) (c1 : Nat) (l1 : List (S81)) (r : Int) (w : World) (hr0_0 : Kd.C k54 w A0_0 l0_0.length l0_0) (hc0_0 : l0_0.length ≤ c0_0) (hr1 : Kd.C k81 w A1 l1.length l1) (hc1 : l1.length ≤ c1) (h : tensilelaw05_asked.f k l0_0 l1 = some r) :
  Calls Try.prog 38 #[.agg #[.slice A0_0 l0_0.length c0_0], .slice A1 l1.length c1] w fun e w' => e = .returned (.int .i64 r) ∧ Below w.heap.size w w' := by
 have hu24 := Try.underlying24
 have HR0_0 := Aside0.mk hr0_0
 have HC0_0 := Aside0.mk hc0_0
 clear hr0_0 hc0_0
 have HR1 := Aside0.mk hr1
 have HC1 := Aside0.mk hc1
 clear hr1 hc1
 have HB := Aside0.mk (Below.refl w.heap.size w)
 have H : ((tensilelaw05_fault.f k l0_0 l1).bind fun t262 => (if t262 = 0 then ((tensileref05_Allowed.f k l0_0 l1).bind fun t263 => (if (t263.length : Int) = 0 then (some 9) else (some 0))) else (some t262))) = some r := h
 clear h
 replace H := Option.bind_eq_some_iff.mp H
 obtain ⟨t262, A30, H⟩ := H
 replace H : (if t262 = 0 then ((tensileref05_Allowed.f k l0_0 l1).bind fun t263 => (if (t263.length : Int) = 0 then (some 9) else (some 0))) else (some t262)) = some r := H
 have A3 := Aside0.mk A30
 clear A30
 by_cases c4 : t262 = 0
 ·
  rw [if_pos c4] at H
  have c4b0 : (t262 == 0) = true := beq_iff_eq.mpr c4
  have c4b1 : (t262 != 0) = false := bne_eq_false_iff_eq.mpr c4
  clear c4
  replace H := Option.bind_eq_some_iff.mp H
  obtain ⟨t263, A50, H⟩ := H
  replace H : (if (t263.length : Int) = 0 then (some 9) else (some 0)) = some r := H
  have A5 := Aside0.mk A50
  clear A50
  by_cases c6 : (t263.length : Int) = 0
  ·
   rw [if_pos c6] at H
   have c6b0 : ((t263.length : Int) == 0) = true := beq_iff_eq.mpr c6
   have c6b1 : ((t263.length : Int) != 0) = false := bne_eq_false_iff_eq.mpr c6
   clear c6
   obtain rfl := Option.some.inj H
   go_enter Try.func38, Try.ntmps38
   go_wp2_with (first | ((with_reducible refine gate_dst (N := 2) rfl ?_); refine box_event ?hg (N := 2) ?hd (cs := #[.slice A0_0 l0_0.length c0_0]) (t := 24) ?hr ?_; (case hd => rfl); (case hg => rfl); (case hr => first | (go_simp; done) | (go_simp; rfl)); intro gb261 hg w7 hbox hb; have n0_ := Aside0.mk (below_step (by repeat (first | (with_reducible first | exact HB.out | apply below_alloc | apply pw_below_drewN | apply below_drew1) | exact HB.out)) hb); have n1_ := Aside0.mk (hbox); have n2_ := Aside0.mk ((by rw [hg]; exact (below_size (by repeat (first | (with_reducible first | exact HB.out | apply below_alloc | apply pw_below_drewN | apply below_drew1) | exact HB.out))) : w.heap.size ≤ gb261)); have n3_ := Aside0.mk ((by rw [hg]; exact (below_size (by repeat (first | (with_reducible first | exact HB.out | apply below_alloc | apply pw_below_drewN | apply below_drew1) | exact HB.out))) : w.heap.size ≤ gb261)); clear HB; have HB := n0_; have BK261 := n1_; have GW261 := n2_; have GE261 := n3_; clear n0_ n1_ n2_ n3_; clear hb hbox hg; have hcz8_0 : w7.cell? ⟨gb261, 0, none⟩ = some (.slice A0_0 l0_0.length c0_0) := (blk_cell BK261.out 0).trans rfl; have hfz8_0 := blk_frozen BK261.out 0) | ((with_reducible refine gate_callee (f := 49) rfl ?_); refine goesL_ (some 8) rfl rfl Try.func49 (by kernel_rfl) rfl #[.agg #[.slice A0_0 l0_0.length c0_0], .slice A1 l1.length c1] rfl (by (try simp only [List.map_toArray, List.map_cons, List.map_nil]); first | done | rfl | (simp only [List.length_drop, List.length_take]; rfl)) ?_; (with_reducible refine (tensilelaw05_fault.calls k _ _ l0_0 _ _ l1 t262 _ ?side1 ?side2 ?side3 ?side4 A3.out).mono ?_); (case side1 => repeat (first | exact (Kd.C_below HR0_0.out HB.out) | (with_reducible refine Kd.C_alloc ?_ _) | (with_reducible refine Kd.C_drewN ?_ _) | (with_reducible refine Kd.C_drew ?_))); (case side2 => exact HC0_0.out); (case side3 => repeat (first | exact (Kd.C_below HR1.out HB.out) | (with_reducible refine Kd.C_alloc ?_ _) | (with_reducible refine Kd.C_drewN ?_ _) | (with_reducible refine Kd.C_drew ?_))); (case side4 => exact HC1.out); rintro e w9 ⟨rfl, hb⟩; refine ⟨_, rfl, ?_⟩; have n0_ := Aside0.mk (blk_below (g := gb261) (o := .cells #[.slice A0_0 l0_0.length c0_0] 24 (0, 0)) (by (with_reducible repeat (first | refine blk_drewN ?_ _ | refine blk_drew ?_ | refine blk_alloc ?_ _)); exact BK261.out) hb); have n1_ := Aside0.mk (below_step (by repeat (first | (with_reducible first | exact HB.out | apply below_alloc | apply pw_below_drewN | apply below_drew1 | refine below_set ?_ GE261.out) | exact HB.out)) hb); clear BK261; clear HB; have BK261 := n0_; have HB := n1_; clear n0_ n1_; (try clear hb); (try clear hb2); (try clear hk); (try clear hi); have hcz10_0 : w9.cell? ⟨gb261, 0, none⟩ = some (.slice A0_0 l0_0.length c0_0) := (blk_cell BK261.out 0).trans rfl; have hfz10_0 := blk_frozen BK261.out 0) | ((with_reducible refine gate_callee (f := 39) rfl ?_); refine goesL_ (some 14) rfl rfl Try.func39 (by kernel_rfl) rfl #[.agg #[.slice A0_0 l0_0.length c0_0], .slice A1 l1.length c1] rfl (by (try simp only [List.map_toArray, List.map_cons, List.map_nil]); first | done | rfl | (simp only [List.length_drop, List.length_take]; rfl)) ?_; (with_reducible refine (tensileref05_Allowed.calls k _ _ l0_0 _ _ l1 t263 _ ?side1 ?side2 ?side3 ?side4 A5.out).mono ?_); (case side1 => repeat (first | exact (Kd.C_below HR0_0.out HB.out) | (with_reducible refine Kd.C_alloc ?_ _) | (with_reducible refine Kd.C_drewN ?_ _) | (with_reducible refine Kd.C_drew ?_))); (case side2 => exact HC0_0.out); (case side3 => repeat (first | exact (Kd.C_below HR1.out HB.out) | (with_reducible refine Kd.C_alloc ?_ _) | (with_reducible refine Kd.C_drewN ?_ _) | (with_reducible refine Kd.C_drew ?_))); (case side4 => exact HC1.out); rintro e w11 ⟨v264, rfl, ho0, hb⟩; refine ⟨_, rfl, ?_⟩; have n0_ := Aside0.mk (Kd.N_lower (Kd.N_mono (ok' := fun k_ => k_ ≠ gb261) ho0 (fun k_ hk_ => (Kd.freshB (g := gb261) (o := .cells #[.slice A0_0 l0_0.length c0_0] 24 (0, 0)) (by (with_reducible repeat (first | refine blk_drewN ?_ _ | refine blk_drew ?_ | refine blk_alloc ?_ _)); exact BK261.out) k_ hk_))) (below_size (by repeat (first | (with_reducible first | exact HB.out | apply below_alloc | apply pw_below_drewN | apply below_drew1 | refine below_set ?_ GE261.out) | exact HB.out)))); have n1_ := Aside0.mk (blk_below (g := gb261) (o := .cells #[.slice A0_0 l0_0.length c0_0] 24 (0, 0)) (by (with_reducible repeat (first | refine blk_drewN ?_ _ | refine blk_drew ?_ | refine blk_alloc ?_ _)); exact BK261.out) hb); have n2_ := Aside0.mk (below_step (by repeat (first | (with_reducible first | exact HB.out | apply below_alloc | apply pw_below_drewN | apply below_drew1 | refine below_set ?_ GE261.out) | exact HB.out)) hb); clear BK261; clear HB; have HO265 := n0_; have BK261 := n1_; have HB := n2_; clear n0_ n1_ n2_; (try clear hb); (try clear hb2); (try clear hk); (try clear hi); (try clear ho0); obtain ⟨Ao12, co12, eo12⟩ := Kd.N_slice HO265.out; subst eo12))
   go_ret
   exact ⟨by first | rfl | (simp [errW_none, errW_some] <;> rfl) | (simp [*, errW_none, errW_some] <;> rfl), by repeat (first | (with_reducible first | exact HB.out | apply below_alloc | apply pw_below_drewN | apply below_drew1 | refine below_set ?_ GE261.out) | exact HB.out)⟩
  ·
   rw [if_neg c6] at H
   have c6b0 : ((t263.length : Int) == 0) = false := beq_eq_false_iff_ne.mpr c6
   have c6b1 : ((t263.length : Int) != 0) = true := bne_iff_ne.mpr c6
   have c6b2 : ¬ (t263 = []) := fun h_ => c6 (by rw [h_]; rfl)
   obtain rfl := Option.some.inj H
   go_enter Try.func38, Try.ntmps38
   go_wp2_with (first | ((with_reducible refine gate_dst (N := 2) rfl ?_); refine box_event ?hg (N := 2) ?hd (cs := #[.slice A0_0 l0_0.length c0_0]) (t := 24) ?hr ?_; (case hd => rfl); (case hg => rfl); (case hr => first | (go_simp; done) | (go_simp; rfl)); intro gb261 hg w13 hbox hb; have n0_ := Aside0.mk (below_step (by repeat (first | (with_reducible first | exact HB.out | apply below_alloc | apply pw_below_drewN | apply below_drew1) | exact HB.out)) hb); have n1_ := Aside0.mk (hbox); have n2_ := Aside0.mk ((by rw [hg]; exact (below_size (by repeat (first | (with_reducible first | exact HB.out | apply below_alloc | apply pw_below_drewN | apply below_drew1) | exact HB.out))) : w.heap.size ≤ gb261)); have n3_ := Aside0.mk ((by rw [hg]; exact (below_size (by repeat (first | (with_reducible first | exact HB.out | apply below_alloc | apply pw_below_drewN | apply below_drew1) | exact HB.out))) : w.heap.size ≤ gb261)); clear HB; have HB := n0_; have BK261 := n1_; have GW261 := n2_; have GE261 := n3_; clear n0_ n1_ n2_ n3_; clear hb hbox hg; have hcz14_0 : w13.cell? ⟨gb261, 0, none⟩ = some (.slice A0_0 l0_0.length c0_0) := (blk_cell BK261.out 0).trans rfl; have hfz14_0 := blk_frozen BK261.out 0) | ((with_reducible refine gate_callee (f := 49) rfl ?_); refine goesL_ (some 8) rfl rfl Try.func49 (by kernel_rfl) rfl #[.agg #[.slice A0_0 l0_0.length c0_0], .slice A1 l1.length c1] rfl (by (try simp only [List.map_toArray, List.map_cons, List.map_nil]); first | done | rfl | (simp only [List.length_drop, List.length_take]; rfl)) ?_; (with_reducible refine (tensilelaw05_fault.calls k _ _ l0_0 _ _ l1 t262 _ ?side1 ?side2 ?side3 ?side4 A3.out).mono ?_); (case side1 => repeat (first | exact (Kd.C_below HR0_0.out HB.out) | (with_reducible refine Kd.C_alloc ?_ _) | (with_reducible refine Kd.C_drewN ?_ _) | (with_reducible refine Kd.C_drew ?_))); (case side2 => exact HC0_0.out); (case side3 => repeat (first | exact (Kd.C_below HR1.out HB.out) | (with_reducible refine Kd.C_alloc ?_ _) | (with_reducible refine Kd.C_drewN ?_ _) | (with_reducible refine Kd.C_drew ?_))); (case side4 => exact HC1.out); rintro e w15 ⟨rfl, hb⟩; refine ⟨_, rfl, ?_⟩; have n0_ := Aside0.mk (blk_below (g := gb261) (o := .cells #[.slice A0_0 l0_0.length c0_0] 24 (0, 0)) (by (with_reducible repeat (first | refine blk_drewN ?_ _ | refine blk_drew ?_ | refine blk_alloc ?_ _)); exact BK261.out) hb); have n1_ := Aside0.mk (below_step (by repeat (first | (with_reducible first | exact HB.out | apply below_alloc | apply pw_below_drewN | apply below_drew1 | refine below_set ?_ GE261.out) | exact HB.out)) hb); clear BK261; clear HB; have BK261 := n0_; have HB := n1_; clear n0_ n1_; (try clear hb); (try clear hb2); (try clear hk); (try clear hi); have hcz16_0 : w15.cell? ⟨gb261, 0, none⟩ = some (.slice A0_0 l0_0.length c0_0) := (blk_cell BK261.out 0).trans rfl; have hfz16_0 := blk_frozen BK261.out 0) | ((with_reducible refine gate_callee (f := 39) rfl ?_); refine goesL_ (some 14) rfl rfl Try.func39 (by kernel_rfl) rfl #[.agg #[.slice A0_0 l0_0.length c0_0], .slice A1 l1.length c1] rfl (by (try simp only [List.map_toArray, List.map_cons, List.map_nil]); first | done | rfl | (simp only [List.length_drop, List.length_take]; rfl)) ?_; (with_reducible refine (tensileref05_Allowed.calls k _ _ l0_0 _ _ l1 t263 _ ?side1 ?side2 ?side3 ?side4 A5.out).mono ?_); (case side1 => repeat (first | exact (Kd.C_below HR0_0.out HB.out) | (with_reducible refine Kd.C_alloc ?_ _) | (with_reducible refine Kd.C_drewN ?_ _) | (with_reducible refine Kd.C_drew ?_))); (case side2 => exact HC0_0.out); (case side3 => repeat (first | exact (Kd.C_below HR1.out HB.out) | (with_reducible refine Kd.C_alloc ?_ _) | (with_reducible refine Kd.C_drewN ?_ _) | (with_reducible refine Kd.C_drew ?_))); (case side4 => exact HC1.out); rintro e w17 ⟨v264, rfl, ho0, hb⟩; refine ⟨_, rfl, ?_⟩; have n0_ := Aside0.mk (Kd.N_lower (Kd.N_mono (ok' := fun k_ => k_ ≠ gb261) ho0 (fun k_ hk_ => (Kd.freshB (g := gb261) (o := .cells #[.slice A0_0 l0_0.length c0_0] 24 (0, 0)) (by (with_reducible repeat (first | refine blk_drewN ?_ _ | refine blk_drew ?_ | refine blk_alloc ?_ _)); exact BK261.out) k_ hk_))) (below_size (by repeat (first | (with_reducible first | exact HB.out | apply below_alloc | apply pw_below_drewN | apply below_drew1 | refine below_set ?_ GE261.out) | exact HB.out)))); have n1_ := Aside0.mk (blk_below (g := gb261) (o := .cells #[.slice A0_0 l0_0.length c0_0] 24 (0, 0)) (by (with_reducible repeat (first | refine blk_drewN ?_ _ | refine blk_drew ?_ | refine blk_alloc ?_ _)); exact BK261.out) hb); have n2_ := Aside0.mk (below_step (by repeat (first | (with_reducible first | exact HB.out | apply below_alloc | apply pw_below_drewN | apply below_drew1 | refine below_set ?_ GE261.out) | exact HB.out)) hb); clear BK261; clear HB; have HO265 := n0_; have BK261 := n1_; have HB := n2_; clear n0_ n1_ n2_; (try clear hb); (try clear hb2); (try clear hk); (try clear hi); (try clear ho0); obtain ⟨Ao18, co18, eo18⟩ := Kd.N_slice HO265.out; subst eo18))
   go_ret
   exact ⟨by first | rfl | (simp [errW_none, errW_some] <;> rfl) | (simp [*, errW_none, errW_some] <;> rfl), by repeat (first | (with_reducible first | exact HB.out | apply below_alloc | apply pw_below_drewN | apply below_drew1 | refine below_set ?_ GE261.out) | exact HB.out)⟩
 ·
  rw [if_neg c4] at H
  have c4b0 : (t262 == 0) = false := beq_eq_false_iff_ne.mpr c4
  have c4b1 : (t262 != 0) = true := bne_iff_ne.mpr c4
  obtain rfl := Option.some.inj H
  go_enter Try.func38, Try.ntmps38
  go_wp2_with (first | ((with_reducible refine gate_dst (N := 2) rfl ?_); refine box_event ?hg (N := 2) ?hd (cs := #[.slice A0_0 l0_0.length c0_0]) (t := 24) ?hr ?_; (case hd => rfl); (case hg => rfl); (case hr => first | (go_simp; done) | (go_simp; rfl)); intro gb261 hg w19 hbox hb; have n0_ := Aside0.mk (below_step (by repeat (first | (with_reducible first | exact HB.out | apply below_alloc | apply pw_below_drewN | apply below_drew1) | exact HB.out)) hb); have n1_ := Aside0.mk (hbox); have n2_ := Aside0.mk ((by rw [hg]; exact (below_size (by repeat (first | (with_reducible first | exact HB.out | apply below_alloc | apply pw_below_drewN | apply below_drew1) | exact HB.out))) : w.heap.size ≤ gb261)); have n3_ := Aside0.mk ((by rw [hg]; exact (below_size (by repeat (first | (with_reducible first | exact HB.out | apply below_alloc | apply pw_below_drewN | apply below_drew1) | exact HB.out))) : w.heap.size ≤ gb261)); clear HB; have HB := n0_; have BK261 := n1_; have GW261 := n2_; have GE261 := n3_; clear n0_ n1_ n2_ n3_; clear hb hbox hg; have hcz20_0 : w19.cell? ⟨gb261, 0, none⟩ = some (.slice A0_0 l0_0.length c0_0) := (blk_cell BK261.out 0).trans rfl; have hfz20_0 := blk_frozen BK261.out 0) | ((with_reducible refine gate_callee (f := 49) rfl ?_); refine goesL_ (some 8) rfl rfl Try.func49 (by kernel_rfl) rfl #[.agg #[.slice A0_0 l0_0.length c0_0], .slice A1 l1.length c1] rfl (by (try simp only [List.map_toArray, List.map_cons, List.map_nil]); first | done | rfl | (simp only [List.length_drop, List.length_take]; rfl)) ?_; (with_reducible refine (tensilelaw05_fault.calls k _ _ l0_0 _ _ l1 t262 _ ?side1 ?side2 ?side3 ?side4 A3.out).mono ?_); (case side1 => repeat (first | exact (Kd.C_below HR0_0.out HB.out) | (with_reducible refine Kd.C_alloc ?_ _) | (with_reducible refine Kd.C_drewN ?_ _) | (with_reducible refine Kd.C_drew ?_))); (case side2 => exact HC0_0.out); (case side3 => repeat (first | exact (Kd.C_below HR1.out HB.out) | (with_reducible refine Kd.C_alloc ?_ _) | (with_reducible refine Kd.C_drewN ?_ _) | (with_reducible refine Kd.C_drew ?_))); (case side4 => exact HC1.out); rintro e w21 ⟨rfl, hb⟩; refine ⟨_, rfl, ?_⟩; have n0_ := Aside0.mk (blk_below (g := gb261) (o := .cells #[.slice A0_0 l0_0.length c0_0] 24 (0, 0)) (by (with_reducible repeat (first | refine blk_drewN ?_ _ | refine blk_drew ?_ | refine blk_alloc ?_ _)); exact BK261.out) hb); have n1_ := Aside0.mk (below_step (by repeat (first | (with_reducible first | exact HB.out | apply below_alloc | apply pw_below_drewN | apply below_drew1 | refine below_set ?_ GE261.out) | exact HB.out)) hb); clear BK261; clear HB; have BK261 := n0_; have HB := n1_; clear n0_ n1_; (try clear hb); (try clear hb2); (try clear hk); (try clear hi)))
  go_ret
  exact ⟨by first | rfl | (simp [errW_none, errW_some] <;> rfl) | (simp [*, errW_none, errW_some] <;> rfl), by repeat (first | (with_reducible first | exact HB.out | apply below_alloc | apply pw_below_drewN | apply below_drew1 | refine below_set ?_ GE261.out) | exact HB.out)⟩

end Go.Proofs.Ytdagijgoegkphaa.P

namespace Go.Proofs.Ytdagijgoegkphaa.P
open Go.RowKit Go.Proofs.YtdagijgoegkphaaW.PrintWords Go.Proofs.YtdagijgoegkphaaW.PrintLast Go.Proofs.YtdagijgoegkphaaW.PrintMore
attribute [local go_sem] max2_int min2_int max_two min_two max_three min_three max_four min_four   -- for this text's walks alone

/-! ### tensileref05_Hours: function 30 -/
def tensileref05_Hours.f (a0 : Int) (a1 : Int) : Option (Int) := if a1 = 0 then (some 0) else (if a0 = 0 then (some (-1)) else (some (wrap64 (Int.tdiv (wrap64 ((wrap64 (a1 + a0)) - 1)) a0))))
set_option maxHeartbeats 8000000 in
set_option maxRecDepth 100000 in
theorem tensileref05_Hours.calls (a0 : Int) (a1 : Int) (r : Int) (w : World) (h : tensileref05_Hours.f a0 a1 = some r) :
  Calls Try.prog 30 #[.int .i64 a0, .int .i64 a1] w fun e w' => e = .returned (.int .i64 r) ∧ Drawn0 w w' := by
 have H : (if a1 = 0 then (some 0) else (if a0 = 0 then (some (-1)) else (some (wrap64 (Int.tdiv (wrap64 ((wrap64 (a1 + a0)) - 1)) a0))))) = some r := h
 clear h
 by_cases c3 : a1 = 0
 ·
  rw [if_pos c3] at H
  have c3b0 : (a1 == 0) = true := beq_iff_eq.mpr c3
  have c3b1 : (a1 != 0) = false := bne_eq_false_iff_eq.mpr c3
  clear c3
  obtain rfl := Option.some.inj H
  go_enter Try.func30, Try.ntmps30
  go_wp2
  go_ret
  exact ⟨by first | rfl | (simp; done) | (simp [*]; done), by repeat (first | exact Drawn0.refl _ | apply Drawn0.step)⟩
 ·
  rw [if_neg c3] at H
  have c3b0 : (a1 == 0) = false := beq_eq_false_iff_ne.mpr c3
  have c3b1 : (a1 != 0) = true := bne_iff_ne.mpr c3
  by_cases c4 : a0 = 0
  ·
   rw [if_pos c4] at H
   have c4b0 : (a0 == 0) = true := beq_iff_eq.mpr c4
   have c4b1 : (a0 != 0) = false := bne_eq_false_iff_eq.mpr c4
   clear c4
   obtain rfl := Option.some.inj H
   go_enter Try.func30, Try.ntmps30
   go_wp2
   go_ret
   exact ⟨by first | rfl | (simp; done) | (simp [*]; done), by repeat (first | exact Drawn0.refl _ | apply Drawn0.step)⟩
  ·
   rw [if_neg c4] at H
   have c4b0 : (a0 == 0) = false := beq_eq_false_iff_ne.mpr c4
   have c4b1 : (a0 != 0) = true := bne_iff_ne.mpr c4
   obtain rfl := Option.some.inj H
   go_enter Try.func30, Try.ntmps30
   go_wp2
   go_ret
   exact ⟨by first | rfl | (simp; done) | (simp [*]; done), by repeat (first | exact Drawn0.refl _ | apply Drawn0.step)⟩

end Go.Proofs.Ytdagijgoegkphaa.P

namespace Go.Proofs.Ytdagijgoegkphaa.P
open Go.RowKit Go.Proofs.YtdagijgoegkphaaW.PrintWords Go.Proofs.YtdagijgoegkphaaW.PrintLast Go.Proofs.YtdagijgoegkphaaW.PrintMore
attribute [local go_sem] max2_int min2_int max_two min_two max_three min_three max_four min_four   -- for this text's walks alone

/-! ### tensileref05_Life: function 42 -/
def tensileref05_Life.l0 : Nat → List (List Int) → Int → Int → Bool → Int → Int → Int → Option (Int × Int)
 | 0, _, _, _, _, _, _, _ => none
 | k + 1, x0, x1, x2, x8, x9, x268000, x268001 => if x9 < (x0.length : Int) then (if 0 ≤ x9 then (if 0 ≤ x1 then (if x1 < ((rd_L8 x0 x9).length : Int) then ((tensileref05_Hours.f (rd (rd_L8 x0 x9) x1) x2).bind fun t270 => (if t270 < 0 then (tensileref05_Life.l0 k x0 x1 x2 true (wrap64 (x9 + 1)) x268000 x268001) else (if x268000 < 0 then (tensileref05_Life.l0 k x0 x1 x2 x8 (wrap64 (x9 + 1)) t270 (mx x268001 t270)) else (if t270 < x268000 then (tensileref05_Life.l0 k x0 x1 x2 x8 (wrap64 (x9 + 1)) t270 (mx x268001 t270)) else (tensileref05_Life.l0 k x0 x1 x2 x8 (wrap64 (x9 + 1)) x268000 (mx x268001 t270)))))) else (none)) else (none)) else (none)) else (if x8 = true then (some (x268000, (-1))) else (some (x268000, x268001)))
def tensileref05_Life.f (k : Nat) (l0 : List (List Int)) (a1 : Int) (a2 : Int) : Option (Int × Int) := tensileref05_Life.l0 k l0 a1 a2 false 0 (-1) (-1)
set_option maxHeartbeats 8000000 in
set_option maxRecDepth 100000 in
theorem tensileref05_Life.calls (k : Nat) (A0 : Option Addr) (c0 : Nat) (l0 : List (List Int)) (a1 : Int) (a2 : Int) (r1 : Int) (r2 : Int) (w : World) (hr0 : Kd.C (Kd.slice 3 (Kd.int .i64)) w A0 l0.length l0) (hc0 : l0.length ≤ c0) (h : tensileref05_Life.f k l0 a1 a2 = some (r1, r2)) :
  Calls Try.prog 42 #[.slice A0 l0.length c0, .int .i64 a1, .int .i64 a2] w fun e w' => e = .returned (.agg #[.int .i64 r1, .int .i64 r2]) ∧ Below w.heap.size w w' := by
 have hu54 := Try.underlying54
 have HR0 := Aside0.mk hr0
 have HC0 := Aside0.mk hc0
 clear hr0 hc0
 have HB := Aside0.mk (Below.refl w.heap.size w)
 have H : (tensileref05_Life.l0 k l0 a1 a2 false 0 (-1) (-1)) = some (r1, r2) := h
 clear h
 have H' := Aside0.mk H
 clear H
 go_enter Try.func42, Try.ntmps42
 go_wp2_with (first | ((with_reducible refine gate_dst (N := 6) rfl ?_); refine box_event ?hg (N := 6) ?hd (cs := #[.int .i64 0, .int .i64 0]) (t := 54) ?hr ?_; (case hd => rfl); (case hg => rfl); (case hr => first | (go_simp; done) | (go_simp; rfl)); intro gb266 hg w4 hbox hb; have n0_ := Aside0.mk (below_step (by repeat (first | (with_reducible first | exact HB.out | apply below_alloc | apply pw_below_drewN | apply below_drew1) | exact HB.out)) hb); have n1_ := Aside0.mk (hbox); have n2_ := Aside0.mk ((by rw [hg]; exact (below_size (by repeat (first | (with_reducible first | exact HB.out | apply below_alloc | apply pw_below_drewN | apply below_drew1) | exact HB.out))) : w.heap.size ≤ gb266)); have n3_ := Aside0.mk ((by rw [hg]; exact (below_size (by repeat (first | (with_reducible first | exact HB.out | apply below_alloc | apply pw_below_drewN | apply below_drew1) | exact HB.out))) : w.heap.size ≤ gb266)); clear HB; have HB := n0_; have BK266 := n1_; have GW266 := n2_; have GE266 := n3_; clear n0_ n1_ n2_ n3_; clear hb hbox hg) | ((with_reducible refine gate_dst (N := 7) rfl ?_); refine box_event ?hg (N := 7) ?hd (cs := #[.int .i64 0, .int .i64 0]) (t := 54) ?hr ?_; (case hd => rfl); (case hg => rfl); (case hr => first | (go_simp; done) | (go_simp; rfl)); intro gb267 hg w5 hbox hb; have n0_ := Aside0.mk (blk_below (g := gb266) (o := .cells #[.int .i64 0, .int .i64 0] 54 (0, 0)) (by (with_reducible repeat (first | refine blk_drewN ?_ _ | refine blk_drew ?_ | refine blk_alloc ?_ _)); exact BK266.out) hb); have n1_ := Aside0.mk (below_step (by repeat (first | (with_reducible first | exact HB.out | apply below_alloc | apply pw_below_drewN | apply below_drew1 | refine below_set ?_ GE266.out) | exact HB.out)) hb); have n2_ := Aside0.mk (hbox); have n3_ := Aside0.mk ((by rw [hg]; exact (below_size (by repeat (first | (with_reducible first | exact HB.out | apply below_alloc | apply pw_below_drewN | apply below_drew1 | refine below_set ?_ GE266.out) | exact HB.out))) : w.heap.size ≤ gb267)); have n4_ := Aside0.mk ((by rw [hg]; exact (below_size (by repeat (first | (with_reducible first | exact HB.out | apply below_alloc | apply pw_below_drewN | apply below_drew1 | refine below_set ?_ GE266.out) | exact HB.out))) : w.heap.size ≤ gb267)); have n5_ := Aside0.mk ((by rw [hg]; exact Nat.ne_of_lt (blk_lt (g := gb266) (o := .cells #[.int .i64 0, .int .i64 0] 54 (0, 0)) (by (with_reducible repeat (first | refine blk_drewN ?_ _ | refine blk_drew ?_ | refine blk_alloc ?_ _)); exact BK266.out)) : gb266 ≠ gb267)); have n6_ := Aside0.mk ((by rw [hg]; exact Nat.ne_of_gt (blk_lt (g := gb266) (o := .cells #[.int .i64 0, .int .i64 0] 54 (0, 0)) (by (with_reducible repeat (first | refine blk_drewN ?_ _ | refine blk_drew ?_ | refine blk_alloc ?_ _)); exact BK266.out)) : gb267 ≠ gb266)); clear BK266; clear HB; have BK266 := n0_; have HB := n1_; have BK267 := n2_; have GW267 := n3_; have GE267 := n4_; have NB266_267 := n5_; have NB267_266 := n6_; clear n0_ n1_ n2_ n3_ n4_ n5_ n6_; clear hb hbox hg; have hnb6 := NB267_266.out; have hnc6 := NB266_267.out; have hcz7_0 : w5.cell? ⟨gb267, 0, none⟩ = some (.int .i64 0) := (blk_cell BK267.out 0).trans rfl; have hcz7_1 : w5.cell? ⟨gb267, 1, none⟩ = some (.int .i64 0) := (blk_cell BK267.out 1).trans rfl; have hfz7_0 := blk_frozen BK267.out 0; have hfz7_1 := blk_frozen BK267.out 1))
 go_loopg [8, 9] k (fun kq v8 v9 w' => ∃ (x8_1 : Bool) (x9_1 : Int) (x268000_1 : Int) (x268001_1 : Int), v8 = .bool x8_1 ∧ v9 = .int .i64 x9_1 ∧ Aside0 (tensileref05_Life.l0 kq l0 a1 a2 x8_1 x9_1 x268000_1 x268001_1 = some (r1, r2)) ∧ Aside0 (kq ≤ k) ∧ Aside0 (w'.heap[gb266]? = some (.cells #[.int .i64 0, .int .i64 0] 54 (0, 0))) ∧ Aside0 (w'.heap[gb267]? = some (.cells #[.int .i64 x268000_1, .int .i64 x268001_1] 54 (0, 0))) ∧ Aside0 (Below w.heap.size w w'))
 case atStart => exact ⟨(false), (0), ((-1)), ((-1)), (by first | rfl | (simp; done) | (simp [*]; done)), (by first | rfl | (simp; done) | (simp [*]; done)), H', ⟨Nat.le_refl _⟩, ⟨by (with_reducible repeat (first | refine blk_drewN ?_ _ | refine blk_drew ?_ | refine blk_alloc ?_ _)); refine blk_far ?_ NB266_267.out _; (with_reducible repeat (first | refine blk_drewN ?_ _ | refine blk_drew ?_ | refine blk_alloc ?_ _)); refine blk_far ?_ NB266_267.out _; (with_reducible repeat (first | refine blk_drewN ?_ _ | refine blk_drew ?_ | refine blk_alloc ?_ _)); exact BK266.out⟩, ⟨by (with_reducible repeat (first | refine blk_drewN ?_ _ | refine blk_drew ?_ | refine blk_alloc ?_ _)); refine blk_put (cs := #[.int .i64 (-1), .int .i64 0]) ?_ 1 _ rfl; (with_reducible repeat (first | refine blk_drewN ?_ _ | refine blk_drew ?_ | refine blk_alloc ?_ _)); refine blk_put (cs := #[.int .i64 0, .int .i64 0]) ?_ 0 _ rfl; (with_reducible repeat (first | refine blk_drewN ?_ _ | refine blk_drew ?_ | refine blk_alloc ?_ _)); exact BK267.out⟩, ⟨by repeat (first | (with_reducible first | exact HB.out | apply below_alloc | apply pw_below_drewN | apply below_drew1 | refine below_set ?_ GE266.out | refine below_set ?_ GE267.out) | exact HB.out)⟩⟩
 case round =>
  clear H'
  try clear p2
  try clear c4
  try clear c6
  try clear hcz7_0
  try clear hcz7_1
  try clear hfz7_0
  try clear hfz7_1
  obtain ⟨x8_1, x9_1, x268000_1, x268001_1, rfl, rfl, HA, HK1, BK266, BK267, HB⟩ := hrel
  cases gk with
  | zero => exact absurd HA.out (by simp [tensileref05_Life.l0])
  | succ k1 =>
   have H := HA.out
   clear HA
   simp only [tensileref05_Life.l0] at H
   by_cases c8 : x9_1 < (l0.length : Int)
   ·
    rw [if_pos c8] at H
    have c8b0 : decide (x9_1 < (l0.length : Int)) = true := decide_eq_true c8
    clear c8
    by_cases c9 : 0 ≤ x9_1
    ·
     rw [if_pos c9] at H
     have c9b0 : decide (0 ≤ x9_1) = true := decide_eq_true c9
     clear c9
     by_cases c10 : 0 ≤ a1
     ·
      rw [if_pos c10] at H
      have c10b0 : decide (0 ≤ a1) = true := decide_eq_true c10
      clear c10
      by_cases c11 : a1 < ((rd_L8 l0 x9_1).length : Int)
      ·
       rw [if_pos c11] at H
       have c11b0 : decide (a1 < ((rd_L8 l0 x9_1).length : Int)) = true := decide_eq_true c11
       clear c11
       replace H := Option.bind_eq_some_iff.mp H
       obtain ⟨t270, A120, H⟩ := H
       replace H : (if t270 < 0 then (tensileref05_Life.l0 k1 l0 a1 a2 true (wrap64 (x9_1 + 1)) x268000_1 x268001_1) else (if x268000_1 < 0 then (tensileref05_Life.l0 k1 l0 a1 a2 x8_1 (wrap64 (x9_1 + 1)) t270 (mx x268001_1 t270)) else (if t270 < x268000_1 then (tensileref05_Life.l0 k1 l0 a1 a2 x8_1 (wrap64 (x9_1 + 1)) t270 (mx x268001_1 t270)) else (tensileref05_Life.l0 k1 l0 a1 a2 x8_1 (wrap64 (x9_1 + 1)) x268000_1 (mx x268001_1 t270))))) = some (r1, r2) := H
       have A12 := Aside0.mk A120
       clear A120
       by_cases c13 : t270 < 0
       ·
        rw [if_pos c13] at H
        have c13b0 : decide (t270 < 0) = true := decide_eq_true c13
        clear c13
        have H' := Aside0.mk H
        clear H
        have p268 : 0 ≤ (x9_1 : Int) := of_decide_eq_true (by first | (with_reducible assumption) | assumption)
        have q268 : x9_1 < (l0.length : Int) := of_decide_eq_true (by first | (with_reducible assumption) | assumption)
        obtain ⟨ad268, A268_0, c268_0, e268, hx268_0, hl268_0, hi268_0⟩ := at_L8 HR0.out x9_1 p268 q268
        cases e268
        replace hx268_0 := (HB.out.cell (World.block_lt_of_cell? w _ hx268_0)).trans hx268_0
        have HR268_0 := Aside0.mk hi268_0
        have HC268_0 := Aside0.mk hl268_0
        clear hi268_0 hl268_0
        replace p268 := eq_true p268
        replace q268 := eq_true q268
        have p269 : 0 ≤ (a1 : Int) := of_decide_eq_true (by first | (with_reducible assumption) | assumption)
        have q269 : a1 < ((rd_L8 l0 x9_1).length : Int) := of_decide_eq_true (by first | (with_reducible assumption) | assumption)
        obtain ⟨ad269, e269, hx269_0⟩ := Kd.at_int HR268_0.out a1 p269 q269
        cases e269
        replace hx269_0 := (HB.out.cell (World.block_lt_of_cell? w _ hx269_0)).trans hx269_0
        replace p269 := eq_true p269
        replace q269 := eq_true q269
        go_wp2_with (first | ((with_reducible refine gate_callee (f := 30) rfl ?_); refine goesL_ (some 26) rfl rfl Try.func30 (by kernel_rfl) rfl #[.int .i64 (rd (rd_L8 l0 x9_1) a1), .int .i64 a2] rfl (by (try simp only [List.map_toArray, List.map_cons, List.map_nil]); first | done | rfl | (simp only [List.length_drop, List.length_take]; rfl)) ?_; (with_reducible refine (tensileref05_Hours.calls (rd (rd_L8 l0 x9_1) a1) a2 t270 _ A12.out).mono ?_); rintro e w' ⟨rfl, ⟨nd, rfl⟩⟩; refine ⟨_, rfl, ?_⟩))
        go_roundg k1
        case measure => have := HK1.out; omega
        case rel => exact ⟨(true), (wrap64 (x9_1 + 1)), (x268000_1), (x268001_1), (by first | rfl | (simp; done) | (simp [*]; done)), (by first | rfl | (simp; done) | (simp [*]; done)), H', ⟨by have := HK1.out; omega⟩, ⟨by (with_reducible repeat (first | refine blk_drewN ?_ _ | refine blk_drew ?_ | refine blk_alloc ?_ _)); exact BK266.out⟩, ⟨by (with_reducible repeat (first | refine blk_drewN ?_ _ | refine blk_drew ?_ | refine blk_alloc ?_ _)); exact BK267.out⟩, ⟨by repeat (first | (with_reducible first | exact HB.out | apply below_alloc | apply pw_below_drewN | apply below_drew1 | refine below_set ?_ GE266.out | refine below_set ?_ GE267.out) | exact HB.out)⟩⟩
       ·
        rw [if_neg c13] at H
        have c13b0 : decide (t270 < 0) = false := decide_eq_false c13
        clear c13
        by_cases c14 : x268000_1 < 0
        ·
         rw [if_pos c14] at H
         have c14b0 : decide (x268000_1 < 0) = true := decide_eq_true c14
         clear c14
         obtain ⟨ji15, hji15⟩ : ∃ j_ : Int, (mx x268001_1 t270) = j_ := ⟨_, rfl⟩
         replace H : (tensileref05_Life.l0 k1 l0 a1 a2 x8_1 (wrap64 (x9_1 + 1)) t270 ji15) = some (r1, r2) := by first | (rw [hji15] at H; exact H) | (simp only [hji15] at H ⊢; exact H)
         (try rw [hji15] at A12)
         have hji15_ : (if x268001_1 < t270 then t270 else x268001_1) = ji15 := hji15
         have H' := Aside0.mk H
         clear H
         have p268 : 0 ≤ (x9_1 : Int) := of_decide_eq_true (by first | (with_reducible assumption) | assumption)
         have q268 : x9_1 < (l0.length : Int) := of_decide_eq_true (by first | (with_reducible assumption) | assumption)
         obtain ⟨ad268, A268_0, c268_0, e268, hx268_0, hl268_0, hi268_0⟩ := at_L8 HR0.out x9_1 p268 q268
         cases e268
         replace hx268_0 := (HB.out.cell (World.block_lt_of_cell? w _ hx268_0)).trans hx268_0
         have HR268_0 := Aside0.mk hi268_0
         have HC268_0 := Aside0.mk hl268_0
         clear hi268_0 hl268_0
         replace p268 := eq_true p268
         replace q268 := eq_true q268
         have p269 : 0 ≤ (a1 : Int) := of_decide_eq_true (by first | (with_reducible assumption) | assumption)
         have q269 : a1 < ((rd_L8 l0 x9_1).length : Int) := of_decide_eq_true (by first | (with_reducible assumption) | assumption)
         obtain ⟨ad269, e269, hx269_0⟩ := Kd.at_int HR268_0.out a1 p269 q269
         cases e269
         replace hx269_0 := (HB.out.cell (World.block_lt_of_cell? w _ hx269_0)).trans hx269_0
         replace p269 := eq_true p269
         replace q269 := eq_true q269
         go_wp2_with (first | ((with_reducible refine gate_callee (f := 30) rfl ?_); refine goesL_ (some 26) rfl rfl Try.func30 (by kernel_rfl) rfl #[.int .i64 (rd (rd_L8 l0 x9_1) a1), .int .i64 a2] rfl (by (try simp only [List.map_toArray, List.map_cons, List.map_nil]); first | done | rfl | (simp only [List.length_drop, List.length_take]; rfl)) ?_; (with_reducible refine (tensileref05_Hours.calls (rd (rd_L8 l0 x9_1) a1) a2 t270 _ A12.out).mono ?_); rintro e w' ⟨rfl, ⟨nd, rfl⟩⟩; refine ⟨_, rfl, ?_⟩; (try (rw [drewN_self wr]; generalize hq_ : World.drewN wr _ = wr; have n0_ : Aside0 (wr.heap[gb266]? = some (.cells #[.int .i64 0, .int .i64 0] 54 (0, 0))) := ⟨by rw [← hq_]; exact (by (with_reducible repeat (first | refine blk_drewN ?_ _ | refine blk_drew ?_ | refine blk_alloc ?_ _)); exact BK266.out)⟩; have n1_ : Aside0 (wr.heap[gb267]? = some (.cells #[.int .i64 x268000_1, .int .i64 x268001_1] 54 (0, 0))) := ⟨by rw [← hq_]; exact (by (with_reducible repeat (first | refine blk_drewN ?_ _ | refine blk_drew ?_ | refine blk_alloc ?_ _)); exact BK267.out)⟩; have n2_ : Aside0 (Below w.heap.size w wr) := ⟨by rw [← hq_]; exact (by repeat (first | (with_reducible first | exact HB.out | apply below_alloc | apply pw_below_drewN | apply below_drew1 | refine below_set ?_ GE266.out | refine below_set ?_ GE267.out) | exact HB.out))⟩; clear BK266 BK267 HB hq_; have BK266 := n0_; have BK267 := n1_; have HB := n2_; clear n0_ n1_ n2_)); have hnb16 := NB267_266.out; have hnc16 := NB266_267.out; have hcz17_0 : wr.cell? ⟨gb267, 0, none⟩ = some (.int .i64 x268000_1) := (blk_cell BK267.out 0).trans rfl; have hcz17_1 : wr.cell? ⟨gb267, 1, none⟩ = some (.int .i64 x268001_1) := (blk_cell BK267.out 1).trans rfl; have hfz17_0 := blk_frozen BK267.out 0; have hfz17_1 := blk_frozen BK267.out 1))
         go_roundg k1
         case measure => have := HK1.out; omega
         case rel => exact ⟨(x8_1), (wrap64 (x9_1 + 1)), (t270), (ji15), (by first | rfl | (simp; done) | (simp [*]; done)), (by first | rfl | (simp; done) | (simp [*]; done)), H', ⟨by have := HK1.out; omega⟩, ⟨by (with_reducible repeat (first | refine blk_drewN ?_ _ | refine blk_drew ?_ | refine blk_alloc ?_ _)); refine blk_far ?_ NB266_267.out _; (with_reducible repeat (first | refine blk_drewN ?_ _ | refine blk_drew ?_ | refine blk_alloc ?_ _)); refine blk_far ?_ NB266_267.out _; (with_reducible repeat (first | refine blk_drewN ?_ _ | refine blk_drew ?_ | refine blk_alloc ?_ _)); exact BK266.out⟩, ⟨by (with_reducible repeat (first | refine blk_drewN ?_ _ | refine blk_drew ?_ | refine blk_alloc ?_ _)); refine blk_put (cs := #[.int .i64 t270, .int .i64 x268001_1]) ?_ 1 _ rfl; (with_reducible repeat (first | refine blk_drewN ?_ _ | refine blk_drew ?_ | refine blk_alloc ?_ _)); refine blk_put (cs := #[.int .i64 x268000_1, .int .i64 x268001_1]) ?_ 0 _ rfl; (with_reducible repeat (first | refine blk_drewN ?_ _ | refine blk_drew ?_ | refine blk_alloc ?_ _)); exact BK267.out⟩, ⟨by repeat (first | (with_reducible first | exact HB.out | apply below_alloc | apply pw_below_drewN | apply below_drew1 | refine below_set ?_ GE266.out | refine below_set ?_ GE267.out) | exact HB.out)⟩⟩
        ·
         rw [if_neg c14] at H
         have c14b0 : decide (x268000_1 < 0) = false := decide_eq_false c14
         clear c14
         by_cases c18 : t270 < x268000_1
         ·
          rw [if_pos c18] at H
          have c18b0 : decide (t270 < x268000_1) = true := decide_eq_true c18
          clear c18
          obtain ⟨ji19, hji19⟩ : ∃ j_ : Int, (mx x268001_1 t270) = j_ := ⟨_, rfl⟩
          replace H : (tensileref05_Life.l0 k1 l0 a1 a2 x8_1 (wrap64 (x9_1 + 1)) t270 ji19) = some (r1, r2) := by first | (rw [hji19] at H; exact H) | (simp only [hji19] at H ⊢; exact H)
          (try rw [hji19] at A12)
          have hji19_ : (if x268001_1 < t270 then t270 else x268001_1) = ji19 := hji19
          have H' := Aside0.mk H
          clear H
          have p268 : 0 ≤ (x9_1 : Int) := of_decide_eq_true (by first | (with_reducible assumption) | assumption)
          have q268 : x9_1 < (l0.length : Int) := of_decide_eq_true (by first | (with_reducible assumption) | assumption)
          obtain ⟨ad268, A268_0, c268_0, e268, hx268_0, hl268_0, hi268_0⟩ := at_L8 HR0.out x9_1 p268 q268
          cases e268
          replace hx268_0 := (HB.out.cell (World.block_lt_of_cell? w _ hx268_0)).trans hx268_0
          have HR268_0 := Aside0.mk hi268_0
          have HC268_0 := Aside0.mk hl268_0
          clear hi268_0 hl268_0
          replace p268 := eq_true p268
          replace q268 := eq_true q268
          have p269 : 0 ≤ (a1 : Int) := of_decide_eq_true (by first | (with_reducible assumption) | assumption)
          have q269 : a1 < ((rd_L8 l0 x9_1).length : Int) := of_decide_eq_true (by first | (with_reducible assumption) | assumption)
          obtain ⟨ad269, e269, hx269_0⟩ := Kd.at_int HR268_0.out a1 p269 q269
          cases e269
          replace hx269_0 := (HB.out.cell (World.block_lt_of_cell? w _ hx269_0)).trans hx269_0
          replace p269 := eq_true p269
          replace q269 := eq_true q269
          go_wp2_with (first | ((with_reducible refine gate_callee (f := 30) rfl ?_); refine goesL_ (some 26) rfl rfl Try.func30 (by kernel_rfl) rfl #[.int .i64 (rd (rd_L8 l0 x9_1) a1), .int .i64 a2] rfl (by (try simp only [List.map_toArray, List.map_cons, List.map_nil]); first | done | rfl | (simp only [List.length_drop, List.length_take]; rfl)) ?_; (with_reducible refine (tensileref05_Hours.calls (rd (rd_L8 l0 x9_1) a1) a2 t270 _ A12.out).mono ?_); rintro e w' ⟨rfl, ⟨nd, rfl⟩⟩; refine ⟨_, rfl, ?_⟩; (try (rw [drewN_self wr]; generalize hq_ : World.drewN wr _ = wr; have n0_ : Aside0 (wr.heap[gb266]? = some (.cells #[.int .i64 0, .int .i64 0] 54 (0, 0))) := ⟨by rw [← hq_]; exact (by (with_reducible repeat (first | refine blk_drewN ?_ _ | refine blk_drew ?_ | refine blk_alloc ?_ _)); exact BK266.out)⟩; have n1_ : Aside0 (wr.heap[gb267]? = some (.cells #[.int .i64 x268000_1, .int .i64 x268001_1] 54 (0, 0))) := ⟨by rw [← hq_]; exact (by (with_reducible repeat (first | refine blk_drewN ?_ _ | refine blk_drew ?_ | refine blk_alloc ?_ _)); exact BK267.out)⟩; have n2_ : Aside0 (Below w.heap.size w wr) := ⟨by rw [← hq_]; exact (by repeat (first | (with_reducible first | exact HB.out | apply below_alloc | apply pw_below_drewN | apply below_drew1 | refine below_set ?_ GE266.out | refine below_set ?_ GE267.out) | exact HB.out))⟩; clear BK266 BK267 HB hq_; have BK266 := n0_; have BK267 := n1_; have HB := n2_; clear n0_ n1_ n2_)); have hnb20 := NB267_266.out; have hnc20 := NB266_267.out; have hcz21_0 : wr.cell? ⟨gb267, 0, none⟩ = some (.int .i64 x268000_1) := (blk_cell BK267.out 0).trans rfl; have hcz21_1 : wr.cell? ⟨gb267, 1, none⟩ = some (.int .i64 x268001_1) := (blk_cell BK267.out 1).trans rfl; have hfz21_0 := blk_frozen BK267.out 0; have hfz21_1 := blk_frozen BK267.out 1))
          go_roundg k1
          case measure => have := HK1.out; omega
          case rel => exact ⟨(x8_1), (wrap64 (x9_1 + 1)), (t270), (ji19), (by first | rfl | (simp; done) | (simp [*]; done)), (by first | rfl | (simp; done) | (simp [*]; done)), H', ⟨by have := HK1.out; omega⟩, ⟨by (with_reducible repeat (first | refine blk_drewN ?_ _ | refine blk_drew ?_ | refine blk_alloc ?_ _)); refine blk_far ?_ NB266_267.out _; (with_reducible repeat (first | refine blk_drewN ?_ _ | refine blk_drew ?_ | refine blk_alloc ?_ _)); refine blk_far ?_ NB266_267.out _; (with_reducible repeat (first | refine blk_drewN ?_ _ | refine blk_drew ?_ | refine blk_alloc ?_ _)); exact BK266.out⟩, ⟨by (with_reducible repeat (first | refine blk_drewN ?_ _ | refine blk_drew ?_ | refine blk_alloc ?_ _)); refine blk_put (cs := #[.int .i64 t270, .int .i64 x268001_1]) ?_ 1 _ rfl; (with_reducible repeat (first | refine blk_drewN ?_ _ | refine blk_drew ?_ | refine blk_alloc ?_ _)); refine blk_put (cs := #[.int .i64 x268000_1, .int .i64 x268001_1]) ?_ 0 _ rfl; (with_reducible repeat (first | refine blk_drewN ?_ _ | refine blk_drew ?_ | refine blk_alloc ?_ _)); exact BK267.out⟩, ⟨by repeat (first | (with_reducible first | exact HB.out | apply below_alloc | apply pw_below_drewN | apply below_drew1 | refine below_set ?_ GE266.out | refine below_set ?_ GE267.out) | exact HB.out)⟩⟩
         ·
          rw [if_neg c18] at H
          have c18b0 : decide (t270 < x268000_1) = false := decide_eq_false c18
          clear c18
          obtain ⟨ji22, hji22⟩ : ∃ j_ : Int, (mx x268001_1 t270) = j_ := ⟨_, rfl⟩
          replace H : (tensileref05_Life.l0 k1 l0 a1 a2 x8_1 (wrap64 (x9_1 + 1)) x268000_1 ji22) = some (r1, r2) := by first | (rw [hji22] at H; exact H) | (simp only [hji22] at H ⊢; exact H)
          (try rw [hji22] at A12)
          have hji22_ : (if x268001_1 < t270 then t270 else x268001_1) = ji22 := hji22
          have H' := Aside0.mk H
          clear H
          have p268 : 0 ≤ (x9_1 : Int) := of_decide_eq_true (by first | (with_reducible assumption) | assumption)
          have q268 : x9_1 < (l0.length : Int) := of_decide_eq_true (by first | (with_reducible assumption) | assumption)
          obtain ⟨ad268, A268_0, c268_0, e268, hx268_0, hl268_0, hi268_0⟩ := at_L8 HR0.out x9_1 p268 q268
          cases e268
          replace hx268_0 := (HB.out.cell (World.block_lt_of_cell? w _ hx268_0)).trans hx268_0
          have HR268_0 := Aside0.mk hi268_0
          have HC268_0 := Aside0.mk hl268_0
          clear hi268_0 hl268_0
          replace p268 := eq_true p268
          replace q268 := eq_true q268
          have p269 : 0 ≤ (a1 : Int) := of_decide_eq_true (by first | (with_reducible assumption) | assumption)
          have q269 : a1 < ((rd_L8 l0 x9_1).length : Int) := of_decide_eq_true (by first | (with_reducible assumption) | assumption)
          obtain ⟨ad269, e269, hx269_0⟩ := Kd.at_int HR268_0.out a1 p269 q269
          cases e269
          replace hx269_0 := (HB.out.cell (World.block_lt_of_cell? w _ hx269_0)).trans hx269_0
          replace p269 := eq_true p269
          replace q269 := eq_true q269
          go_wp2_with (first | ((with_reducible refine gate_callee (f := 30) rfl ?_); refine goesL_ (some 26) rfl rfl Try.func30 (by kernel_rfl) rfl #[.int .i64 (rd (rd_L8 l0 x9_1) a1), .int .i64 a2] rfl (by (try simp only [List.map_toArray, List.map_cons, List.map_nil]); first | done | rfl | (simp only [List.length_drop, List.length_take]; rfl)) ?_; (with_reducible refine (tensileref05_Hours.calls (rd (rd_L8 l0 x9_1) a1) a2 t270 _ A12.out).mono ?_); rintro e w' ⟨rfl, ⟨nd, rfl⟩⟩; refine ⟨_, rfl, ?_⟩; (try (rw [drewN_self wr]; generalize hq_ : World.drewN wr _ = wr; have n0_ : Aside0 (wr.heap[gb266]? = some (.cells #[.int .i64 0, .int .i64 0] 54 (0, 0))) := ⟨by rw [← hq_]; exact (by (with_reducible repeat (first | refine blk_drewN ?_ _ | refine blk_drew ?_ | refine blk_alloc ?_ _)); exact BK266.out)⟩; have n1_ : Aside0 (wr.heap[gb267]? = some (.cells #[.int .i64 x268000_1, .int .i64 x268001_1] 54 (0, 0))) := ⟨by rw [← hq_]; exact (by (with_reducible repeat (first | refine blk_drewN ?_ _ | refine blk_drew ?_ | refine blk_alloc ?_ _)); exact BK267.out)⟩; have n2_ : Aside0 (Below w.heap.size w wr) := ⟨by rw [← hq_]; exact (by repeat (first | (with_reducible first | exact HB.out | apply below_alloc | apply pw_below_drewN | apply below_drew1 | refine below_set ?_ GE266.out | refine below_set ?_ GE267.out) | exact HB.out))⟩; clear BK266 BK267 HB hq_; have BK266 := n0_; have BK267 := n1_; have HB := n2_; clear n0_ n1_ n2_)); have hnb23 := NB267_266.out; have hnc23 := NB266_267.out; have hcz24_0 : wr.cell? ⟨gb267, 0, none⟩ = some (.int .i64 x268000_1) := (blk_cell BK267.out 0).trans rfl; have hcz24_1 : wr.cell? ⟨gb267, 1, none⟩ = some (.int .i64 x268001_1) := (blk_cell BK267.out 1).trans rfl; have hfz24_0 := blk_frozen BK267.out 0; have hfz24_1 := blk_frozen BK267.out 1))
          go_roundg k1
          case measure => have := HK1.out; omega
          case rel => exact ⟨(x8_1), (wrap64 (x9_1 + 1)), (x268000_1), (ji22), (by first | rfl | (simp; done) | (simp [*]; done)), (by first | rfl | (simp; done) | (simp [*]; done)), H', ⟨by have := HK1.out; omega⟩, ⟨by (with_reducible repeat (first | refine blk_drewN ?_ _ | refine blk_drew ?_ | refine blk_alloc ?_ _)); refine blk_far ?_ NB266_267.out _; (with_reducible repeat (first | refine blk_drewN ?_ _ | refine blk_drew ?_ | refine blk_alloc ?_ _)); exact BK266.out⟩, ⟨by (with_reducible repeat (first | refine blk_drewN ?_ _ | refine blk_drew ?_ | refine blk_alloc ?_ _)); refine blk_put (cs := #[.int .i64 x268000_1, .int .i64 x268001_1]) ?_ 1 _ rfl; (with_reducible repeat (first | refine blk_drewN ?_ _ | refine blk_drew ?_ | refine blk_alloc ?_ _)); exact BK267.out⟩, ⟨by repeat (first | (with_reducible first | exact HB.out | apply below_alloc | apply pw_below_drewN | apply below_drew1 | refine below_set ?_ GE266.out | refine below_set ?_ GE267.out) | exact HB.out)⟩⟩
      ·
       rw [if_neg c11] at H
       exact absurd H (by simp)
     ·
      rw [if_neg c10] at H
      exact absurd H (by simp)
    ·
     rw [if_neg c9] at H
     exact absurd H (by simp)
   ·
    rw [if_neg c8] at H
    have c8b0 : decide (x9_1 < (l0.length : Int)) = false := decide_eq_false c8
    clear c8
    by_cases c25 : x8_1 = true
    ·
     subst c25
     have H1 : (some (x268000_1, (-1))) = some (r1, r2) := by rw [if_pos rfl] at H; exact H
     clear H
     have H := H1
     clear H1
     simp only [Option.some.injEq, Prod.mk.injEq] at H
     obtain ⟨rfl, rfl⟩ := H
     have hnb26 := NB267_266.out
     have hnc26 := NB266_267.out
     have hcz27_0 : wr.cell? ⟨gb267, 0, none⟩ = some (.int .i64 x268000_1) := (blk_cell BK267.out 0).trans rfl
     have hcz27_1 : wr.cell? ⟨gb267, 1, none⟩ = some (.int .i64 x268001_1) := (blk_cell BK267.out 1).trans rfl
     have hfz27_0 := blk_frozen BK267.out 0
     have hfz27_1 := blk_frozen BK267.out 1
     have hcz28_0 : wr.cell? ⟨gb266, 0, none⟩ = some (.int .i64 0) := (blk_cell BK266.out 0).trans rfl
     have hcz28_1 : wr.cell? ⟨gb266, 1, none⟩ = some (.int .i64 0) := (blk_cell BK266.out 1).trans rfl
     have hfz28_0 := blk_frozen BK266.out 0
     have hfz28_1 := blk_frozen BK266.out 1
     go_wp2
     refine bodyPost_ret (results_cell_row rfl _ _ gb266 54 #[.int .i64 x268000_1, .int .i64 (-1)] (0, 0) _ rfl (by (with_reducible repeat (first | refine blk_drewN ?_ _ | refine blk_drew ?_ | refine blk_alloc ?_ _)); refine blk_put (cs := #[.int .i64 x268000_1, .int .i64 0]) ?_ 1 _ rfl; (with_reducible repeat (first | refine blk_drewN ?_ _ | refine blk_drew ?_ | refine blk_alloc ?_ _)); refine blk_put (cs := #[.int .i64 0, .int .i64 0]) ?_ 0 _ rfl; (with_reducible repeat (first | refine blk_drewN ?_ _ | refine blk_drew ?_ | refine blk_alloc ?_ _)); refine blk_far ?_ NB266_267.out _; (with_reducible repeat (first | refine blk_drewN ?_ _ | refine blk_drew ?_ | refine blk_alloc ?_ _)); exact BK266.out) Try.underlying54 rfl (by kernel_rfl)) rfl ?_
     exact ⟨by first | rfl | (simp [errW_none, errW_some] <;> rfl) | (simp [*, errW_none, errW_some] <;> rfl), by repeat (first | (with_reducible first | exact HB.out | apply below_alloc | apply pw_below_drewN | apply below_drew1 | refine below_set ?_ GE266.out | refine below_set ?_ GE267.out) | exact HB.out)⟩
    ·
     replace c25 := Bool.eq_false_iff.mpr c25
     subst c25
     have H1 : (some (x268000_1, x268001_1)) = some (r1, r2) := by rw [if_neg (show ¬ (false = true) by decide)] at H; exact H
     clear H
     have H := H1
     clear H1
     simp only [Option.some.injEq, Prod.mk.injEq] at H
     obtain ⟨rfl, rfl⟩ := H
     have hnb29 := NB267_266.out
     have hnc29 := NB266_267.out
     have hcz30_0 : wr.cell? ⟨gb267, 0, none⟩ = some (.int .i64 x268000_1) := (blk_cell BK267.out 0).trans rfl
     have hcz30_1 : wr.cell? ⟨gb267, 1, none⟩ = some (.int .i64 x268001_1) := (blk_cell BK267.out 1).trans rfl
     have hfz30_0 := blk_frozen BK267.out 0
     have hfz30_1 := blk_frozen BK267.out 1
     have hcz31_0 : wr.cell? ⟨gb266, 0, none⟩ = some (.int .i64 0) := (blk_cell BK266.out 0).trans rfl
     have hcz31_1 : wr.cell? ⟨gb266, 1, none⟩ = some (.int .i64 0) := (blk_cell BK266.out 1).trans rfl
     have hfz31_0 := blk_frozen BK266.out 0
     have hfz31_1 := blk_frozen BK266.out 1
     go_wp2
     refine bodyPost_ret (results_cell_row rfl _ _ gb266 54 #[.int .i64 x268000_1, .int .i64 x268001_1] (0, 0) _ rfl (by (with_reducible repeat (first | refine blk_drewN ?_ _ | refine blk_drew ?_ | refine blk_alloc ?_ _)); refine blk_put (cs := #[.int .i64 x268000_1, .int .i64 0]) ?_ 1 _ rfl; (with_reducible repeat (first | refine blk_drewN ?_ _ | refine blk_drew ?_ | refine blk_alloc ?_ _)); refine blk_put (cs := #[.int .i64 0, .int .i64 0]) ?_ 0 _ rfl; (with_reducible repeat (first | refine blk_drewN ?_ _ | refine blk_drew ?_ | refine blk_alloc ?_ _)); exact BK266.out) Try.underlying54 rfl (by kernel_rfl)) rfl ?_
     exact ⟨by first | rfl | (simp [errW_none, errW_some] <;> rfl) | (simp [*, errW_none, errW_some] <;> rfl), by repeat (first | (with_reducible first | exact HB.out | apply below_alloc | apply pw_below_drewN | apply below_drew1 | refine below_set ?_ GE266.out | refine below_set ?_ GE267.out) | exact HB.out)⟩

end Go.Proofs.Ytdagijgoegkphaa.P

namespace Go.Proofs.Ytdagijgoegkphaa.P
open Go.RowKit Go.Proofs.YtdagijgoegkphaaW.PrintWords Go.Proofs.YtdagijgoegkphaaW.PrintLast Go.Proofs.YtdagijgoegkphaaW.PrintMore
attribute [local go_sem] max2_int min2_int max_two min_two max_three min_three max_four min_four   -- for this text's walks alone

attribute [local go_sem high] eqA47
/-! ### tensilelaw05_CreepLives: function 6 -/
mutual
def tensilelaw05_CreepLives.j0 : Nat → List (S81) → Int → Int → Int → Int → Bool → List (S54) → Int → Int → Option (Bool)
 | 0, _, _, _, _, _, _, _, _, _ => none
 | k + 1, x1, x2, x3, x10, x11, x45, x272000, x284000, x284001 => if x45 = true then (tensilelaw05_CreepLives.j1 k x1 x2 x3 x10 2 x272000 x284000 x284001) else (tensilelaw05_CreepLives.j1 k x1 x2 x3 x10 x11 x272000 x284000 x284001)
def tensilelaw05_CreepLives.j1 : Nat → List (S81) → Int → Int → Int → Int → List (S54) → Int → Int → Option (Bool)
 | 0, _, _, _, _, _, _, _, _ => none
 | k + 1, x1, x2, x3, x10, x11, x272000, x284000, x284001 => if x11 = 0 then (if x10 = 0 then ((tensileref05_Allowed.f k x272000 x1).bind fun t288 => ((tensileref05_Life.f k t288 x2 x3).bind fun bt291 => ((tensilelaw05_to.f bt291.1 bt291.2).bind fun bt293 => (if (x284000 == bt293.1 && (x284001 == bt293.2)) = true then ((tensilelaw05_awake.f).bind fun t295 => (some t295)) else (none))))) else (none)) else (if x10 = x11 then (if (x284000 == 0 && (x284001 == 0)) = true then ((tensilelaw05_awake.f).bind fun t287 => (some t287)) else (none)) else (none))
end
def tensilelaw05_CreepLives.f (k : Nat) (l0_0 : List (S54)) (l1 : List (S81)) (a2 : Int) (a3 : Int) : Option (Bool) := (tensilelaw05_Thin.f k l0_0 l1 ([] : List (S56))).bind fun t272 => (if t272 = true then ((tensilelaw05_Material.f k l0_0).bind fun t274 => ((tensilelaw05_Runs.f k l1).bind fun t277 => ((creep_Life.f t274 t277 a2 a3).bind fun bt280 => ((tensilelaw05_asked.f k l0_0 l1).bind fun t284 => (if t284 = 0 then ((tensileref05_In.f a2 0 (wrap64 ((l0_0.length : Int) - 1))).bind fun t285 => (if t285 = true then ((tensileref05_In.f a3 0 10000000000).bind fun t286 => (tensilelaw05_CreepLives.j0 k l1 a2 a3 bt280.2.2 t284 (!t286) l0_0 bt280.1 bt280.2.1)) else (tensilelaw05_CreepLives.j0 k l1 a2 a3 bt280.2.2 t284 true l0_0 bt280.1 bt280.2.1))) else (tensilelaw05_CreepLives.j0 k l1 a2 a3 bt280.2.2 t284 false l0_0 bt280.1 bt280.2.1)))))) else ((tensilelaw05_awake.f).bind fun t273 => (some t273)))
def tensilelaw05_CreepLives.T9 : Bool × List (List Nat × List Nat) := (true, [([], []), ([0], [0]), ([1], [1]), ([2], [2]), ([2], [2]), ([2], [2]), ([4, 5, 2, 2], [2, 4, 5]), ([2], [2]), ([2], [2]), ([6, 7, 8, 6, 2], [2, 6, 7, 8]), ([9, 9, 2], [2, 9]), ([3, 10, 2], [2, 3, 10]), ([2, 11], [2, 11]), ([12, 10], [12]), ([13, 13], [13]), ([13, 14], [13, 14]), ([15, 14, 0, 1, 2, 3, 4, 5, 6, 7, 8, 9, 10, 11, 12, 13, 14, 15], [15])])
def tensilelaw05_CreepLives.B9 : List Nat := [0, 1, 3, 7, 7, 7, 55, 7, 7, 503, 1015, 2047, 4095, 8191, 16383, 32767, 65535]
theorem tensilelaw05_CreepLives.tab9 : rtab .any (opsOf Try.f6 9) = tensilelaw05_CreepLives.T9 := by kernel_rfl
theorem tensilelaw05_CreepLives.bits9 : waitsOk tensilelaw05_CreepLives.T9.2 tensilelaw05_CreepLives.B9 = true := by kernel_rfl
set_option maxHeartbeats 8000000 in
set_option maxRecDepth 100000 in
theorem tensilelaw05_CreepLives.calls (k : Nat) (A0_0 : Option Addr) (c0_0 : Nat) (l0_0 : List (S54)) (A1 : Option Addr) (c1 : Nat) (l1 : List (S81)) (a2 : Int) (a3 : Int) (r : Bool) (w : World) (hr0_0 : Kd.C k54 w A0_0 l0_0.length l0_0) (hc0_0 : l0_0.length ≤ c0_0) (hr1 : Kd.C k81 w A1 l1.length l1) (hc1 : l1.length ≤ c1) (h : tensilelaw05_CreepLives.f k l0_0 l1 a2 a3 = some r) :
  Calls Try.prog 6 #[.agg #[.slice A0_0 l0_0.length c0_0], .slice A1 l1.length c1, .int .i64 a2, .int .i64 a3] w fun e w' => e = .returned (.bool r) ∧ Below w.heap.size w w' := by
 have hu24 := Try.underlying24
 have hu47 := Try.underlying47
 have HR0_0 := Aside0.mk hr0_0
 have HC0_0 := Aside0.mk hc0_0
 clear hr0_0 hc0_0
 have HR1 := Aside0.mk hr1
 have HC1 := Aside0.mk hc1
 clear hr1 hc1
 have HB := Aside0.mk (Below.refl w.heap.size w)
 have H : ((tensilelaw05_Thin.f k l0_0 l1 ([] : List (S56))).bind fun t272 => (if t272 = true then ((tensilelaw05_Material.f k l0_0).bind fun t274 => ((tensilelaw05_Runs.f k l1).bind fun t277 => ((creep_Life.f t274 t277 a2 a3).bind fun bt280 => ((tensilelaw05_asked.f k l0_0 l1).bind fun t284 => (if t284 = 0 then ((tensileref05_In.f a2 0 (wrap64 ((l0_0.length : Int) - 1))).bind fun t285 => (if t285 = true then ((tensileref05_In.f a3 0 10000000000).bind fun t286 => (tensilelaw05_CreepLives.j0 k l1 a2 a3 bt280.2.2 t284 (!t286) l0_0 bt280.1 bt280.2.1)) else (tensilelaw05_CreepLives.j0 k l1 a2 a3 bt280.2.2 t284 true l0_0 bt280.1 bt280.2.1))) else (tensilelaw05_CreepLives.j0 k l1 a2 a3 bt280.2.2 t284 false l0_0 bt280.1 bt280.2.1)))))) else ((tensilelaw05_awake.f).bind fun t273 => (some t273)))) = some r := h
 clear h
 replace H := Option.bind_eq_some_iff.mp H
 obtain ⟨t272, A50, H⟩ := H
 replace H : (if t272 = true then ((tensilelaw05_Material.f k l0_0).bind fun t274 => ((tensilelaw05_Runs.f k l1).bind fun t277 => ((creep_Life.f t274 t277 a2 a3).bind fun bt280 => ((tensilelaw05_asked.f k l0_0 l1).bind fun t284 => (if t284 = 0 then ((tensileref05_In.f a2 0 (wrap64 ((l0_0.length : Int) - 1))).bind fun t285 => (if t285 = true then ((tensileref05_In.f a3 0 10000000000).bind fun t286 => (tensilelaw05_CreepLives.j0 k l1 a2 a3 bt280.2.2 t284 (!t286) l0_0 bt280.1 bt280.2.1)) else (tensilelaw05_CreepLives.j0 k l1 a2 a3 bt280.2.2 t284 true l0_0 bt280.1 bt280.2.1))) else (tensilelaw05_CreepLives.j0 k l1 a2 a3 bt280.2.2 t284 false l0_0 bt280.1 bt280.2.1)))))) else ((tensilelaw05_awake.f).bind fun t273 => (some t273))) = some r := H
 have A5 := Aside0.mk A50
 clear A50
 by_cases c6 : t272 = true
 ·
  subst c6
  have H1 : ((tensilelaw05_Material.f k l0_0).bind fun t274 => ((tensilelaw05_Runs.f k l1).bind fun t277 => ((creep_Life.f t274 t277 a2 a3).bind fun bt280 => ((tensilelaw05_asked.f k l0_0 l1).bind fun t284 => (if t284 = 0 then ((tensileref05_In.f a2 0 (wrap64 ((l0_0.length : Int) - 1))).bind fun t285 => (if t285 = true then ((tensileref05_In.f a3 0 10000000000).bind fun t286 => (tensilelaw05_CreepLives.j0 k l1 a2 a3 bt280.2.2 t284 (!t286) l0_0 bt280.1 bt280.2.1)) else (tensilelaw05_CreepLives.j0 k l1 a2 a3 bt280.2.2 t284 true l0_0 bt280.1 bt280.2.1))) else (tensilelaw05_CreepLives.j0 k l1 a2 a3 bt280.2.2 t284 false l0_0 bt280.1 bt280.2.1)))))) = some r := by rw [if_pos rfl] at H; exact H
  clear H
  have H := H1
  clear H1
  replace H := Option.bind_eq_some_iff.mp H
  obtain ⟨t274, A70, H⟩ := H
  replace H : ((tensilelaw05_Runs.f k l1).bind fun t277 => ((creep_Life.f t274 t277 a2 a3).bind fun bt280 => ((tensilelaw05_asked.f k l0_0 l1).bind fun t284 => (if t284 = 0 then ((tensileref05_In.f a2 0 (wrap64 ((l0_0.length : Int) - 1))).bind fun t285 => (if t285 = true then ((tensileref05_In.f a3 0 10000000000).bind fun t286 => (tensilelaw05_CreepLives.j0 k l1 a2 a3 bt280.2.2 t284 (!t286) l0_0 bt280.1 bt280.2.1)) else (tensilelaw05_CreepLives.j0 k l1 a2 a3 bt280.2.2 t284 true l0_0 bt280.1 bt280.2.1))) else (tensilelaw05_CreepLives.j0 k l1 a2 a3 bt280.2.2 t284 false l0_0 bt280.1 bt280.2.1))))) = some r := H
  have A7 := Aside0.mk A70
  clear A70
  replace H := Option.bind_eq_some_iff.mp H
  obtain ⟨t277, A80, H⟩ := H
  replace H : ((creep_Life.f t274 t277 a2 a3).bind fun bt280 => ((tensilelaw05_asked.f k l0_0 l1).bind fun t284 => (if t284 = 0 then ((tensileref05_In.f a2 0 (wrap64 ((l0_0.length : Int) - 1))).bind fun t285 => (if t285 = true then ((tensileref05_In.f a3 0 10000000000).bind fun t286 => (tensilelaw05_CreepLives.j0 k l1 a2 a3 bt280.2.2 t284 (!t286) l0_0 bt280.1 bt280.2.1)) else (tensilelaw05_CreepLives.j0 k l1 a2 a3 bt280.2.2 t284 true l0_0 bt280.1 bt280.2.1))) else (tensilelaw05_CreepLives.j0 k l1 a2 a3 bt280.2.2 t284 false l0_0 bt280.1 bt280.2.1)))) = some r := H
  have A8 := Aside0.mk A80
  clear A80
  replace H := Option.bind_eq_some_iff.mp H
  obtain ⟨⟨t280, t281, t282⟩, A90, H⟩ := H
  replace H : ((tensilelaw05_asked.f k l0_0 l1).bind fun t284 => (if t284 = 0 then ((tensileref05_In.f a2 0 (wrap64 ((l0_0.length : Int) - 1))).bind fun t285 => (if t285 = true then ((tensileref05_In.f a3 0 10000000000).bind fun t286 => (tensilelaw05_CreepLives.j0 k l1 a2 a3 t282 t284 (!t286) l0_0 t280 t281)) else (tensilelaw05_CreepLives.j0 k l1 a2 a3 t282 t284 true l0_0 t280 t281))) else (tensilelaw05_CreepLives.j0 k l1 a2 a3 t282 t284 false l0_0 t280 t281))) = some r := H
  have A9 := Aside0.mk A90
  clear A90
  replace H := Option.bind_eq_some_iff.mp H
  obtain ⟨t284, A100, H⟩ := H
  replace H : (if t284 = 0 then ((tensileref05_In.f a2 0 (wrap64 ((l0_0.length : Int) - 1))).bind fun t285 => (if t285 = true then ((tensileref05_In.f a3 0 10000000000).bind fun t286 => (tensilelaw05_CreepLives.j0 k l1 a2 a3 t282 t284 (!t286) l0_0 t280 t281)) else (tensilelaw05_CreepLives.j0 k l1 a2 a3 t282 t284 true l0_0 t280 t281))) else (tensilelaw05_CreepLives.j0 k l1 a2 a3 t282 t284 false l0_0 t280 t281)) = some r := H
  have A10 := Aside0.mk A100
  clear A100
  have HC11 := Aside0.mk H
  clear H
  go_enter Try.func6, Try.ntmps6
  go_upto_region 5 with (first | ((with_reducible refine gate_dst (N := 4) rfl ?_); (try (refine gate_guard (by rfl) ?_; dsimp only)); refine box_event ?hg (N := 4) ?hd (cs := #[.slice A0_0 l0_0.length c0_0]) (t := 24) ?hr ?_; (case hd => rfl); (case hg => rfl); (case hr => first | (go_simp; done) | (go_simp; rfl)); intro gb271 hg w12 hbox hb; have n0_ := Aside0.mk (below_step (by repeat (first | (with_reducible first | exact HB.out | apply below_alloc | apply pw_below_drewN | apply below_drew1) | exact HB.out)) hb); have n1_ := Aside0.mk (hbox); have n2_ := Aside0.mk ((by rw [hg]; exact (below_size (by repeat (first | (with_reducible first | exact HB.out | apply below_alloc | apply pw_below_drewN | apply below_drew1) | exact HB.out))) : w.heap.size ≤ gb271)); have n3_ := Aside0.mk ((by rw [hg]; exact (below_size (by repeat (first | (with_reducible first | exact HB.out | apply below_alloc | apply pw_below_drewN | apply below_drew1) | exact HB.out))) : w.heap.size ≤ gb271)); clear HB; have HB := n0_; have BK271 := n1_; have GW271 := n2_; have GE271 := n3_; clear n0_ n1_ n2_ n3_; clear hb hbox hg; have hcz13_0 : w12.cell? ⟨gb271, 0, none⟩ = some (.slice A0_0 l0_0.length c0_0) := (blk_cell BK271.out 0).trans rfl; have hfz13_0 := blk_frozen BK271.out 0) | ((with_reducible refine gate_callee (f := 37) rfl ?_); refine goesL_ (some 14) rfl rfl Try.func37 (by kernel_rfl) rfl #[.agg #[.slice A0_0 l0_0.length c0_0], .slice A1 l1.length c1, .slice none 0 0] rfl (by (try simp only [List.map_toArray, List.map_cons, List.map_nil]); first | done | rfl | (simp only [List.length_drop, List.length_take]; rfl)) ?_; (refine (tensilelaw05_Thin.calls k _ _ l0_0 _ _ l1 _ _ ([] : List (S56)) true _ ?side1 ?side2 ?side3 ?side4 ?side5 ?side6 A5.out).mono ?_); (case side1 => repeat (first | exact (Kd.C_below HR0_0.out HB.out) | (with_reducible refine Kd.C_alloc ?_ _) | (with_reducible refine Kd.C_drewN ?_ _) | (with_reducible refine Kd.C_drew ?_))); (case side2 => exact HC0_0.out); (case side3 => repeat (first | exact (Kd.C_below HR1.out HB.out) | (with_reducible refine Kd.C_alloc ?_ _) | (with_reducible refine Kd.C_drewN ?_ _) | (with_reducible refine Kd.C_drew ?_))); (case side4 => exact HC1.out); (case side5 => exact Kd.C_nil _ _); (case side6 => exact Nat.le_refl _); rintro e w14 ⟨rfl, hb⟩; refine ⟨_, rfl, ?_⟩; have n0_ := Aside0.mk (blk_below (g := gb271) (o := .cells #[.slice A0_0 l0_0.length c0_0] 24 (0, 0)) (by (with_reducible repeat (first | refine blk_drewN ?_ _ | refine blk_drew ?_ | refine blk_alloc ?_ _)); exact BK271.out) hb); have n1_ := Aside0.mk (below_step (by repeat (first | (with_reducible first | exact HB.out | apply below_alloc | apply pw_below_drewN | apply below_drew1 | refine below_set ?_ GE271.out) | exact HB.out)) hb); clear BK271; clear HB; have BK271 := n0_; have HB := n1_; clear n0_ n1_; (try clear hb); (try clear hb2); (try clear hk); (try clear hi); have hcz15_0 : w14.cell? ⟨gb271, 0, none⟩ = some (.slice A0_0 l0_0.length c0_0) := (blk_cell BK271.out 0).trans rfl; have hfz15_0 := blk_frozen BK271.out 0) | ((with_reducible refine gate_callee (f := 21) rfl ?_); refine goesL_ (some 19) rfl rfl Try.func21 (by kernel_rfl) rfl #[.agg #[.slice A0_0 l0_0.length c0_0]] rfl (by (try simp only [List.map_toArray, List.map_cons, List.map_nil]); first | done | rfl | (simp only [List.length_drop, List.length_take]; rfl)) ?_; (with_reducible refine (tensilelaw05_Material.calls k _ _ l0_0 t274 _ ?side1 ?side2 A7.out).mono ?_); (case side1 => repeat (first | exact (Kd.C_below HR0_0.out HB.out) | (with_reducible refine Kd.C_alloc ?_ _) | (with_reducible refine Kd.C_drewN ?_ _) | (with_reducible refine Kd.C_drew ?_))); (case side2 => exact HC0_0.out); rintro e w16 ⟨v275, rfl, ho0, hb⟩; refine ⟨_, rfl, ?_⟩; have n0_ := Aside0.mk (Kd.R_lower ho0 (below_size (by repeat (first | (with_reducible first | exact HB.out | apply below_alloc | apply pw_below_drewN | apply below_drew1 | refine below_set ?_ GE271.out) | exact HB.out)))); have n1_ := Aside0.mk (blk_below (g := gb271) (o := .cells #[.slice A0_0 l0_0.length c0_0] 24 (0, 0)) (by (with_reducible repeat (first | refine blk_drewN ?_ _ | refine blk_drew ?_ | refine blk_alloc ?_ _)); exact BK271.out) hb); have n2_ := Aside0.mk (below_step (by repeat (first | (with_reducible first | exact HB.out | apply below_alloc | apply pw_below_drewN | apply below_drew1 | refine below_set ?_ GE271.out) | exact HB.out)) hb); clear BK271; clear HB; have HO276 := n0_; have BK271 := n1_; have HB := n2_; clear n0_ n1_ n2_; (try clear hb); (try clear hb2); (try clear hk); (try clear hi); (try clear ho0)) | ((with_reducible refine gate_callee (f := 22) rfl ?_); refine goesL_ (some 21) rfl rfl Try.func22 (by kernel_rfl) rfl #[.slice A1 l1.length c1] rfl (by (try simp only [List.map_toArray, List.map_cons, List.map_nil]); first | done | rfl | (simp only [List.length_drop, List.length_take]; rfl)) ?_; (with_reducible refine (tensilelaw05_Runs.calls k _ _ l1 t277 _ ?side1 ?side2 A8.out).mono ?_); (case side1 => repeat (first | exact (Kd.C_below HR1.out HB.out) | (with_reducible refine Kd.C_alloc ?_ _) | (with_reducible refine Kd.C_drewN ?_ _) | (with_reducible refine Kd.C_drew ?_))); (case side2 => exact HC1.out); rintro e w17 ⟨v278, rfl, ho0, hb⟩; refine ⟨_, rfl, ?_⟩; have n0_ := Aside0.mk (Kd.R_below (by (with_reducible repeat (first | apply Kd.R_alloc | apply Kd.R_drewN | apply Kd.R_drew)); exact HO276.out) hb); have n1_ := Aside0.mk (Kd.N_lower (Kd.N_mono (ok' := fun k_ => some k_ ≠ (v275 : Value).ownBlock ∧ k_ ≠ gb271) (Kd.S_N (Kd.S_bound ho0)) (fun k_ hk_ => ⟨(Kd.fresh' (Kd.R_lt (by (with_reducible repeat (first | apply Kd.R_alloc | apply Kd.R_drewN | apply Kd.R_drew)); exact HO276.out)) k_ hk_.2.1), (Kd.freshB (g := gb271) (o := .cells #[.slice A0_0 l0_0.length c0_0] 24 (0, 0)) (by (with_reducible repeat (first | refine blk_drewN ?_ _ | refine blk_drew ?_ | refine blk_alloc ?_ _)); exact BK271.out) k_ hk_.2.1)⟩)) (below_size (by repeat (first | (with_reducible first | exact HB.out | apply below_alloc | apply pw_below_drewN | apply below_drew1 | refine below_set ?_ GE271.out) | exact HB.out)))); have n2_ := Aside0.mk (blk_below (g := gb271) (o := .cells #[.slice A0_0 l0_0.length c0_0] 24 (0, 0)) (by (with_reducible repeat (first | refine blk_drewN ?_ _ | refine blk_drew ?_ | refine blk_alloc ?_ _)); exact BK271.out) hb); have n3_ := Aside0.mk (below_step (by repeat (first | (with_reducible first | exact HB.out | apply below_alloc | apply pw_below_drewN | apply below_drew1 | refine below_set ?_ GE271.out) | exact HB.out)) hb); clear HO276; clear BK271; clear HB; have HO276 := n0_; have HO279 := n1_; have BK271 := n2_; have HB := n3_; clear n0_ n1_ n2_ n3_; (try clear hb); (try clear hb2); (try clear hk); (try clear hi); (try clear ho0); obtain ⟨Ao18, co18, eo18⟩ := Kd.R_slice HO276.out; subst eo18; obtain ⟨Ao19, co19, eo19⟩ := Kd.N_slice HO279.out; subst eo19) | ((with_reducible refine gate_callee (f := 29) rfl ?_); refine goesL_ (some 24) rfl rfl Try.func29 (by kernel_rfl) rfl #[.agg #[.slice Ao18 t274.length co18], .slice Ao19 t277.length co19, .int .i64 a2, .int .i64 a3] rfl (by (try simp only [List.map_toArray, List.map_cons, List.map_nil]); first | done | rfl | (simp only [List.length_drop, List.length_take]; rfl)) ?_; (with_reducible refine (creep_Life.calls _ _ t274 _ _ t277 a2 a3 t280 t281 t282 _ ?side1 ?side2 ?side3 ?side4 A9.out).mono ?_); (case side1 => repeat (first | exact (Kd.R_reads' HO276.out).2.2 | (with_reducible refine Kd.C_alloc ?_ _) | (with_reducible refine Kd.C_drewN ?_ _) | (with_reducible refine Kd.C_drew ?_))); (case side2 => exact (Kd.R_reads' HO276.out).2.1); (case side3 => repeat (first | exact (Kd.N_reads' HO279.out).2.2 | (with_reducible refine Kd.C_alloc ?_ _) | (with_reducible refine Kd.C_drewN ?_ _) | (with_reducible refine Kd.C_drew ?_))); (case side4 => exact (Kd.N_reads' HO279.out).2.1); rintro e w20 ⟨rfl, hb⟩; refine ⟨_, rfl, ?_⟩; have n0_ := Aside0.mk (Kd.R_below (by (with_reducible repeat (first | apply Kd.R_alloc | apply Kd.R_drewN | apply Kd.R_drew)); exact HO276.out) hb); have n1_ := Aside0.mk (Kd.N_below (by (with_reducible repeat (first | apply Kd.N_alloc | apply Kd.N_drewN | apply Kd.N_drew)); exact HO279.out) hb); have n2_ := Aside0.mk (blk_below (g := gb271) (o := .cells #[.slice A0_0 l0_0.length c0_0] 24 (0, 0)) (by (with_reducible repeat (first | refine blk_drewN ?_ _ | refine blk_drew ?_ | refine blk_alloc ?_ _)); exact BK271.out) hb); have n3_ := Aside0.mk (below_step (by repeat (first | (with_reducible first | exact HB.out | apply below_alloc | apply pw_below_drewN | apply below_drew1 | refine below_set ?_ GE271.out) | exact HB.out)) hb); clear HO276; clear HO279; clear BK271; clear HB; have HO276 := n0_; have HO279 := n1_; have BK271 := n2_; have HB := n3_; clear n0_ n1_ n2_ n3_; (try clear hb); (try clear hb2); (try clear hk); (try clear hi)) | ((with_reducible refine gate_dst (N := 9) rfl ?_); (try (refine gate_guard (by rfl) ?_; dsimp only)); refine box_event ?hg (N := 9) ?hd (cs := #[.int .i64 0, .int .i64 0]) (t := 47) ?hr ?_; (case hd => rfl); (case hg => rfl); (case hr => first | (go_simp; done) | (go_simp; rfl)); intro gb283 hg w21 hbox hb; have n0_ := Aside0.mk (Kd.R_below (Kd.R_elderB (by (with_reducible repeat (first | apply Kd.R_alloc | apply Kd.R_drewN | apply Kd.R_drew)); exact HO276.out) gb283 (Nat.le_of_eq hg.symm)) hb); have n1_ := Aside0.mk (Kd.N_below (Kd.N_elderB (by (with_reducible repeat (first | apply Kd.N_alloc | apply Kd.N_drewN | apply Kd.N_drew)); exact HO279.out) gb283 (Nat.le_of_eq hg.symm)) hb); have n2_ := Aside0.mk (blk_below (g := gb271) (o := .cells #[.slice A0_0 l0_0.length c0_0] 24 (0, 0)) (by (with_reducible repeat (first | refine blk_drewN ?_ _ | refine blk_drew ?_ | refine blk_alloc ?_ _)); exact BK271.out) hb); have n3_ := Aside0.mk (below_step (by repeat (first | (with_reducible first | exact HB.out | apply below_alloc | apply pw_below_drewN | apply below_drew1 | refine below_set ?_ GE271.out) | exact HB.out)) hb); have n4_ := Aside0.mk (hbox); have n5_ := Aside0.mk ((by rw [hg]; exact (below_size (by repeat (first | (with_reducible first | exact HB.out | apply below_alloc | apply pw_below_drewN | apply below_drew1 | refine below_set ?_ GE271.out) | exact HB.out))) : w.heap.size ≤ gb283)); have n6_ := Aside0.mk ((by rw [hg]; exact (below_size (by repeat (first | (with_reducible first | exact HB.out | apply below_alloc | apply pw_below_drewN | apply below_drew1 | refine below_set ?_ GE271.out) | exact HB.out))) : w.heap.size ≤ gb283)); have n7_ := Aside0.mk ((by rw [hg]; exact Nat.ne_of_lt (blk_lt (g := gb271) (o := .cells #[.slice A0_0 l0_0.length c0_0] 24 (0, 0)) (by (with_reducible repeat (first | refine blk_drewN ?_ _ | refine blk_drew ?_ | refine blk_alloc ?_ _)); exact BK271.out)) : gb271 ≠ gb283)); have n8_ := Aside0.mk ((by rw [hg]; exact Nat.ne_of_gt (blk_lt (g := gb271) (o := .cells #[.slice A0_0 l0_0.length c0_0] 24 (0, 0)) (by (with_reducible repeat (first | refine blk_drewN ?_ _ | refine blk_drew ?_ | refine blk_alloc ?_ _)); exact BK271.out)) : gb283 ≠ gb271)); clear HO276; clear HO279; clear BK271; clear HB; have HO276 := n0_; have HO279 := n1_; have BK271 := n2_; have HB := n3_; have BK283 := n4_; have GW283 := n5_; have GE283 := n6_; have NB271_283 := n7_; have NB283_271 := n8_; clear n0_ n1_ n2_ n3_ n4_ n5_ n6_ n7_ n8_; clear hb hbox hg; have hnb22 := NB283_271.out; have hnc22 := NB271_283.out; have hcz23_0 : w21.cell? ⟨gb283, 0, none⟩ = some (.int .i64 0) := (blk_cell BK283.out 0).trans rfl; have hcz23_1 : w21.cell? ⟨gb283, 1, none⟩ = some (.int .i64 0) := (blk_cell BK283.out 1).trans rfl; have hfz23_0 := blk_frozen BK283.out 0; have hfz23_1 := blk_frozen BK283.out 1; have hcz24_0 : w21.cell? ⟨gb271, 0, none⟩ = some (.slice A0_0 l0_0.length c0_0) := (blk_cell BK271.out 0).trans rfl; have hfz24_0 := blk_frozen BK271.out 0) | ((with_reducible refine gate_callee (f := 38) rfl ?_); refine goesL_ (some 29) rfl rfl Try.func38 (by kernel_rfl) rfl #[.agg #[.slice A0_0 l0_0.length c0_0], .slice A1 l1.length c1] rfl (by (try simp only [List.map_toArray, List.map_cons, List.map_nil]); first | done | rfl | (simp only [List.length_drop, List.length_take]; rfl)) ?_; (with_reducible refine (tensilelaw05_asked.calls k _ _ l0_0 _ _ l1 t284 _ ?side1 ?side2 ?side3 ?side4 A10.out).mono ?_); (case side1 => exact Kd.C_below HR0_0.out (by repeat (first | (with_reducible first | exact HB.out | apply below_alloc | apply pw_below_drewN | apply below_drew1 | refine below_set ?_ GE271.out | refine below_set ?_ GE283.out) | exact HB.out))); (case side2 => exact HC0_0.out); (case side3 => exact Kd.C_below HR1.out (by repeat (first | (with_reducible first | exact HB.out | apply below_alloc | apply pw_below_drewN | apply below_drew1 | refine below_set ?_ GE271.out | refine below_set ?_ GE283.out) | exact HB.out))); (case side4 => exact HC1.out); rintro e w25 ⟨rfl, hb⟩; refine ⟨_, rfl, ?_⟩; have n0_ := Aside0.mk (Kd.R_below (by (with_reducible repeat (first | apply Kd.R_alloc | apply Kd.R_drewN | apply Kd.R_drew)); exact (Kd.R_mono (Kd.R_far (p := ⟨gb283, 1, none⟩) (Kd.R_far (p := ⟨gb283, 0, none⟩) (Kd.R_mono HO276.out (fun k_ hk => (⟨hk, hk.2⟩ : _ ∧ k_ ≠ gb283))) (fun _ hk => hk.2) (.int .i64 t280)) (fun _ hk => hk.2) (.int .i64 t281)) (fun _ h_ => h_.1))) hb); have n1_ := Aside0.mk (Kd.N_below (by (with_reducible repeat (first | apply Kd.N_alloc | apply Kd.N_drewN | apply Kd.N_drew)); exact (Kd.N_mono (Kd.N_far (p := ⟨gb283, 1, none⟩) (Kd.N_far (p := ⟨gb283, 0, none⟩) (Kd.N_mono HO279.out (fun k_ hk => (⟨hk, hk.2⟩ : _ ∧ k_ ≠ gb283))) (fun _ hk => hk.2) (.int .i64 t280)) (fun _ hk => hk.2) (.int .i64 t281)) (fun _ h_ => h_.1))) hb); have n2_ := Aside0.mk (blk_below (g := gb271) (o := .cells #[.slice A0_0 l0_0.length c0_0] 24 (0, 0)) (by (with_reducible repeat (first | refine blk_drewN ?_ _ | refine blk_drew ?_ | refine blk_alloc ?_ _)); refine blk_far ?_ NB271_283.out _; (with_reducible repeat (first | refine blk_drewN ?_ _ | refine blk_drew ?_ | refine blk_alloc ?_ _)); refine blk_far ?_ NB271_283.out _; (with_reducible repeat (first | refine blk_drewN ?_ _ | refine blk_drew ?_ | refine blk_alloc ?_ _)); exact BK271.out) hb); have n3_ := Aside0.mk (blk_below (g := gb283) (o := .cells #[.int .i64 t280, .int .i64 t281] 47 (0, 0)) (by (with_reducible repeat (first | refine blk_drewN ?_ _ | refine blk_drew ?_ | refine blk_alloc ?_ _)); refine blk_put (cs := #[.int .i64 t280, .int .i64 0]) ?_ 1 _ rfl; (with_reducible repeat (first | refine blk_drewN ?_ _ | refine blk_drew ?_ | refine blk_alloc ?_ _)); refine blk_put (cs := #[.int .i64 0, .int .i64 0]) ?_ 0 _ rfl; (with_reducible repeat (first | refine blk_drewN ?_ _ | refine blk_drew ?_ | refine blk_alloc ?_ _)); exact BK283.out) hb); have n4_ := Aside0.mk (below_step (by repeat (first | (with_reducible first | exact HB.out | apply below_alloc | apply pw_below_drewN | apply below_drew1 | refine below_set ?_ GE271.out | refine below_set ?_ GE283.out) | exact HB.out)) hb); clear HO276; clear HO279; clear BK271; clear BK283; clear HB; have HO276 := n0_; have HO279 := n1_; have BK271 := n2_; have BK283 := n3_; have HB := n4_; clear n0_ n1_ n2_ n3_ n4_; (try clear hb); (try clear hb2); (try clear hk); (try clear hi)))
  (try simp only [Act.put, List.setIfInBounds_toArray, List.set_cons_zero, List.set_cons_succ])
  go_cut [45] (fun v45 wc => ∃ (kq : Nat) (x45_10 : Bool), v45 = .bool x45_10 ∧ Aside0 (tensilelaw05_CreepLives.j0 kq l1 a2 a3 t282 t284 x45_10 l0_0 t280 t281 = some r) ∧ Aside0 (kq ≤ k) ∧ Aside0 (wc.heap[gb271]? = some (.cells #[(.slice A0_0 l0_0.length c0_0)] 24 (0, 0))) ∧ Aside0 (wc.heap[gb283]? = some (.cells #[.int .i64 t280, .int .i64 t281] 47 (0, 0))) ∧ Aside0 (Below w.heap.size w wc))
  case first =>
   have H := HC11.out
   clear HC11
   by_cases c26 : t284 = 0
   ·
    rw [if_pos c26] at H
    have c26b0 : (t284 == 0) = true := beq_iff_eq.mpr c26
    have c26b1 : (t284 != 0) = false := bne_eq_false_iff_eq.mpr c26
    clear c26
    (first | rw [c26b0] | (simp only [i64_w, i32_w]; rw [c26b0]) | skip)
    replace H := Option.bind_eq_some_iff.mp H
    obtain ⟨t285, A270, H⟩ := H
    replace H : (if t285 = true then ((tensileref05_In.f a3 0 10000000000).bind fun t286 => (tensilelaw05_CreepLives.j0 k l1 a2 a3 t282 t284 (!t286) l0_0 t280 t281)) else (tensilelaw05_CreepLives.j0 k l1 a2 a3 t282 t284 true l0_0 t280 t281)) = some r := H
    have A27 := Aside0.mk A270
    clear A270
    by_cases c28 : t285 = true
    ·
     subst c28
     have H1 : ((tensileref05_In.f a3 0 10000000000).bind fun t286 => (tensilelaw05_CreepLives.j0 k l1 a2 a3 t282 t284 (!t286) l0_0 t280 t281)) = some r := by rw [if_pos rfl] at H; exact H
     clear H
     have H := H1
     clear H1
     replace H := Option.bind_eq_some_iff.mp H
     obtain ⟨t286, A290, H⟩ := H
     replace H : (tensilelaw05_CreepLives.j0 k l1 a2 a3 t282 t284 (!t286) l0_0 t280 t281) = some r := H
     have A29 := Aside0.mk A290
     clear A290
     have H' := Aside0.mk H
     clear H
     have hnb30 := NB271_283.out
     have hnc30 := NB283_271.out
     have hcz31_0 : w25.cell? ⟨gb271, 0, none⟩ = some (.slice A0_0 l0_0.length c0_0) := (blk_cell BK271.out 0).trans rfl
     have hfz31_0 := blk_frozen BK271.out 0
     go_wp2_with (first | (go_at_call 40; (with_reducible refine (tensileref05_In.calls a2 0 (wrap64 ((l0_0.length : Int) - 1)) true _ A27.out).mono ?_); rintro e w' ⟨rfl, ⟨nd, rfl⟩⟩) | (go_at_call 40; (with_reducible refine (tensileref05_In.calls a3 0 10000000000 t286 _ A29.out).mono ?_); rintro e w' ⟨rfl, ⟨nd, rfl⟩⟩))
     go_meet
     case rel => exact ⟨_, (!t286), (by first | rfl | (simp; done) | (simp [*]; done)), H', ⟨by first | omega | exact Nat.le_refl _⟩, ⟨by (with_reducible repeat (first | refine blk_drewN ?_ _ | refine blk_drew ?_ | refine blk_alloc ?_ _)); exact BK271.out⟩, ⟨by (with_reducible repeat (first | refine blk_drewN ?_ _ | refine blk_drew ?_ | refine blk_alloc ?_ _)); exact BK283.out⟩, ⟨by repeat (first | (with_reducible first | exact HB.out | apply below_alloc | apply pw_below_drewN | apply below_drew1 | refine below_set ?_ GE271.out | refine below_set ?_ GE283.out) | exact HB.out)⟩⟩
    ·
     replace c28 := Bool.eq_false_iff.mpr c28
     subst c28
     have H1 : (tensilelaw05_CreepLives.j0 k l1 a2 a3 t282 t284 true l0_0 t280 t281) = some r := by rw [if_neg (show ¬ (false = true) by decide)] at H; exact H
     clear H
     have H := H1
     clear H1
     have H' := Aside0.mk H
     clear H
     have hnb32 := NB271_283.out
     have hnc32 := NB283_271.out
     have hcz33_0 : w25.cell? ⟨gb271, 0, none⟩ = some (.slice A0_0 l0_0.length c0_0) := (blk_cell BK271.out 0).trans rfl
     have hfz33_0 := blk_frozen BK271.out 0
     go_wp2_with (first | (go_at_call 40; (with_reducible refine (tensileref05_In.calls a2 0 (wrap64 ((l0_0.length : Int) - 1)) false _ A27.out).mono ?_); rintro e w' ⟨rfl, ⟨nd, rfl⟩⟩))
     go_meet
     case rel => exact ⟨_, (true), (by first | rfl | (simp; done) | (simp [*]; done)), H', ⟨by first | omega | exact Nat.le_refl _⟩, ⟨by (with_reducible repeat (first | refine blk_drewN ?_ _ | refine blk_drew ?_ | refine blk_alloc ?_ _)); exact BK271.out⟩, ⟨by (with_reducible repeat (first | refine blk_drewN ?_ _ | refine blk_drew ?_ | refine blk_alloc ?_ _)); exact BK283.out⟩, ⟨by repeat (first | (with_reducible first | exact HB.out | apply below_alloc | apply pw_below_drewN | apply below_drew1 | refine below_set ?_ GE271.out | refine below_set ?_ GE283.out) | exact HB.out)⟩⟩
   ·
    rw [if_neg c26] at H
    have c26b0 : (t284 == 0) = false := beq_eq_false_iff_ne.mpr c26
    have c26b1 : (t284 != 0) = true := bne_iff_ne.mpr c26
    (first | rw [c26b0] | (simp only [i64_w, i32_w]; rw [c26b0]) | skip)
    have H' := Aside0.mk H
    clear H
    go_wp2
    go_meet
    case rel => exact ⟨_, (false), (by first | rfl | (simp; done) | (simp [*]; done)), H', ⟨by first | omega | exact Nat.le_refl _⟩, ⟨by (with_reducible repeat (first | refine blk_drewN ?_ _ | refine blk_drew ?_ | refine blk_alloc ?_ _)); exact BK271.out⟩, ⟨by (with_reducible repeat (first | refine blk_drewN ?_ _ | refine blk_drew ?_ | refine blk_alloc ?_ _)); exact BK283.out⟩, ⟨by repeat (first | (with_reducible first | exact HB.out | apply below_alloc | apply pw_below_drewN | apply below_drew1 | refine below_set ?_ GE271.out | refine below_set ?_ GE283.out) | exact HB.out)⟩⟩
  case rest =>
   clear HC11
   try clear c1
   try clear c2
   try clear p2
   try clear c3
   try clear c6
   try clear p6
   try clear c21
   try clear c22
   try clear c26
   try clear c26b0
   try clear c26b1
   try clear c28
   try clear c29
   try clear c30
   try clear c32
   try clear hcz13_0
   try clear hcz15_0
   try clear hcz23_0
   try clear hcz23_1
   try clear hcz24_0
   try clear hcz31_0
   try clear hcz33_0
   try clear hfz13_0
   try clear hfz15_0
   try clear hfz23_0
   try clear hfz23_1
   try clear hfz24_0
   try clear hfz31_0
   try clear hfz33_0
   obtain ⟨kq, x45_10, rfl, HA, HJ10, BK271, BK283, HB⟩ := hcut
   cases kq with
   | zero => exact absurd HA.out (by simp [tensilelaw05_CreepLives.j0])
   | succ kj10 =>
    have H := HA.out
    clear HA
    simp only [tensilelaw05_CreepLives.j0] at H
    have HC34 := Aside0.mk H
    clear H
    go_upto_if 45 with (fail)
    go_cut [11] (fun v11 wc => ∃ (kq : Nat) (x11_33 : Int), v11 = .int .i64 x11_33 ∧ Aside0 (tensilelaw05_CreepLives.j1 kq l1 a2 a3 t282 x11_33 l0_0 t280 t281 = some r) ∧ Aside0 (kq ≤ kj10) ∧ Aside0 (wc.heap[gb271]? = some (.cells #[(.slice A0_0 l0_0.length c0_0)] 24 (0, 0))) ∧ Aside0 (wc.heap[gb283]? = some (.cells #[.int .i64 t280, .int .i64 t281] 47 (0, 0))) ∧ Aside0 (Below w.heap.size w wc))
    case first =>
     have H := HC34.out
     clear HC34
     by_cases c35 : x45_10 = true
     ·
      subst c35
      have H1 : (tensilelaw05_CreepLives.j1 kj10 l1 a2 a3 t282 2 l0_0 t280 t281) = some r := by rw [if_pos rfl] at H; exact H
      clear H
      have H := H1
      clear H1
      have H' := Aside0.mk H
      clear H
      go_wp2
      go_meet
      case rel => exact ⟨_, (2), (by first | rfl | (simp; done) | (simp [*]; done)), H', ⟨by have := HJ10.out; first | omega | exact Nat.le_refl _⟩, ⟨by (with_reducible repeat (first | refine blk_drewN ?_ _ | refine blk_drew ?_ | refine blk_alloc ?_ _)); exact BK271.out⟩, ⟨by (with_reducible repeat (first | refine blk_drewN ?_ _ | refine blk_drew ?_ | refine blk_alloc ?_ _)); exact BK283.out⟩, ⟨by repeat (first | (with_reducible first | exact HB.out | apply below_alloc | apply pw_below_drewN | apply below_drew1 | refine below_set ?_ GE271.out | refine below_set ?_ GE283.out) | exact HB.out)⟩⟩
     ·
      replace c35 := Bool.eq_false_iff.mpr c35
      subst c35
      have H1 : (tensilelaw05_CreepLives.j1 kj10 l1 a2 a3 t282 t284 l0_0 t280 t281) = some r := by rw [if_neg (show ¬ (false = true) by decide)] at H; exact H
      clear H
      have H := H1
      clear H1
      have H' := Aside0.mk H
      clear H
      go_wp2
      go_meet
      case rel => exact ⟨_, (t284), (by first | rfl | (simp; done) | (simp [*]; done)), H', ⟨by have := HJ10.out; first | omega | exact Nat.le_refl _⟩, ⟨by (with_reducible repeat (first | refine blk_drewN ?_ _ | refine blk_drew ?_ | refine blk_alloc ?_ _)); exact BK271.out⟩, ⟨by (with_reducible repeat (first | refine blk_drewN ?_ _ | refine blk_drew ?_ | refine blk_alloc ?_ _)); exact BK283.out⟩, ⟨by repeat (first | (with_reducible first | exact HB.out | apply below_alloc | apply pw_below_drewN | apply below_drew1 | refine below_set ?_ GE271.out | refine below_set ?_ GE283.out) | exact HB.out)⟩⟩
    case rest =>
     clear HC34
     try clear c1
     try clear c2
     try clear p2
     try clear c3
     try clear c6
     try clear p6
     try clear c21
     try clear c22
     try clear c26
     try clear c26b0
     try clear c26b1
     try clear c28
     try clear c29
     try clear c30
     try clear c32
     try clear c35
     try clear hcz13_0
     try clear hcz15_0
     try clear hcz23_0
     try clear hcz23_1
     try clear hcz24_0
     try clear hcz31_0
     try clear hcz33_0
     try clear hfz13_0
     try clear hfz15_0
     try clear hfz23_0
     try clear hfz23_1
     try clear hfz24_0
     try clear hfz31_0
     try clear hfz33_0
     try clear p2
     try clear p6
     obtain ⟨kq, x11_33, rfl, HA, HJ33, BK271, BK283, HB⟩ := hcut
     cases kq with
     | zero => exact absurd HA.out (by simp [tensilelaw05_CreepLives.j1])
     | succ kj33 =>
      have H := HA.out
      clear HA
      simp only [tensilelaw05_CreepLives.j1] at H
      by_cases c36 : x11_33 = 0
      ·
       rw [if_pos c36] at H
       have c36b0 : (x11_33 == 0) = true := beq_iff_eq.mpr c36
       have c36b1 : (x11_33 != 0) = false := bne_eq_false_iff_eq.mpr c36
       clear c36
       by_cases c37 : t282 = 0
       ·
        rw [if_pos c37] at H
        have c37b0 : (t282 == 0) = true := beq_iff_eq.mpr c37
        have c37b1 : (t282 != 0) = false := bne_eq_false_iff_eq.mpr c37
        clear c37
        replace H := Option.bind_eq_some_iff.mp H
        obtain ⟨t288, A380, H⟩ := H
        replace H : ((tensileref05_Life.f kj33 t288 a2 a3).bind fun bt291 => ((tensilelaw05_to.f bt291.1 bt291.2).bind fun bt293 => (if (t280 == bt293.1 && (t281 == bt293.2)) = true then ((tensilelaw05_awake.f).bind fun t295 => (some t295)) else (none)))) = some r := H
        have A38 := Aside0.mk A380
        clear A380
        replace H := Option.bind_eq_some_iff.mp H
        obtain ⟨⟨t291, t292⟩, A390, H⟩ := H
        replace H : ((tensilelaw05_to.f t291 t292).bind fun bt293 => (if (t280 == bt293.1 && (t281 == bt293.2)) = true then ((tensilelaw05_awake.f).bind fun t295 => (some t295)) else (none))) = some r := H
        have A39 := Aside0.mk A390
        clear A390
        replace H := Option.bind_eq_some_iff.mp H
        obtain ⟨⟨t293, t294⟩, A400, H⟩ := H
        replace H : (if (t280 == t293 && (t281 == t294)) = true then ((tensilelaw05_awake.f).bind fun t295 => (some t295)) else (none)) = some r := H
        have A40 := Aside0.mk A400
        clear A400
        by_cases c41 : (t280 == t293 && (t281 == t294)) = true
        ·
         rw [if_pos c41] at H
         have c41b0 : (t280 == t293 && (t281 == t294)) = true := c41
         (try (have c41b1 : decide (t280 = t293 && (t281 == t294)) = true := by simpa using c41))
         (try (have c41b2 : (t280 == t293 && (t281 == t294)) = true := by simpa using c41))
         clear c41
         replace H := Option.bind_eq_some_iff.mp H
         obtain ⟨t295, A420, H⟩ := H
         replace H : (some t295) = some r := H
         have A42 := Aside0.mk A420
         clear A420
         obtain rfl := Option.some.inj H
         try go_wp2
         have n0_ := Aside0.mk (blk_drew BK271.out)
         have n1_ := Aside0.mk (blk_drew BK283.out)
         have n2_ := Aside0.mk (below_drew1 HB.out)
         clear BK271
         clear BK283
         clear HB
         have BK271 := n0_
         have BK283 := n1_
         have HB := n2_
         clear n0_ n1_ n2_
         refine start_ (n := 17) (S := fun w' => w'.cell? ⟨gb283, 0, none⟩ = some (.int .i64 t280) ∧ w'.cell? ⟨gb283, 1, none⟩ = some (.int .i64 t281) ∧ w'.cell? ⟨gb271, 0, none⟩ = some (.slice A0_0 l0_0.length c0_0)) (ds := []) #[false, false, false, false, false, false, false, false, false, false, false, false, false, false, false, false, false] (by kernel_rfl) rfl rfl ⟨(blk_cell BK283.out 0).trans rfl, (blk_cell BK283.out 1).trans rfl, (blk_cell BK271.out 0).trans rfl⟩ (fun hHeld => ?_); refine with_tabW tensilelaw05_CreepLives.tab9 tensilelaw05_CreepLives.bits9 (fun HT_ HW_ => ?_)
         generalize wc.drew = w43 at BK271 BK283 HB hHeld ⊢
         refine pure_ (i := 0) (N := some 59) (v := ?_) (a' := ?_) #[true, false, false, false, false, false, false, false, false, false, false, false, false, false, false, false, false] rfl rfl (any_of HT_.out (by kernel_rfl)) (fun _ _ _ h => h) (Or.inl ⟨by rfl, ?_⟩) ?_ ?_
         rotate_left
         ·
          intro w'
          go_simp
          with_reducible rfl
         rotate_left
         ·
          simp only [Act.put, List.setIfInBounds_toArray, List.set_cons_zero, List.set_cons_succ, i64_w, i32_w]
          rfl
         refine pure_ (i := 1) (N := some 60) (v := ?_) (a' := ?_) #[true, true, false, false, false, false, false, false, false, false, false, false, false, false, false, false, false] rfl rfl (any_of HT_.out (by kernel_rfl)) (fun _ _ _ h => h) (Or.inl ⟨by rfl, ?_⟩) ?_ ?_
         rotate_left
         ·
          intro w'
          go_simp
          with_reducible rfl
         rotate_left
         ·
          simp only [Act.put, List.setIfInBounds_toArray, List.set_cons_zero, List.set_cons_succ, i64_w, i32_w]
          rfl
         refine pure_ (i := 2) (N := some 61) (v := ?_) (a' := ?_) #[true, true, true, false, false, false, false, false, false, false, false, false, false, false, false, false, false] rfl rfl (any_of HT_.out (by kernel_rfl)) (fun _ _ _ h => h) (Or.inl ⟨by rfl, ?_⟩) ?_ ?_
         rotate_left
         ·
          intro w'
          go_simp
          with_reducible rfl
         rotate_left
         ·
          simp only [Act.put, List.setIfInBounds_toArray, List.set_cons_zero, List.set_cons_succ, i64_w, i32_w]
          rfl
         refine pure_ (i := 5) (N := some 64) (v := ?_) (a' := ?_) #[true, true, true, false, false, true, false, false, false, false, false, false, false, false, false, false, false] rfl rfl (any_of HT_.out (by kernel_rfl)) (fun _ _ _ h => h) (Or.inl ⟨by rfl, ?_⟩) ?_ ?_
         rotate_left
         ·
          intro w'
          go_simp
          with_reducible rfl
         rotate_left
         ·
          simp only [Act.put, List.setIfInBounds_toArray, List.set_cons_zero, List.set_cons_succ, i64_w, i32_w]
          rfl
         refine pure_ (i := 7) (N := some 66) (v := ?_) (a' := ?_) #[true, true, true, false, false, true, false, true, false, false, false, false, false, false, false, false, false] rfl rfl (any_of HT_.out (by kernel_rfl)) (fun _ _ _ h => h) (Or.inl ⟨by rfl, ?_⟩) ?_ ?_
         rotate_left
         ·
          intro w'
          go_simp
          with_reducible rfl
         rotate_left
         ·
          simp only [Act.put, List.setIfInBounds_toArray, List.set_cons_zero, List.set_cons_succ, i64_w, i32_w]
          rfl
         refine pure_ (i := 8) (N := some 67) (v := ?_) (a' := ?_) #[true, true, true, false, false, true, false, true, true, false, false, false, false, false, false, false, false] rfl rfl (any_of HT_.out (by kernel_rfl)) (fun _ _ _ h => h) (Or.inl ⟨by rfl, ?_⟩) ?_ ?_
         rotate_left
         ·
          intro w'
          go_simp
          with_reducible rfl
         rotate_left
         ·
          simp only [Act.put, List.setIfInBounds_toArray, List.set_cons_zero, List.set_cons_succ, i64_w, i32_w]
          rfl
         refine take_ (i := 3) (N := some 62) (v := ?_) (a' := ?_) #[true, true, true, true, false, true, false, true, true, false, false, false, false, false, false, false, false] rfl rfl (take_ofW HT_.out HW_.out (by kernel_rfl)) (fun _ _ _ h => h) (Or.inl ⟨by rfl, ?_⟩) hHeld ?_ ?_
         rotate_left
         ·
          rintro w' ⟨s0, s1, s2⟩
          go_simp
          with_reducible rfl
         rotate_left
         ·
          simp only [Act.put, List.setIfInBounds_toArray, List.set_cons_zero, List.set_cons_succ, i64_w, i32_w]
          rfl
         refine take_ (i := 4) (N := some 63) (v := ?_) (a' := ?_) #[true, true, true, true, true, true, false, true, true, false, false, false, false, false, false, false, false] rfl rfl (take_ofW HT_.out HW_.out (by kernel_rfl)) (fun _ _ _ h => h) (Or.inl ⟨by rfl, ?_⟩) hHeld ?_ ?_
         rotate_left
         ·
          rintro w' ⟨s0, s1, s2⟩
          go_simp
          with_reducible rfl
         rotate_left
         ·
          simp only [Act.put, List.setIfInBounds_toArray, List.set_cons_zero, List.set_cons_succ, i64_w, i32_w]
          rfl
         refine one_ (i := 6) (N := some 65) #[true, true, true, true, true, true, true, true, true, false, false, false, false, false, false, false, false] rfl rfl (one_of HT_.out (by kernel_rfl)) (by decide) (fun K hK => ?_)
         refine goes_ Try.func39 (by kernel_rfl) rfl #[.agg #[.slice A0_0 l0_0.length c0_0], .slice A1 l1.length c1] (by rfl) rfl rfl (by (try simp only [List.map_toArray, List.map_cons, List.map_nil]); first | done | rfl | (simp only [List.length_drop, List.length_take]; rfl)) ?_
         with_reducible refine (tensileref05_Allowed.calls kj33 _ _ l0_0 _ _ l1 t288 _ ?side1 ?side2 ?side3 ?side4 A38.out).mono ?_
         (case side1 => repeat (first | exact (Kd.C_below HR0_0.out HB.out) | (with_reducible refine Kd.C_alloc ?_ _) | (with_reducible refine Kd.C_drewN ?_ _) | (with_reducible refine Kd.C_drew ?_)))
         (case side2 => exact HC0_0.out)
         (case side3 => repeat (first | exact (Kd.C_below HR1.out HB.out) | (with_reducible refine Kd.C_alloc ?_ _) | (with_reducible refine Kd.C_drewN ?_ _) | (with_reducible refine Kd.C_drew ?_)))
         (case side4 => exact HC1.out)
         rintro e w44 ⟨v289, rfl, ho0, hb⟩
         refine ⟨_, rfl, ?_⟩
         have n0_ := Aside0.mk (Kd.N_lower (Kd.N_mono (ok' := fun k_ => k_ ≠ gb271 ∧ k_ ≠ gb283) ho0 (fun k_ hk_ => ⟨(Kd.freshB (g := gb271) (o := .cells #[.slice A0_0 l0_0.length c0_0] 24 (0, 0)) (by (with_reducible repeat (first | refine blk_drewN ?_ _ | refine blk_drew ?_ | refine blk_alloc ?_ _)); exact BK271.out) k_ hk_), (Kd.freshB (g := gb283) (o := .cells #[.int .i64 t280, .int .i64 t281] 47 (0, 0)) (by (with_reducible repeat (first | refine blk_drewN ?_ _ | refine blk_drew ?_ | refine blk_alloc ?_ _)); exact BK283.out) k_ hk_)⟩)) (below_size (by repeat (first | (with_reducible first | exact HB.out | apply below_alloc | apply pw_below_drewN | apply below_drew1 | refine below_set ?_ GE271.out | refine below_set ?_ GE283.out) | exact HB.out))))
         have n1_ := Aside0.mk (blk_below (g := gb271) (o := .cells #[.slice A0_0 l0_0.length c0_0] 24 (0, 0)) (by (with_reducible repeat (first | refine blk_drewN ?_ _ | refine blk_drew ?_ | refine blk_alloc ?_ _)); exact BK271.out) hb)
         have n2_ := Aside0.mk (blk_below (g := gb283) (o := .cells #[.int .i64 t280, .int .i64 t281] 47 (0, 0)) (by (with_reducible repeat (first | refine blk_drewN ?_ _ | refine blk_drew ?_ | refine blk_alloc ?_ _)); exact BK283.out) hb)
         have n3_ := Aside0.mk (below_step (by repeat (first | (with_reducible first | exact HB.out | apply below_alloc | apply pw_below_drewN | apply below_drew1 | refine below_set ?_ GE271.out | refine below_set ?_ GE283.out) | exact HB.out)) hb)
         clear BK271
         clear BK283
         clear HB
         have HO290 := n0_
         have BK271 := n1_
         have BK283 := n2_
         have HB := n3_
         clear n0_ n1_ n2_ n3_
         (try clear hb)
         (try clear hb2)
         (try clear hk)
         (try clear hi)
         (try clear ho0)
         obtain ⟨Ao45, co45, eo45⟩ := Kd.N_slice HO290.out
         (first | subst eo45 | (injection eo45 with f1_ f2_ f3_; have f4_ := f1_.symm; have f5_ := f3_.symm; clear f1_ f2_ f3_; subst f4_; subst f5_))
         refine hK.out _ _ ⟨(blk_cell BK283.out 0).trans rfl, (blk_cell BK283.out 1).trans rfl, (blk_cell BK271.out 0).trans rfl⟩ (fun hHeld => ?_)
         clear hK K
         refine norm_ (a' := ?_) ?_ ?_
         rotate_left
         ·
          show Act.put _ (some 65) _ = _
          simp only [Act.put, List.setIfInBounds_toArray, List.set_cons_zero, List.set_cons_succ, i64_w, i32_w]
          rfl
         refine one_ (i := 9) (N := some 68) #[true, true, true, true, true, true, true, true, true, true, false, false, false, false, false, false, false] rfl rfl (one_of HT_.out (by kernel_rfl)) (by decide) (fun K hK => ?_)
         refine goes_ Try.func42 (by kernel_rfl) rfl #[.slice Ao45 t288.length co45, .int .i64 a2, .int .i64 a3] (by rfl) rfl rfl (by (try simp only [List.map_toArray, List.map_cons, List.map_nil]); first | done | rfl | (simp only [List.length_drop, List.length_take]; rfl)) ?_
         with_reducible refine (tensileref05_Life.calls kj33 _ _ t288 a2 a3 t291 t292 _ ?side1 ?side2 A39.out).mono ?_
         (case side1 => repeat (first | exact (Kd.N_reads' HO290.out).2.2 | (with_reducible refine Kd.C_alloc ?_ _) | (with_reducible refine Kd.C_drewN ?_ _) | (with_reducible refine Kd.C_drew ?_)))
         (case side2 => exact (Kd.N_reads' HO290.out).2.1)
         rintro e w46 ⟨rfl, hb⟩
         refine ⟨_, rfl, ?_⟩
         have n0_ := Aside0.mk (Kd.N_below (by (with_reducible repeat (first | apply Kd.N_alloc | apply Kd.N_drewN | apply Kd.N_drew)); exact HO290.out) hb)
         have n1_ := Aside0.mk (blk_below (g := gb271) (o := .cells #[.slice A0_0 l0_0.length c0_0] 24 (0, 0)) (by (with_reducible repeat (first | refine blk_drewN ?_ _ | refine blk_drew ?_ | refine blk_alloc ?_ _)); exact BK271.out) hb)
         have n2_ := Aside0.mk (blk_below (g := gb283) (o := .cells #[.int .i64 t280, .int .i64 t281] 47 (0, 0)) (by (with_reducible repeat (first | refine blk_drewN ?_ _ | refine blk_drew ?_ | refine blk_alloc ?_ _)); exact BK283.out) hb)
         have n3_ := Aside0.mk (below_step (by repeat (first | (with_reducible first | exact HB.out | apply below_alloc | apply pw_below_drewN | apply below_drew1 | refine below_set ?_ GE271.out | refine below_set ?_ GE283.out) | exact HB.out)) hb)
         clear HO290
         clear BK271
         clear BK283
         clear HB
         have HO290 := n0_
         have BK271 := n1_
         have BK283 := n2_
         have HB := n3_
         clear n0_ n1_ n2_ n3_
         (try clear hb)
         (try clear hb2)
         (try clear hk)
         (try clear hi)
         refine hK.out _ _ ⟨(blk_cell BK283.out 0).trans rfl, (blk_cell BK283.out 1).trans rfl, (blk_cell BK271.out 0).trans rfl⟩ (fun hHeld => ?_)
         clear hK K
         refine norm_ (a' := ?_) ?_ ?_
         rotate_left
         ·
          show Act.put _ (some 68) _ = _
          simp only [Act.put, List.setIfInBounds_toArray, List.set_cons_zero, List.set_cons_succ, i64_w, i32_w]
          rfl
         refine one_ (i := 10) (N := some 69) #[true, true, true, true, true, true, true, true, true, true, true, false, false, false, false, false, false] rfl rfl (one_of HT_.out (by kernel_rfl)) (by decide) (fun K hK => ?_)
         refine goes_ Try.func41 (by kernel_rfl) rfl #[.agg #[.int .i64 t291, .int .i64 t292]] (by rfl) rfl rfl (by (try simp only [List.map_toArray, List.map_cons, List.map_nil]); first | done | rfl | (simp only [List.length_drop, List.length_take]; rfl)) ?_
         with_reducible refine (tensilelaw05_to.calls t291 t292 t293 t294 _ A40.out).mono ?_
         rintro e w47 ⟨rfl, hb⟩
         refine ⟨_, rfl, ?_⟩
         have n0_ := Aside0.mk (Kd.N_below (by (with_reducible repeat (first | apply Kd.N_alloc | apply Kd.N_drewN | apply Kd.N_drew)); exact HO290.out) hb)
         have n1_ := Aside0.mk (blk_below (g := gb271) (o := .cells #[.slice A0_0 l0_0.length c0_0] 24 (0, 0)) (by (with_reducible repeat (first | refine blk_drewN ?_ _ | refine blk_drew ?_ | refine blk_alloc ?_ _)); exact BK271.out) hb)
         have n2_ := Aside0.mk (blk_below (g := gb283) (o := .cells #[.int .i64 t280, .int .i64 t281] 47 (0, 0)) (by (with_reducible repeat (first | refine blk_drewN ?_ _ | refine blk_drew ?_ | refine blk_alloc ?_ _)); exact BK283.out) hb)
         have n3_ := Aside0.mk (below_step (by repeat (first | (with_reducible first | exact HB.out | apply below_alloc | apply pw_below_drewN | apply below_drew1 | refine below_set ?_ GE271.out | refine below_set ?_ GE283.out) | exact HB.out)) hb)
         clear HO290
         clear BK271
         clear BK283
         clear HB
         have HO290 := n0_
         have BK271 := n1_
         have BK283 := n2_
         have HB := n3_
         clear n0_ n1_ n2_ n3_
         (try clear hb)
         (try clear hb2)
         (try clear hk)
         (try clear hi)
         refine hK.out _ _ ⟨(blk_cell BK283.out 0).trans rfl, (blk_cell BK283.out 1).trans rfl, (blk_cell BK271.out 0).trans rfl⟩ (fun hHeld => ?_)
         clear hK K
         refine norm_ (a' := ?_) ?_ ?_
         rotate_left
         ·
          show Act.put _ (some 69) _ = _
          simp only [Act.put, List.setIfInBounds_toArray, List.set_cons_zero, List.set_cons_succ, i64_w, i32_w]
          rfl
         refine pure_ (i := 11) (N := some 70) (v := ?_) (a' := ?_) #[true, true, true, true, true, true, true, true, true, true, true, true, false, false, false, false, false] rfl rfl (any_of HT_.out (by kernel_rfl)) (fun _ _ _ h => h) (Or.inl ⟨by rfl, ?_⟩) ?_ ?_
         rotate_left
         ·
          intro w'
          go_simp
          with_reducible rfl
         rotate_left
         ·
          simp only [Act.put, List.setIfInBounds_toArray, List.set_cons_zero, List.set_cons_succ, i64_w, i32_w]
          rfl
         refine pure_ (i := 12) (N := some 71) (v := ?_) (a' := ?_) #[true, true, true, true, true, true, true, true, true, true, true, true, true, false, false, false, false] rfl rfl (any_of HT_.out (by kernel_rfl)) (fun _ _ _ h => h) (Or.inl ⟨by rfl, ?_⟩) ?_ ?_
         rotate_left
         ·
          intro w'
          go_simp
          with_reducible rfl
         rotate_left
         ·
          simp only [Act.put, List.setIfInBounds_toArray, List.set_cons_zero, List.set_cons_succ, i64_w, i32_w]
          rfl
         refine pure_ (i := 13) (N := some 72) (v := ?_) (a' := ?_) #[true, true, true, true, true, true, true, true, true, true, true, true, true, true, false, false, false] rfl rfl (any_of HT_.out (by kernel_rfl)) (fun _ _ _ h => h) (Or.inl ⟨by rfl, ?_⟩) ?_ ?_
         rotate_left
         ·
          intro w'
          go_simp
          with_reducible rfl
         rotate_left
         ·
          simp only [Act.put, List.setIfInBounds_toArray, List.set_cons_zero, List.set_cons_succ, i64_w, i32_w]
          rfl
         refine one_ (i := 14) (N := some 73) #[true, true, true, true, true, true, true, true, true, true, true, true, true, true, true, false, false] rfl rfl (one_of HT_.out (by kernel_rfl)) (by decide) (fun K hK => ?_)
         refine goes_ Try.func17 (by kernel_rfl) rfl #[] (by rfl) rfl rfl (by (try simp only [List.map_toArray, List.map_cons, List.map_nil]); first | done | rfl | (simp only [List.length_drop, List.length_take]; rfl)) ?_
         with_reducible refine (tensilelaw05_awake.calls  t295 _ A42.out).mono ?_
         rintro e w48 ⟨rfl, hb⟩
         refine ⟨_, rfl, ?_⟩
         have n0_ := Aside0.mk (Kd.N_below (by (with_reducible repeat (first | apply Kd.N_alloc | apply Kd.N_drewN | apply Kd.N_drew)); exact HO290.out) hb)
         have n1_ := Aside0.mk (blk_below (g := gb271) (o := .cells #[.slice A0_0 l0_0.length c0_0] 24 (0, 0)) (by (with_reducible repeat (first | refine blk_drewN ?_ _ | refine blk_drew ?_ | refine blk_alloc ?_ _)); exact BK271.out) hb)
         have n2_ := Aside0.mk (blk_below (g := gb283) (o := .cells #[.int .i64 t280, .int .i64 t281] 47 (0, 0)) (by (with_reducible repeat (first | refine blk_drewN ?_ _ | refine blk_drew ?_ | refine blk_alloc ?_ _)); exact BK283.out) hb)
         have n3_ := Aside0.mk (below_step (by repeat (first | (with_reducible first | exact HB.out | apply below_alloc | apply pw_below_drewN | apply below_drew1 | refine below_set ?_ GE271.out | refine below_set ?_ GE283.out) | exact HB.out)) hb)
         clear HO290
         clear BK271
         clear BK283
         clear HB
         have HO290 := n0_
         have BK271 := n1_
         have BK283 := n2_
         have HB := n3_
         clear n0_ n1_ n2_ n3_
         (try clear hb)
         (try clear hb2)
         (try clear hk)
         (try clear hi)
         refine hK.out _ _ ⟨(blk_cell BK283.out 0).trans rfl, (blk_cell BK283.out 1).trans rfl, (blk_cell BK271.out 0).trans rfl⟩ (fun hHeld => ?_)
         clear hK K
         refine norm_ (a' := ?_) ?_ ?_
         rotate_left
         ·
          show Act.put _ (some 73) _ = _
          simp only [Act.put, List.setIfInBounds_toArray, List.set_cons_zero, List.set_cons_succ, i64_w, i32_w]
          rfl
         refine pure_ (i := 15) (N := some 74) (v := ?_) (a' := ?_) #[true, true, true, true, true, true, true, true, true, true, true, true, true, true, true, true, false] rfl rfl (any_of HT_.out (by kernel_rfl)) (fun _ _ _ h => h) (Or.inl ⟨by rfl, ?_⟩) ?_ ?_
         rotate_left
         ·
          intro w'
          go_simp
          with_reducible rfl
         rotate_left
         ·
          simp only [Act.put, List.setIfInBounds_toArray, List.set_cons_zero, List.set_cons_succ, i64_w, i32_w]
          rfl
         refine pure_ (i := 16) (N := some 8) (v := ?_) (a' := ?_) #[true, true, true, true, true, true, true, true, true, true, true, true, true, true, true, true, true] rfl rfl (any_of HT_.out (by kernel_rfl)) (fun _ _ _ h => h) (Or.inl ⟨by rfl, ?_⟩) ?_ ?_
         rotate_left
         ·
          intro w'
          go_simp
          with_reducible rfl
         rotate_left
         ·
          simp only [Act.put, List.setIfInBounds_toArray, List.set_cons_zero, List.set_cons_succ, i64_w, i32_w]
          rfl
         refine done_ (done_of HT_.out (by kernel_rfl)) ?_
         try go_wp2
         go_ret
         exact ⟨by first | rfl | (simp [errW_none, errW_some] <;> rfl) | (simp [*, errW_none, errW_some] <;> rfl), by repeat (first | (with_reducible first | exact HB.out | apply below_alloc | apply pw_below_drewN | apply below_drew1 | refine below_set ?_ GE271.out | refine below_set ?_ GE283.out) | exact HB.out)⟩
        ·
         rw [if_neg c41] at H
         have c41b0 : (t280 == t293 && (t281 == t294)) = false := by simpa using c41
         (try (have c41b1 : decide (t280 = t293 && (t281 == t294)) = false := by simpa using c41))
         (try (have c41b2 : (t280 == t293 && (t281 == t294)) = false := by simpa using c41))
         (try (have c41b3 : ¬ (t280 = t293 && (t281 == t294)) := by simpa using c41))
         clear c41
         exact absurd H (by simp)
       ·
        rw [if_neg c37] at H
        have c37b0 : (t282 == 0) = false := beq_eq_false_iff_ne.mpr c37
        have c37b1 : (t282 != 0) = true := bne_iff_ne.mpr c37
        exact absurd H (by simp)
      ·
       rw [if_neg c36] at H
       have c36b0 : (x11_33 == 0) = false := beq_eq_false_iff_ne.mpr c36
       have c36b1 : (x11_33 != 0) = true := bne_iff_ne.mpr c36
       by_cases c49 : t282 = x11_33
       ·
        rw [if_pos c49] at H
        have c49b0 : (t282 == x11_33) = true := beq_iff_eq.mpr c49
        have c49b1 : (t282 != x11_33) = false := bne_eq_false_iff_eq.mpr c49
        clear c49
        by_cases c50 : (t280 == 0 && (t281 == 0)) = true
        ·
         rw [if_pos c50] at H
         have c50b0 : (t280 == 0 && (t281 == 0)) = true := c50
         (try (have c50b1 : decide (t280 = 0 && (t281 == 0)) = true := by simpa using c50))
         (try (have c50b2 : (t280 == 0 && (t281 == 0)) = true := by simpa using c50))
         clear c50
         replace H := Option.bind_eq_some_iff.mp H
         obtain ⟨t287, A510, H⟩ := H
         replace H : (some t287) = some r := H
         have A51 := Aside0.mk A510
         clear A510
         obtain rfl := Option.some.inj H
         have hnb52 := NB283_271.out
         have hnc52 := NB271_283.out
         have hcz53_0 : wc.cell? ⟨gb283, 0, none⟩ = some (.int .i64 t280) := (blk_cell BK283.out 0).trans rfl
         have hcz53_1 : wc.cell? ⟨gb283, 1, none⟩ = some (.int .i64 t281) := (blk_cell BK283.out 1).trans rfl
         have hfz53_0 := blk_frozen BK283.out 0
         have hfz53_1 := blk_frozen BK283.out 1
         go_wp2_with (first | (go_at_call 17; (with_reducible refine (tensilelaw05_awake.calls  t287 _ A51.out).mono ?_); rintro e w54 ⟨rfl, hb⟩; have n0_ := Aside0.mk (blk_below (g := gb271) (o := .cells #[.slice A0_0 l0_0.length c0_0] 24 (0, 0)) (by (with_reducible repeat (first | refine blk_drewN ?_ _ | refine blk_drew ?_ | refine blk_alloc ?_ _)); exact BK271.out) hb); have n1_ := Aside0.mk (blk_below (g := gb283) (o := .cells #[.int .i64 t280, .int .i64 t281] 47 (0, 0)) (by (with_reducible repeat (first | refine blk_drewN ?_ _ | refine blk_drew ?_ | refine blk_alloc ?_ _)); exact BK283.out) hb); have n2_ := Aside0.mk (below_step (by repeat (first | (with_reducible first | exact HB.out | apply below_alloc | apply pw_below_drewN | apply below_drew1 | refine below_set ?_ GE271.out | refine below_set ?_ GE283.out) | exact HB.out)) hb); clear BK271; clear BK283; clear HB; have BK271 := n0_; have BK283 := n1_; have HB := n2_; clear n0_ n1_ n2_; (try clear hb); (try clear hb2); (try clear hk); (try clear hi)))
         go_ret
         exact ⟨by first | rfl | (simp [errW_none, errW_some] <;> rfl) | (simp [*, errW_none, errW_some] <;> rfl), by repeat (first | (with_reducible first | exact HB.out | apply below_alloc | apply pw_below_drewN | apply below_drew1 | refine below_set ?_ GE271.out | refine below_set ?_ GE283.out) | exact HB.out)⟩
        ·
         rw [if_neg c50] at H
         exact absurd H (by simp)
       ·
        rw [if_neg c49] at H
        exact absurd H (by simp)
 ·
  replace c6 := Bool.eq_false_iff.mpr c6
  subst c6
  have H1 : ((tensilelaw05_awake.f).bind fun t273 => (some t273)) = some r := by rw [if_neg (show ¬ (false = true) by decide)] at H; exact H
  clear H
  have H := H1
  clear H1
  replace H := Option.bind_eq_some_iff.mp H
  obtain ⟨t273, A550, H⟩ := H
  replace H : (some t273) = some r := H
  have A55 := Aside0.mk A550
  clear A550
  obtain rfl := Option.some.inj H
  go_enter Try.func6, Try.ntmps6
  go_wp2_with (first | ((with_reducible refine gate_dst (N := 4) rfl ?_); (try (refine gate_guard (by rfl) ?_; dsimp only)); refine box_event ?hg (N := 4) ?hd (cs := #[.slice A0_0 l0_0.length c0_0]) (t := 24) ?hr ?_; (case hd => rfl); (case hg => rfl); (case hr => first | (go_simp; done) | (go_simp; rfl)); intro gb271 hg w56 hbox hb; have n0_ := Aside0.mk (below_step (by repeat (first | (with_reducible first | exact HB.out | apply below_alloc | apply pw_below_drewN | apply below_drew1) | exact HB.out)) hb); have n1_ := Aside0.mk (hbox); have n2_ := Aside0.mk ((by rw [hg]; exact (below_size (by repeat (first | (with_reducible first | exact HB.out | apply below_alloc | apply pw_below_drewN | apply below_drew1) | exact HB.out))) : w.heap.size ≤ gb271)); have n3_ := Aside0.mk ((by rw [hg]; exact (below_size (by repeat (first | (with_reducible first | exact HB.out | apply below_alloc | apply pw_below_drewN | apply below_drew1) | exact HB.out))) : w.heap.size ≤ gb271)); clear HB; have HB := n0_; have BK271 := n1_; have GW271 := n2_; have GE271 := n3_; clear n0_ n1_ n2_ n3_; clear hb hbox hg; have hcz57_0 : w56.cell? ⟨gb271, 0, none⟩ = some (.slice A0_0 l0_0.length c0_0) := (blk_cell BK271.out 0).trans rfl; have hfz57_0 := blk_frozen BK271.out 0) | ((with_reducible refine gate_callee (f := 37) rfl ?_); refine goesL_ (some 14) rfl rfl Try.func37 (by kernel_rfl) rfl #[.agg #[.slice A0_0 l0_0.length c0_0], .slice A1 l1.length c1, .slice none 0 0] rfl (by (try simp only [List.map_toArray, List.map_cons, List.map_nil]); first | done | rfl | (simp only [List.length_drop, List.length_take]; rfl)) ?_; (refine (tensilelaw05_Thin.calls k _ _ l0_0 _ _ l1 _ _ ([] : List (S56)) false _ ?side1 ?side2 ?side3 ?side4 ?side5 ?side6 A5.out).mono ?_); (case side1 => repeat (first | exact (Kd.C_below HR0_0.out HB.out) | (with_reducible refine Kd.C_alloc ?_ _) | (with_reducible refine Kd.C_drewN ?_ _) | (with_reducible refine Kd.C_drew ?_))); (case side2 => exact HC0_0.out); (case side3 => repeat (first | exact (Kd.C_below HR1.out HB.out) | (with_reducible refine Kd.C_alloc ?_ _) | (with_reducible refine Kd.C_drewN ?_ _) | (with_reducible refine Kd.C_drew ?_))); (case side4 => exact HC1.out); (case side5 => exact Kd.C_nil _ _); (case side6 => exact Nat.le_refl _); rintro e w58 ⟨rfl, hb⟩; refine ⟨_, rfl, ?_⟩; have n0_ := Aside0.mk (blk_below (g := gb271) (o := .cells #[.slice A0_0 l0_0.length c0_0] 24 (0, 0)) (by (with_reducible repeat (first | refine blk_drewN ?_ _ | refine blk_drew ?_ | refine blk_alloc ?_ _)); exact BK271.out) hb); have n1_ := Aside0.mk (below_step (by repeat (first | (with_reducible first | exact HB.out | apply below_alloc | apply pw_below_drewN | apply below_drew1 | refine below_set ?_ GE271.out) | exact HB.out)) hb); clear BK271; clear HB; have BK271 := n0_; have HB := n1_; clear n0_ n1_; (try clear hb); (try clear hb2); (try clear hk); (try clear hi)) | ((with_reducible refine gate_callee (f := 17) rfl ?_); refine goesL_ (some 16) rfl rfl Try.func17 (by kernel_rfl) rfl #[] rfl (by (try simp only [List.map_toArray, List.map_cons, List.map_nil]); first | done | rfl | (simp only [List.length_drop, List.length_take]; rfl)) ?_; (with_reducible refine (tensilelaw05_awake.calls  t273 _ A55.out).mono ?_); rintro e w59 ⟨rfl, hb⟩; refine ⟨_, rfl, ?_⟩; have n0_ := Aside0.mk (blk_below (g := gb271) (o := .cells #[.slice A0_0 l0_0.length c0_0] 24 (0, 0)) (by (with_reducible repeat (first | refine blk_drewN ?_ _ | refine blk_drew ?_ | refine blk_alloc ?_ _)); exact BK271.out) hb); have n1_ := Aside0.mk (below_step (by repeat (first | (with_reducible first | exact HB.out | apply below_alloc | apply pw_below_drewN | apply below_drew1 | refine below_set ?_ GE271.out) | exact HB.out)) hb); clear BK271; clear HB; have BK271 := n0_; have HB := n1_; clear n0_ n1_; (try clear hb); (try clear hb2); (try clear hk); (try clear hi)))
  go_ret
  exact ⟨by first | rfl | (simp [errW_none, errW_some] <;> rfl) | (simp [*, errW_none, errW_some] <;> rfl), by repeat (first | (with_reducible first | exact HB.out | apply below_alloc | apply pw_below_drewN | apply below_drew1 | refine below_set ?_ GE271.out) | exact HB.out)⟩

end Go.Proofs.Ytdagijgoegkphaa.P

namespace Go.Proofs.Ytdagijgoegkphaa.Pure
open Go.RowKit Go.Proofs.YtdagijgoegkphaaW.PrintWords Go.Proofs.YtdagijgoegkphaaW.PrintLast Go.Proofs.YtdagijgoegkphaaW.PrintMore Go.Proofs.Ytdagijgoegkphaa.P
open Hand (Rg Sg Rn Nm Rt)

theorem nm_at (l : List Int) (b : Nat) : ((toNm l).getD b ⟨0⟩).n = l.getD b 0 := by
  unfold toNm
  simp only [List.getD_eq_getElem?_getD, List.getElem?_map]
  cases l[b]? <;> rfl
theorem rg_at (m : List S54) (b : Nat) : (m.map cRg).getD b ⟨0, 0⟩ = cRg (rd_T54 m (b : Int)) := by
  unfold rd_T54
  simp only [List.getD_eq_getElem?_getD, List.getElem?_map, Int.toNat_natCast]
  cases m[b]? <;> rfl
theorem rd_nat (l : List Int) (b : Nat) : rd l (b : Int) = l.getD b 0 := rfl

theorem rd_get (l : List Int) (hl : l.length ≤ 3) (b : Int) (h0 : 0 ≤ b) (h1 : b < l.length) : rd l b = (Hand.rtOf (toNm l)).get b.toNat := by
  obtain ⟨n, rfl⟩ := Int.eq_ofNat_of_zero_le h0
  rw [rd_nat, Int.toNat_natCast]
  unfold Hand.rtOf
  rw [nm_at, nm_at, nm_at]
  match n, (show n < 3 by omega) with
  | 0, _ => rfl
  | 1, _ => rfl
  | 2, _ => rfl

theorem atV_cons (f : Sg → Int) (r : Rt) (s : Sg) (l : List Sg) : Hand.atV f r (s :: l) = r.get s.band.toNat * f s + Hand.atV f r l := rfl
theorem atV_bound (f : Sg → Int) (r : Rt) (hr : r.ok) (hf : ∀ s : Sg, s.ok → 0 ≤ f s ∧ f s ≤ 1000000) : ∀ (l : List Sg), (∀ s ∈ l, s.ok) → 0 ≤ Hand.atV f r l ∧ Hand.atV f r l ≤ 1000000000 * l.length
  | [], _ => by simp [Hand.atV, Hand.sumL]
  | s :: l, h => by
    have h1 := h s (by simp)
    have h2 := atV_bound f r hr hf l (fun x hx => h x (by simp [hx]))
    have h3 := hf s h1
    have h4 := hr s.band.toNat (by have := h1.2.1; have := h1.1; omega)
    have h5 := Hand.mul_bound h4.1 h4.2 h3.1 h3.2
    rw [atV_cons, List.length_cons]
    omega

theorem stretch_l0 (l : List Int) (hl : l.length ≤ 3) (hr : (Hand.rtOf (toNm l)).ok) : ∀ (suf pre : List S56) (k : Nat) (a b : Int), suf.length + 1 ≤ k → (pre ++ suf).length ≤ 12 → (∀ s ∈ suf, Hand.segB l.length (cSg s) = true) →
    0 ≤ a → a ≤ 1000000000 * pre.length → 0 ≤ b → b ≤ 1000000000 * pre.length →
    tensileref05_Stretch.l0 k (pre ++ suf) l (pre.length : Int) a b = some (a + Hand.stLo (Hand.rtOf (toNm l)) (suf.map cSg), b + Hand.stHi (Hand.rtOf (toNm l)) (suf.map cSg)) := by
  intro suf
  induction suf with
  | nil =>
    intro pre k a b hk _ _ _ _ _ _
    obtain ⟨k, rfl⟩ : ∃ m, k = m + 1 := ⟨k - 1, by omega⟩
    rw [tensileref05_Stretch.l0, if_neg (len_nlt pre)]
    simp [Hand.stLo, Hand.stHi, Hand.atV, Hand.sumL]
  | cons s suf ih =>
    intro pre k a b hk hlen hseg ha0 ha1 hb0 hb1
    obtain ⟨k, rfl⟩ : ∃ m, k = m + 1 := ⟨k - 1, by omega⟩
    have hl2 : pre.length + suf.length + 1 ≤ 12 := by simpa [Nat.add_assoc] using hlen
    have hs := hseg s (by simp)
    have hok : (cSg s).ok := Hand.segB_ok hl hs
    have hband : 0 ≤ s.f0 ∧ s.f0 < l.length := by
      unfold Hand.segB at hs
      simp only [Bool.and_eq_true, decide_eq_true_eq] at hs
      have := hs.1
      unfold cSg at this
      dsimp only at this
      omega
    have h4 := hr s.f0.toNat (by omega)
    obtain ⟨_, _, o1, o2, o3, o4⟩ := hok
    have o1' : 0 ≤ s.f1.f0 := o1
    have o2' : s.f1.f0 ≤ 1000000 := o2
    have o3' : 0 ≤ s.f1.f1 := o3
    have o4' : s.f1.f1 ≤ 1000000 := o4
    have m1 := Hand.mul_bound h4.1 h4.2 o1' o2'
    have m2 := Hand.mul_bound h4.1 h4.2 o3' o4'
    rw [tensileref05_Stretch.l0, if_pos (len_lt pre s suf), if_pos (by omega), rd56, if_pos hband.1, if_pos hband.2, rd_get l hl s.f0 hband.1 hband.2]
    obtain ⟨x, hx⟩ : ∃ x, x = (Hand.rtOf (toNm l)).get s.f0.toNat * s.f1.f0 := ⟨_, rfl⟩
    obtain ⟨y, hy⟩ : ∃ y, y = (Hand.rtOf (toNm l)).get s.f0.toNat * s.f1.f1 := ⟨_, rfl⟩
    rw [← hx, ← hy]
    rw [← hx] at m1
    rw [← hy] at m2
    rw [w_succ _ (by omega), w_id (n := x) (by omega) (by omega), w_id (n := y) (by omega) (by omega), w_id (n := a + x) (by omega) (by omega), w_id (n := b + y) (by omega) (by omega)]
    have := ih (pre ++ [s]) k (a + x) (b + y) (by simp at hk; omega) (by simpa using hlen) (fun z hz => hseg z (by simp [hz])) (by omega) (by simp; omega) (by omega) (by simp; omega)
    rw [snoc_len, List.append_assoc] at this
    rw [show pre ++ s :: suf = pre ++ ([s] ++ suf) from rfl, this]
    unfold Hand.stLo Hand.stHi
    rw [List.map_cons, atV_cons, atV_cons]
    show some (a + x + _, b + y + _) = some (a + ((Hand.rtOf (toNm l)).get s.f0.toNat * s.f1.f0 + _), b + ((Hand.rtOf (toNm l)).get s.f0.toNat * s.f1.f1 + _))
    rw [← hx, ← hy, Int.add_assoc, Int.add_assoc]
theorem stretch_f (l : List Int) (hl : l.length ≤ 3) (hr : (Hand.rtOf (toNm l)).ok) (p : List S56) (hp : p.length ≤ 12) (hseg : ∀ s ∈ p, Hand.segB l.length (cSg s) = true) (k : Nat) (hk : p.length + 1 ≤ k) :
    tensileref05_Stretch.f k p l = some (Hand.stLo (Hand.rtOf (toNm l)) (p.map cSg), Hand.stHi (Hand.rtOf (toNm l)) (p.map cSg)) := by
  have := stretch_l0 l hl hr p [] k 0 0 hk hp hseg (by omega) (by simp) (by omega) (by simp)
  rw [Int.zero_add, Int.zero_add] at this
  exact this

theorem allows_l0 (l : List Int) (hl : l.length ≤ 3) (hr : (Hand.rtOf (toNm l)).ok) : ∀ (suf pre : List S81) (k : Nat), suf.length + 15 ≤ k → (pre ++ suf).length ≤ 9 → (∀ x ∈ suf, x.f0.length ≤ 12 ∧ ∀ s ∈ x.f0, Hand.segB l.length (cSg s) = true) →
    tensileref05_Allows.l0 k (pre ++ suf) l (pre.length : Int) = some (Hand.allowedB (suf.map cRn) (Hand.rtOf (toNm l))) := by
  intro suf
  induction suf with
  | nil =>
    intro pre k hk _ _
    obtain ⟨k, rfl⟩ : ∃ m, k = m + 1 := ⟨k - 1, by omega⟩
    rw [tensileref05_Allows.l0, if_neg (len_nlt pre)]
    rfl
  | cons s suf ih =>
    intro pre k hk hlen hx
    obtain ⟨k, rfl⟩ : ∃ m, k = m + 1 := ⟨k - 1, by omega⟩
    have hl2 : pre.length + suf.length + 1 ≤ 9 := by simpa [Nat.add_assoc] using hlen
    obtain ⟨h1, h2⟩ := hx s (by simp)
    rw [tensileref05_Allows.l0, if_pos (len_lt pre s suf), if_pos (by omega), rd81, stretch_f l hl hr s.f0 h1 h2 k (by simp at hk; omega), Option.bind_some]
    have hal : Hand.allowedB ((s :: suf).map cRn) (Hand.rtOf (toNm l)) = (Hand.allowsB (Hand.rtOf (toNm l)) (s.f0.map cSg) s.f1.f0 s.f1.f1 && Hand.allowedB (suf.map cRn) (Hand.rtOf (toNm l))) := rfl
    rw [hal]
    unfold Hand.allowsB
    dsimp only
    by_cases c1 : Hand.stLo (Hand.rtOf (toNm l)) (s.f0.map cSg) > s.f1.f1
    · rw [if_pos c1, decide_eq_false (by omega)]; simp
    rw [if_neg c1, decide_eq_true (show Hand.stLo (Hand.rtOf (toNm l)) (s.f0.map cSg) ≤ s.f1.f1 by omega)]
    by_cases c2 : Hand.stHi (Hand.rtOf (toNm l)) (s.f0.map cSg) < s.f1.f0
    · rw [if_pos c2, decide_eq_false (by omega)]; simp
    rw [if_neg c2, decide_eq_true (show s.f1.f0 ≤ Hand.stHi (Hand.rtOf (toNm l)) (s.f0.map cSg) by omega), w_succ _ (by omega)]
    have := ih (pre ++ [s]) k (by simp at hk; omega) (by simpa using hlen) (fun x h => hx x (by simp [h]))
    rw [snoc_len, List.append_assoc] at this
    rw [show pre ++ s :: suf = pre ++ ([s] ++ suf) from rfl, this]
    rfl

/-- What is right where the error is none. -/
theorem runs_right {m : List S54} {r : List S81} (h : Hand.enterErr (m.map cRg) (r.map cRn) = 0) : ∀ x ∈ r, x.f0.length ≤ 8 ∧ ∀ s ∈ x.f0, Hand.segB m.length (cSg s) = true := by
  obtain ⟨_, _, _, _, h5, h6⟩ := Hand.enter_ok h
  intro x hx
  have h7 := List.all_eq_true.1 h5 (cRn x) (List.mem_map.2 ⟨x, hx, rfl⟩)
  have h8 := List.all_eq_true.1 h6 (cRn x) (List.mem_map.2 ⟨x, hx, rfl⟩)
  unfold Hand.fewB cRn at h7
  unfold Hand.runOk Hand.runB cRn at h8
  simp only [Bool.and_eq_true, decide_eq_true_eq, List.length_map] at h7 h8
  exact ⟨h7, fun s hs => List.all_eq_true.1 h8.2 (cSg s) (List.mem_map.2 ⟨s, hs, rfl⟩)⟩

theorem allows_f {m : List S54} {r : List S81} {l : List Int} (h : Hand.enterErr (m.map cRg) (r.map cRn) = 0) (hl : l.length = m.length) (hr : (Hand.rtOf (toNm l)).ok) (k : Nat) (hk : 30 ≤ k) :
    tensileref05_Allows.f k r l = some (Hand.allowedB (r.map cRn) (Hand.rtOf (toNm l))) := by
  have h1 := (Hand.enter_ok h).1
  have h4 := (Hand.enter_ok h).2.2.2.1
  rw [List.length_map] at h1 h4
  have h2 := runs_right h
  exact allows_l0 l (by omega) hr r [] k (by omega) (by simpa using (by omega : r.length ≤ 9)) (fun x hx => ⟨by have := (h2 x hx).1; omega, by rw [hl]; exact (h2 x hx).2⟩)
end Go.Proofs.Ytdagijgoegkphaa.Pure

namespace Go.Proofs.Ytdagijgoegkphaa.Pure
open Go.RowKit Go.Proofs.YtdagijgoegkphaaW.PrintWords Go.Proofs.YtdagijgoegkphaaW.PrintLast Go.Proofs.YtdagijgoegkphaaW.PrintMore Go.Proofs.Ytdagijgoegkphaa.P
open Hand (Rg Sg Rn Nm Rt)

/-! ### All rates -/
/-- The rates of the first bands. -/
def take (r : Rt) (n : Nat) : List Int := r.list n
theorem take_len (r : Rt) (n : Nat) (h : n ≤ 3) : (r.list n).length = n := by unfold Rt.list; simp; omega
theorem take_succ (r : Rt) (n : Nat) (x : Int) (h : n < 3) : r.list n ++ [x] = (r.set n x).list (n + 1) := by
  unfold Rt.list
  match n, h with
  | 0, _ => rfl
  | 1, _ => rfl
  | 2, _ => rfl
theorem take_rd (r : Rt) (n : Nat) (b : Nat) (h : b < n) (hn : n ≤ 3) : rd (r.list n) (b : Int) = r.get b := by
  rw [rd_nat]
  unfold Rt.list
  match n, b, hn, h with
  | 1, 0, _, _ => rfl
  | 2, 0, _, _ => rfl
  | 2, 1, _, _ => rfl
  | 3, 0, _, _ => rfl
  | 3, 1, _, _ => rfl
  | 3, 2, _, _ => rfl
theorem take_rt (r : Rt) (n : Nat) (hn : n ≤ 3) : ∀ k, k < n → (Hand.rtOf (toNm (r.list n))).get k = r.get k := by
  intro k hk
  have h1 := rd_get (r.list n) (by rw [take_len r n hn]; exact hn) (k : Int) (by omega) (by rw [take_len r n hn]; omega)
  rw [Int.toNat_natCast] at h1
  rw [← h1, take_rd r n k hk hn]

theorem flat_cons {α β : Type} (f : α → List β) (x : α) (l : List α) : (x :: l).flatMap f = f x ++ l.flatMap f := List.flatMap_cons

/-- Valid ranges. -/
def Val (m : List S54) : Prop := m.length ≤ 3 ∧ ∀ s ∈ m, 0 ≤ s.f0 ∧ s.f0 ≤ s.f1 ∧ s.f1 ≤ 1000 ∧ s.f1 - s.f0 ≤ 20

theorem flat_len {α β : Type} (f : α → List β) (c : Nat) : ∀ (l : List α), (∀ x ∈ l, (f x).length ≤ c) → (l.flatMap f).length ≤ l.length * c
  | [], _ => by simp
  | x :: l, h => by
    have h1 := h x (by simp)
    have h2 := flat_len f c l (fun y hy => h y (by simp [hy]))
    rw [List.flatMap_cons, List.length_append, List.length_cons, Nat.add_mul, Nat.one_mul]
    omega

/-- From some rates on: the numbers of rounds. -/
def need : Nat → Nat
  | 0 => 1
  | d + 1 => need d + 25

theorem hiAt_eq (m : List S54) (band : Nat) (h : band < m.length) : Hand.hiAt (m.map cRg) band = (rd_T54 m (band : Int)).f1 := by
  unfold Hand.hiAt rd_T54
  rw [List.getElem?_map, Int.toNat_natCast, List.getD_eq_getElem?_getD, List.getElem?_eq_getElem h]
  rfl
theorem lowAt_eq (m : List S54) (r : Rt) (band : Nat) (h : band < m.length) : Hand.lowAt (m.map cRg) r band = if 0 < band then mx (rd_T54 m (band : Int)).f0 (r.get (band - 1)) else (rd_T54 m (band : Int)).f0 := by
  unfold Hand.lowAt rd_T54
  rw [List.getElem?_map, Int.toNat_natCast, List.getD_eq_getElem?_getD, List.getElem?_eq_getElem h]
  rfl
theorem rd_mem (m : List S54) (band : Nat) (h : band < m.length) : rd_T54 m (band : Int) ∈ m := by
  unfold rd_T54
  rw [Int.toNat_natCast, List.getD_eq_getElem?_getD, List.getElem?_eq_getElem h]
  exact List.getElem_mem h

theorem lsFrom_len (m : List S54) (hv : Val m) : ∀ (d band : Nat) (r : Rt), band + d = m.length → (Hand.lsFrom (m.map cRg) d band r).length ≤ 21 ^ d
  | 0, _, _, _ => by simp [Hand.lsFrom]
  | d + 1, band, r, hb => by
    have hlt : band < m.length := by omega
    have hs := hv.2 _ (rd_mem m band hlt)
    unfold Hand.lsFrom
    rw [hiAt_eq m band hlt, lowAt_eq m r band hlt]
    refine Nat.le_trans (flat_len _ (21 ^ d) _ fun n _ => lsFrom_len m hv d (band + 1) _ (by omega)) ?_
    rw [Hand.upFrom_length, Nat.pow_succ, Nat.mul_comm]
    refine Nat.mul_le_mul_left _ ?_
    have : (rd_T54 m (band : Int)).f0 ≤ (if 0 < band then mx (rd_T54 m (band : Int)).f0 (r.get (band - 1)) else (rd_T54 m (band : Int)).f0) := by
      split
      · unfold mx; split <;> omega
      · exact Int.le_refl _
    omega

theorem lists_l0 (m : List S54) (hv : Val m) (d band : Nat) (r : Rt) (hb : band + (d + 1) = m.length)
    (ih : ∀ (n : Int), 0 ≤ n → ∀ (k : Nat), need d ≤ k → tensileref05_Lists.f k m ((r.set band n).list (band + 1)) = some ((Hand.lsFrom (m.map cRg) d (band + 1) (r.set band n)).map fun q => q.list m.length)) (a b : Int) (hbb : b ≤ 1000) (ha : 0 ≤ a) :
    ∀ (j : Nat) (n : Int) (acc : List (List Int)) (k : Nat), (b + 1 - n).toNat = j → j ≤ 21 → 0 ≤ n → j + 1 + need d ≤ k → acc.length + j * 21 ^ d ≤ 1000000 →
      tensileref05_Lists.l0 k (r.list band) acc n m a b = some (acc ++ ((Hand.upFrom n j).flatMap fun x => Hand.lsFrom (m.map cRg) d (band + 1) (r.set band x)).map fun q => q.list m.length) := by
  have hv3 := hv.1
  intro j
  induction j with
  | zero =>
    intro n acc k hj _ _ hk _
    obtain ⟨k, rfl⟩ : ∃ q, k = q + 1 := ⟨k - 1, by omega⟩
    rw [tensileref05_Lists.l0, if_neg (by omega)]
    simp [Hand.upFrom]
  | succ j ihj =>
    intro n acc k hj hj21 hn hk hacc
    obtain ⟨k, rfl⟩ : ∃ q, k = q + 1 := ⟨k - 1, by omega⟩
    have hlen := lsFrom_len m hv d (band + 1) (r.set band n) (by omega)
    have htl := take_len r band (by omega)
    have hmul : (j + 1) * 21 ^ d = j * 21 ^ d + 21 ^ d := by rw [Nat.add_mul, Nat.one_mul]
    rw [tensileref05_Lists.l0, if_pos (by omega), Option.bind_some, if_pos (by rw [htl]; simp; omega), Option.bind_some, List.nil_append, Option.bind_some, if_pos (by rw [htl]; simp; omega), take_succ r band n (by omega), ih n hn k (by omega), Option.bind_some, if_pos (by rw [List.length_map]; omega), w_id (by omega) (by omega)]
    rw [ihj (n + 1) _ k (by omega) (by omega) (by omega) (by omega) (by rw [List.length_append, List.length_map]; omega)]
    rw [show Hand.upFrom n (j + 1) = n :: Hand.upFrom (n + 1) j from rfl, flat_cons, List.map_append, List.append_assoc]

theorem get_set_lt (r : Rt) (n : Int) : ∀ (band j : Nat), band < 3 → j < band → (r.set band n).get j = r.get j
  | 0, _, _, h => absurd h (by omega)
  | 1, 0, _, _ => rfl
  | 2, 0, _, _ => rfl
  | 2, 1, _, _ => rfl
  | 1, _ + 1, _, h => absurd h (by omega)
  | 2, _ + 2, _, h => absurd h (by omega)
  | _ + 3, _, h, _ => absurd h (by omega)
theorem lists_from (m : List S54) (hv : Val m) : ∀ (d band : Nat) (r : Rt) (k : Nat), band + d = m.length → need d ≤ k → (∀ j, j < band → 0 ≤ r.get j) →
    tensileref05_Lists.f k m (r.list band) = some ((Hand.lsFrom (m.map cRg) d band r).map fun q => q.list m.length)
  | 0, band, r, k, hb, hk, _ => by
    obtain ⟨k, rfl⟩ : ∃ q, k = q + 1 := ⟨k - 1, by unfold need at hk; omega⟩
    have hv3 := hv.1
    rw [tensileref05_Lists.f, if_pos (by rw [take_len r band (by omega)]; omega)]
    have e : band = m.length := by omega
    rw [e]
    rfl
  | d + 1, band, r, k, hb, hk, hr => by
    have hv3 := hv.1
    have hk' : need d + 25 ≤ k := hk
    obtain ⟨k, rfl⟩ : ∃ q, k = q + 2 := ⟨k - 2, by omega⟩
    have hlt : band < m.length := by omega
    have hs := hv.2 _ (rd_mem m band hlt)
    have htl := take_len r band (by omega)
    have ih : ∀ (n : Int), 0 ≤ n → ∀ (k : Nat), need d ≤ k → tensileref05_Lists.f k m ((r.set band n).list (band + 1)) = some ((Hand.lsFrom (m.map cRg) d (band + 1) (r.set band n)).map fun q => q.list m.length) := fun n hn k h => by
      refine lists_from m hv d (band + 1) (r.set band n) k (by omega) h ?_
      intro j hj
      by_cases e : j = band
      · rw [e, get_set r band (by omega)]; exact hn
      · rw [get_set_lt r n band j (by omega) (by omega)]; exact hr j (by omega)
    have hfin : ∀ low, 0 ≤ low → (rd_T54 m (band : Int)).f0 ≤ low → tensileref05_Lists.j0 (k + 1) (r.list band) [] low m (rd_T54 m (band : Int)).f0 (rd_T54 m (band : Int)).f1 = some (((Hand.upFrom low ((rd_T54 m (band : Int)).f1 + 1 - low).toNat).flatMap fun x => Hand.lsFrom (m.map cRg) d (band + 1) (r.set band x)).map fun q => q.list m.length) := fun low h0 h1 => by
      have hp : 21 ^ d ≤ 21 ^ 2 := Nat.pow_le_pow_right (by omega) (by omega)
      have hj21 : ((rd_T54 m (band : Int)).f1 + 1 - low).toNat ≤ 21 := by omega
      have hmul : ((rd_T54 m (band : Int)).f1 + 1 - low).toNat * 21 ^ d ≤ 21 * 21 ^ 2 := Nat.mul_le_mul hj21 hp
      rw [tensileref05_Lists.j0, lists_l0 m hv d band r hb ih _ _ (by omega) hs.1 _ low [] k rfl hj21 h0 (by omega) (by simp; omega), List.nil_append]
    have hlf : Hand.lsFrom (m.map cRg) (d + 1) band r = (Hand.upFrom (Hand.lowAt (m.map cRg) r band) (Hand.hiAt (m.map cRg) band + 1 - Hand.lowAt (m.map cRg) r band).toNat).flatMap fun n => Hand.lsFrom (m.map cRg) d (band + 1) (r.set band n) := rfl
    rw [hlf, hiAt_eq m band hlt, lowAt_eq m r band hlt]
    rw [tensileref05_Lists.f, htl, if_neg (by omega), if_pos (by omega), if_pos (by omega)]
    by_cases h0 : 0 < band
    · have hrd : rd (r.list band) ((band : Int) - 1) = r.get (band - 1) := by
        rw [show ((band : Int) - 1) = ((band - 1 : Nat) : Int) by omega]
        exact take_rd r band (band - 1) (by omega) (by omega)
      have hmx : (rd_T54 m (band : Int)).f0 ≤ mx (rd_T54 m (band : Int)).f0 (r.get (band - 1)) := by unfold mx; split <;> omega
      rw [if_pos (by omega), w_id (by omega) (by omega), if_pos (by omega), if_pos (by omega), hrd, if_pos h0]
      exact hfin _ (by omega) hmx
    · rw [if_neg (by omega), if_neg h0]
      exact hfin _ (by omega) (Int.le_refl _)

theorem lists_f (m : List S54) (hv : Val m) (k : Nat) (hk : 80 ≤ k) : tensileref05_Lists.f k m [] = some ((Hand.lists (m.map cRg)).map fun q => q.list m.length) := by
  have hv3 := hv.1
  have hn : need m.length ≤ k := by
    have : ∀ d, need d = 25 * d + 1 := fun d => by
      induction d with
      | zero => rfl
      | succ d ih => unfold need; omega
    rw [this]; omega
  have := lists_from m hv m.length 0 ⟨0, 0, 0⟩ k (by omega) hn (fun j h => by omega)
  unfold Hand.lists
  rw [List.length_map]
  exact this

theorem val_of {m : List S54} {rs : List Rn} (h : Hand.enterErr (m.map cRg) rs = 0) : Val m := by
  have h1 := (Hand.enter_ok h).1
  rw [List.length_map] at h1
  refine ⟨h1.2, fun s hs => ?_⟩
  have h2 : Hand.matErr (m.map cRg) = 0 := by
    unfold Hand.enterErr at h
    split at h
    · assumption
    · exact h
  unfold Hand.matErr at h2
  split at h2
  · rename_i h3
    have h4 := rateB_low (List.all_eq_true.1 h3.2 (cRg s) (List.mem_map.2 ⟨s, hs, rfl⟩))
    exact h4
  · cases h2
end Go.Proofs.Ytdagijgoegkphaa.Pure

namespace Go.Proofs.Ytdagijgoegkphaa.Pure
open Go.RowKit Go.Proofs.YtdagijgoegkphaaW.PrintWords Go.Proofs.YtdagijgoegkphaaW.PrintLast Go.Proofs.YtdagijgoegkphaaW.PrintMore Go.Proofs.Ytdagijgoegkphaa.P
open Hand (Rg Sg Rn Nm Rt)

theorem get_set_gt (r : Rt) (n : Int) : ∀ (band j : Nat), j < 3 → band < j → (r.set band n).get j = r.get j
  | 0, 1, _, _ => rfl
  | 0, 2, _, _ => rfl
  | 1, 2, _, _ => rfl
  | _, 0, _, h => absurd h (by omega)
  | _ + 1, 1, _, h => absurd h (by omega)
  | _ + 2, 2, _, h => absurd h (by omega)
  | _, _ + 3, h, _ => absurd h (by omega)
theorem lsFrom_rest (ms : List Rg) : ∀ (d band : Nat) (r q : Rt), q ∈ Hand.lsFrom ms d band r → ∀ j, j < 3 → band + d ≤ j → q.get j = r.get j
  | 0, _, r, q, h, j, _, _ => by rw [List.mem_singleton.1 h]
  | d + 1, band, r, q, h, j, h3, hj => by
    obtain ⟨n, _, hq⟩ := List.mem_flatMap.1 h
    rw [lsFrom_rest ms d (band + 1) (r.set band n) q hq j h3 (by omega), get_set_gt r n band j h3 (by omega)]
theorem rt_ext {p q : Rt} (h : ∀ j, j < 3 → p.get j = q.get j) : p = q := by
  obtain ⟨a, b, c⟩ := p
  obtain ⟨x, y, z⟩ := q
  have h0 : a = x := h 0 (by omega)
  have h1 : b = y := h 1 (by omega)
  have h2 : c = z := h 2 (by omega)
  rw [h0, h1, h2]
theorem rt_of_list (ms : List Rg) (hms : ms.length ≤ 3) (q : Rt) (h : q ∈ Hand.lists ms) : Hand.rtOf (toNm (q.list ms.length)) = q := by
  refine rt_ext fun j hj => ?_
  by_cases hjn : j < ms.length
  · exact take_rt q ms.length hms j hjn
  · have h0 : q.get j = 0 := by
      rw [lsFrom_rest ms ms.length 0 ⟨0, 0, 0⟩ q h j hj (by omega)]
      match j, hj with
      | 0, _ => rfl
      | 1, _ => rfl
      | 2, _ => rfl
    rw [h0]
    have hr : ∀ b : Nat, ms.length ≤ b → ((toNm (q.list ms.length)).getD b ⟨0⟩).n = 0 := fun b hb => by
      rw [nm_at, List.getD_eq_getElem?_getD, List.getElem?_eq_none (by rw [take_len q _ hms]; exact hb)]
      rfl
    match j, hj with
    | 0, _ => exact hr 0 (by omega)
    | 1, _ => exact hr 1 (by omega)
    | 2, _ => exact hr 2 (by omega)

theorem lists_rtok {m : List S54} (hv : Val m) (q : Rt) (h : q ∈ Hand.lists (m.map cRg)) : q.ok :=
  Hand.lists_ok (fun x hx => by
    obtain ⟨s, hs, rfl⟩ := List.mem_map.1 hx
    have := hv.2 s hs
    exact ⟨this.1, this.2.2.1⟩) q h

theorem allowed_l0 {m : List S54} {r : List S81} (h : Hand.enterErr (m.map cRg) (r.map cRn) = 0) : ∀ (suf pre : List Rt) (acc : List (List Int)) (k : Nat), suf.length + 31 ≤ k → (pre ++ suf).length ≤ 1000000 → acc.length ≤ pre.length → (∀ q ∈ suf, q ∈ Hand.lists (m.map cRg)) →
    tensileref05_Allowed.l0 k r acc ((pre ++ suf).map fun q => q.list m.length) (pre.length : Int) = some (acc ++ (suf.filter (Hand.allowedB (r.map cRn))).map fun q => q.list m.length) := by
  have hv := val_of h
  have hv3 := hv.1
  intro suf
  induction suf with
  | nil =>
    intro pre acc k hk _ _ _
    obtain ⟨k, rfl⟩ : ∃ q, k = q + 1 := ⟨k - 1, by omega⟩
    rw [tensileref05_Allowed.l0, if_neg (by simp)]
    simp
  | cons q suf ih =>
    intro pre acc k hk hl hacc hq
    obtain ⟨k, rfl⟩ : ∃ q, k = q + 1 := ⟨k - 1, by omega⟩
    have hl2 : pre.length + suf.length + 1 ≤ 1000000 := by simpa [Nat.add_assoc] using hl
    have hqm := hq q (by simp)
    have hrt := rt_of_list (m.map cRg) (by rw [List.length_map]; exact hv3) q hqm
    rw [List.length_map] at hrt
    have hlen := take_len q m.length hv3
    have hrd : rd_L8 ((pre ++ q :: suf).map fun q => q.list m.length) (pre.length : Int) = q.list m.length := by
      rw [List.map_append, List.map_cons]
      have := rdL8 (pre.map fun q => q.list m.length) (q.list m.length) (suf.map fun q => q.list m.length)
      rw [List.length_map] at this
      exact this
    have hal := allows_f (l := q.list m.length) h hlen (by rw [hrt]; exact lists_rtok hv q hqm) k (by simp at hk; omega)
    rw [hrt] at hal
    rw [tensileref05_Allowed.l0, if_pos (by simp; omega), if_pos (by omega), hrd, hal, Option.bind_some, w_succ _ (by omega), List.filter_cons]
    have hrec := fun acc' ha => ih (pre ++ [q]) acc' k (by simp at hk; omega) (by simpa using hl) ha (fun x hx => hq x (by simp [hx]))
    simp only [snoc_len, List.append_assoc, List.singleton_append] at hrec
    cases hb : Hand.allowedB (r.map cRn) q with
    | true =>
      rw [if_pos rfl, if_pos (by omega), if_pos rfl, hrec _ (by simp; omega), List.map_cons, List.append_assoc]
      rfl
    | false =>
      rw [if_neg (by decide), if_neg (by decide), hrec _ (by simp; omega)]

theorem lists_len {m : List S54} (hv : Val m) : (Hand.lists (m.map cRg)).length ≤ 9261 := by
  have := lsFrom_len m hv m.length 0 ⟨0, 0, 0⟩ (by omega)
  have h3 : (21 : Nat) ^ m.length ≤ 21 ^ 3 := Nat.pow_le_pow_right (by omega) hv.1
  unfold Hand.lists
  rw [List.length_map]
  omega

theorem allowed_f {m : List S54} {r : List S81} (h : Hand.enterErr (m.map cRg) (r.map cRn) = 0) (k : Nat) (hk : 9300 ≤ k) :
    tensileref05_Allowed.f k m r = some ((Hand.good (m.map cRg) (r.map cRn)).map fun q => q.list m.length) := by
  have hv := val_of h
  have hlen := lists_len hv
  unfold tensileref05_Allowed.f
  rw [lists_f m hv k (by omega), Option.bind_some]
  have := allowed_l0 h (Hand.lists (m.map cRg)) [] [] k (by omega) (by simp; omega) (by simp) (fun q hq => hq)
  rw [List.nil_append, List.nil_append] at this
  exact this

theorem asked_f (m : List S54) (r : List S81) (p : List S56) (hs : Small m r p) (hf : ∀ s ∈ m, Fits54 s) (k : Nat) (hk : 9300 ≤ k) : tensilelaw05_asked.f k m r = some (Hand.possErr (m.map cRg) (r.map cRn)) := by
  unfold tensilelaw05_asked.f Hand.possErr
  rw [fault_f m r p hs hf k (by omega), Option.bind_some]
  by_cases h : Hand.enterErr (m.map cRg) (r.map cRn) = 0
  · rw [if_pos h, if_pos h, allowed_f h k hk, Option.bind_some, List.length_map]
    by_cases h2 : Hand.good (m.map cRg) (r.map cRn) = []
    · rw [if_pos h2, h2]; rfl
    · rw [if_neg h2, if_neg (by simpa using h2)]
  · rw [if_neg h, if_neg h]
end Go.Proofs.Ytdagijgoegkphaa.Pure

namespace Go.Proofs.Ytdagijgoegkphaa.Pure
open Go.RowKit Go.Proofs.YtdagijgoegkphaaW.PrintWords Go.Proofs.YtdagijgoegkphaaW.PrintLast Go.Proofs.YtdagijgoegkphaaW.PrintMore Go.Proofs.Ytdagijgoegkphaa.P
open Hand (Rg Sg Rn Nm Rt)

theorem hours_nn {rate stretch : Int} (h0 : 0 ≤ rate) (h2 : 0 ≤ stretch) (h : Hand.hoursV rate stretch ≠ -1) : 0 ≤ Hand.hoursV rate stretch := by
  unfold Hand.hoursV at h ⊢
  split
  · exact Int.le_refl _
  · rename_i hs
    rw [if_neg hs] at h
    split
    · rename_i hr; rw [if_pos hr] at h; exact absurd rfl h
    · exact Int.ediv_nonneg (by omega) h0
theorem hours_f (rate stretch : Int) (h0 : 0 ≤ rate) (h1 : rate ≤ 1000) (h2 : 0 ≤ stretch) (h3 : stretch ≤ 10000000000) : tensileref05_Hours.f rate stretch = some (Hand.hoursV rate stretch) := by
  unfold tensileref05_Hours.f Hand.hoursV
  by_cases hs : stretch = 0
  · rw [if_pos hs, if_pos hs]
  rw [if_neg hs, if_neg hs]
  by_cases hr : rate = 0
  · rw [if_pos hr, if_pos hr]
  rw [if_neg hr, if_neg hr, w_id (n := stretch + rate) (by omega) (by omega), w_id (n := stretch + rate - 1) (by omega) (by omega), Int.tdiv_eq_ediv_of_nonneg (by omega)]
  have hd : (stretch + rate - 1) / rate ≤ stretch + rate - 1 := Int.ediv_le_self _ (by omega)
  have hd0 : 0 ≤ (stretch + rate - 1) / rate := Int.ediv_nonneg (by omega) h0
  rw [w_id (by omega) (by omega)]

theorem life_l0 (n : Nat) (hn : n ≤ 3) (bd : Nat) (hbd : bd < n) (stretch : Int) (h2 : 0 ≤ stretch) (h3 : stretch ≤ 10000000000) : ∀ (suf pre : List Rt) (k : Nat) (x : Rg) (nv : Bool), suf.length + 1 ≤ k → (pre ++ suf).length ≤ 1000000 → (∀ q ∈ suf, q.ok) →
    (x = ⟨-1, -1⟩ ∨ 0 ≤ x.lo ∧ x.lo ≤ x.hi) →
    tensileref05_Life.l0 k ((pre ++ suf).map fun q => q.list n) (bd : Int) stretch nv (pre.length : Int) x.lo x.hi = some ((suf.foldl (Hand.lifeStep bd stretch) (x, nv)).1.lo, if (suf.foldl (Hand.lifeStep bd stretch) (x, nv)).2 = true then -1 else (suf.foldl (Hand.lifeStep bd stretch) (x, nv)).1.hi) := by
  intro suf
  induction suf with
  | nil =>
    intro pre k x nv hk _ _ _
    obtain ⟨k, rfl⟩ : ∃ q, k = q + 1 := ⟨k - 1, by omega⟩
    rw [tensileref05_Life.l0, if_neg (by simp)]
    cases nv <;> rfl
  | cons q suf ih =>
    intro pre k x nv hk hl hq hx
    obtain ⟨k, rfl⟩ : ∃ q, k = q + 1 := ⟨k - 1, by omega⟩
    have hl2 : pre.length + suf.length + 1 ≤ 1000000 := by simpa [Nat.add_assoc] using hl
    have hqo := hq q (by simp) bd (by omega)
    have hrd : rd_L8 ((pre ++ q :: suf).map fun q => q.list n) (pre.length : Int) = q.list n := by
      rw [List.map_append, List.map_cons]
      have := rdL8 (pre.map fun q => q.list n) (q.list n) (suf.map fun q => q.list n)
      rw [List.length_map] at this
      exact this
    have hrec := fun x' nv' hx' => ih (pre ++ [q]) k x' nv' (by simp at hk; omega) (by simpa using hl) (fun y hy => hq y (by simp [hy])) hx'
    simp only [snoc_len, List.append_assoc, List.singleton_append] at hrec
    rw [tensileref05_Life.l0, if_pos (by simp; omega), if_pos (by omega), if_pos (by omega), hrd, if_pos (by rw [take_len q n hn]; omega), take_rd q n bd hbd hn, hours_f _ _ hqo.1 hqo.2 h2 h3, Option.bind_some, w_succ _ (by omega), List.foldl_cons]
    unfold Hand.lifeStep
    dsimp only
    by_cases he : Hand.hoursV (q.get bd) stretch = -1
    · rw [if_pos (by omega), if_pos he]
      exact hrec x true hx
    · have hnn := hours_nn hqo.1 h2 he
      rw [if_neg (by omega), if_neg he]
      generalize Hand.hoursV (q.get bd) stretch = t at *
      rcases hx with rfl | ⟨hx0, hx1⟩
      · rw [if_pos (by decide)]
        have e1 : mx (-1) t = t := by unfold mx; split <;> omega
        have e2 : Hand.withV ⟨-1, -1⟩ t (((-1 : Int) == -1) && ((-1 : Int) == -1)) = ⟨t, t⟩ := rfl
        rw [e1, e2]
        exact hrec ⟨t, t⟩ nv (.inr ⟨hnn, Int.le_refl _⟩)
      · rw [if_neg (by omega)]
        have e2 : Hand.withV x t (x.lo == -1 && x.hi == -1) = ⟨Hand.mn x.lo t, Hand.mx x.hi t⟩ := by
          have : (x.lo == -1) = false := by simp; omega
          rw [this]
          rfl
        rw [e2]
        have hm : 0 ≤ Hand.mn x.lo t ∧ Hand.mn x.lo t ≤ Hand.mx x.hi t := by
          unfold Hand.mn Hand.mx
          split <;> split <;> omega
        have := hrec ⟨Hand.mn x.lo t, Hand.mx x.hi t⟩ nv (.inr hm)
        dsimp only at this
        unfold Hand.mn at this ⊢
        by_cases hlt : t < x.lo
        · rw [if_pos hlt] at this ⊢
          rw [if_pos hlt]
          exact this
        · rw [if_neg hlt] at this ⊢
          rw [if_neg hlt]
          exact this

theorem lists_rtok' {m : List S54} {r : List S81} (h : Hand.enterErr (m.map cRg) (r.map cRn) = 0) : ∀ q ∈ Hand.good (m.map cRg) (r.map cRn), q.ok := fun q hq => lists_rtok (val_of h) q (List.mem_filter.1 hq).1

theorem life_f {m : List S54} {r : List S81} (h : Hand.enterErr (m.map cRg) (r.map cRn) = 0) (bd : Nat) (hbd : bd < m.length) (stretch : Int) (h2 : 0 ≤ stretch) (h3 : stretch ≤ 10000000000) (k : Nat) (hk : 9300 ≤ k) :
    tensileref05_Life.f k ((Hand.good (m.map cRg) (r.map cRn)).map fun q => q.list m.length) (bd : Int) stretch = some ((Hand.lifeAcc bd stretch (Hand.good (m.map cRg) (r.map cRn))).1.lo, if (Hand.lifeAcc bd stretch (Hand.good (m.map cRg) (r.map cRn))).2 = true then -1 else (Hand.lifeAcc bd stretch (Hand.good (m.map cRg) (r.map cRn))).1.hi) := by
  have hv := val_of h
  have hlen := lists_len hv
  have hg : (Hand.good (m.map cRg) (r.map cRn)).length ≤ (Hand.lists (m.map cRg)).length := List.length_filter_le _ _
  exact life_l0 m.length hv.1 bd hbd stretch h2 h3 (Hand.good (m.map cRg) (r.map cRn)) [] k ⟨-1, -1⟩ false (by omega) (by simp; omega) (lists_rtok' h) (.inl rfl)

theorem awake_f' : tensilelaw05_awake.f = some true := rfl
theorem poss_enter0 {ms : List Rg} {rs : List Rn} (h : Hand.possErr ms rs = 0) : Hand.enterErr ms rs = 0 := Hand.poss_enter h

theorem CreepLives (m : List S54) (r : List S81) (band stretch : Int) (hm : ∀ s ∈ m, Fits54 s) (_ : ∀ s ∈ r, Fits81 s) (_ : (Lit.int .i64 band).wf = true) (_ : (Lit.int .i64 stretch).wf = true) : ∃ k, tensilelaw05_CreepLives.f k m r band stretch = some true := by
  refine ⟨20000, ?_⟩
  unfold tensilelaw05_CreepLives.f
  obtain ⟨b, hb, hb2⟩ := thin_f m r [] 20000 (by omega)
  rw [hb, Option.bind_some]
  cases b with
  | false => rw [if_neg (by decide), awake_f']; rfl
  | true =>
  rw [if_pos rfl]
  obtain ⟨h1, h2, _, h3⟩ := hb2 rfl
  have hsm : Small m r [] := ⟨h1, h2, by simp, h3⟩
  rw [material_f m (by omega) 20000 (by omega), Option.bind_some, runs_f r (by omega) h3 20000 (by omega), Option.bind_some]
  unfold creep_Life.f
  rw [Option.bind_some, asked_f m r [] hsm hm 20000 (by omega), Option.bind_some, toRg_c, toRn_c, w_id (by omega) (by omega), In_f, In_f]
  have hj1 : ∀ k c d x y, tensilelaw05_CreepLives.j0 (k + 2) r band stretch c d true m x y = tensilelaw05_CreepLives.j1 (k + 1) r band stretch c 2 m x y := fun k c d x y => by rw [tensilelaw05_CreepLives.j0, if_pos rfl]
  have hj0 : ∀ k c d x y, tensilelaw05_CreepLives.j0 (k + 2) r band stretch c d false m x y = tensilelaw05_CreepLives.j1 (k + 1) r band stretch c d m x y := fun k c d x y => by rw [tensilelaw05_CreepLives.j0, if_neg (by decide)]
  unfold Hand.lifeV
  rw [List.length_map]
  by_cases hp : Hand.possErr (m.map cRg) (r.map cRn) = 0
  · rw [if_pos hp, if_pos hp, Option.bind_some]
    have he := poss_enter0 hp
    by_cases hbd : 0 ≤ band ∧ band ≤ (m.length : Int) - 1
    case neg =>
      rw [decide_eq_false hbd, if_neg (by decide), if_neg (fun h => hbd h.1), hj1 19998, tensilelaw05_CreepLives.j1, if_neg (by decide), if_pos rfl, if_pos (by simp), awake_f']
      rfl
    rw [decide_eq_true hbd, if_pos rfl, Option.bind_some]
    by_cases hst : 0 ≤ stretch ∧ stretch ≤ 10000000000
    case neg =>
      rw [decide_eq_false hst, if_neg (fun h => hst h.2), show (!false) = true from rfl, hj1 19998, tensilelaw05_CreepLives.j1, if_neg (by decide), if_pos rfl, if_pos (by simp), awake_f']
      rfl
    rw [decide_eq_true hst, if_pos ⟨hbd, hst⟩, show (!true) = false from rfl, hj0 19998, tensilelaw05_CreepLives.j1, if_pos hp, if_pos rfl, allowed_f he 19998 (by omega), Option.bind_some]
    obtain ⟨bd, rfl⟩ := Int.eq_ofNat_of_zero_le hbd.1
    rw [Int.toNat_natCast, life_f he bd (by omega) stretch hst.1 hst.2 19998 (by omega), Option.bind_some]
    unfold tensilelaw05_to.f
    rw [Option.bind_some, if_pos (by simp), awake_f']
    rfl
  · rw [if_neg hp, if_neg hp, hj0 19998, tensilelaw05_CreepLives.j1, if_neg hp, if_pos rfl, if_pos (by simp), awake_f']
    rfl
end Go.Proofs.Ytdagijgoegkphaa.Pure



namespace Go.Proofs.Ytdagijgoegkphaa.creepLives
open Go.ChangeShapes Go.WideShapes Go.ChangeAt Go.RowKit Go.Proofs.YtdagijgoegkphaaW.PrintWords
theorem own : ownKnob Try.prog.godebug = none := by kernel_rfl
theorem laidOut : laidOutB Try.prog = true := by kernel_rfl
set_option maxRecDepth 100000 in
theorem lifted (os : Os) (started : os.Started) (H : Type) (enc : TypeId × Value → H) :
    ReturnsInHanded {} Try.checked os 6 .any (Rows.creepLivesSpec.pre6 enc Try.prog Try.f6 Rows.creepLivesRow.domain false) (Rows.creepLivesSpec.post enc Try.prog Try.f6 false true false false) := by
  refine returnsInHanded_of_change_sized (C := Try.checked) own started (by kernel_rfl) Try.func6
    (ChangeSpec.witness6 (enc := enc) (C := Try.checked) false ⟨#[], #[.agg #[.slice none 0 0], .slice none 0 0, .int .i64 0, .int .i64 0], []⟩ 8 (by kernel_rfl) (by kernel_rfl) (by kernel_rfl) (by kernel_rfl)) ?_
  intro W base args ds gs before hval0 hW hcnd hsz0 _
  have hval : ∀ (j : Nat) t v, Try.f6.params[j]? = some t → args[j]? = some v → Value.okWide Try.prog W .any base t v := hval0
  have hW' := hW
  obtain ⟨p, q, hA0, hV, rfl, hfz, hnd⟩ := hW
  have hA : DataW.TrodAll enc Try.prog W 0 (fun _ => true) true Try.f6.params.toList args.toList ds p := hA0
  rw [Try.params6] at hA hval
  obtain ⟨v0, vs0, d0, ds0, p0, q0, hargs, rfl, rfl, h0, r0⟩ := trodAll_cons hA
  obtain ⟨v1, vs1, d1, ds1, p1, q1, rfl, rfl, rfl, h1, r1⟩ := trodAll_cons r0
  obtain ⟨v2, vs2, d2, ds2, p2, q2, rfl, rfl, rfl, h2, r2⟩ := trodAll_cons r1
  obtain ⟨v3, vs3, d3, ds3, p3, q3, rfl, rfl, rfl, h3, r3⟩ := trodAll_cons r2
  obtain ⟨rfl, rfl, rfl⟩ := trodAll_nil r3
  obtain rfl : args = #[v0, v1, v2, v3] := by cases args; simp_all
  obtain ⟨rfl, rfl⟩ := trodVars_none hV
  have k0 := h0
  have lt0 : ∀ x ∈ p0, x.block < W.heap.size := by obtain ⟨m, hm⟩ := k0; exact DataW.trod_lt m _ _ _ hm
  obtain ⟨cs0, rfl, _⟩ := okWide_struct Try.underlying24 (hval 0 24 v0 rfl rfl)
  obtain ⟨A0, c0, l0, e0, hc0, hC0, y0⟩ : ∃ (A : Option Addr) (cap : Nat) (l : List P.S54), cs0 = #[.slice A l.length cap] ∧ l.length ≤ cap ∧ Kd.C P.k54 W A l.length l ∧ ∀ s ∈ l, P.Fits54 s := by
    obtain ⟨fuel, hf⟩ := h0
    obtain ⟨A, cap, l, e, h2, h3, h4⟩ := P.open24 hf
    exact ⟨A, cap, l, Array.toList_inj.1 e, h2, h3, h4⟩
  subst e0
  have k1 := h1
  have lt1 : ∀ x ∈ p1, x.block < W.heap.size := by obtain ⟨m, hm⟩ := k1; exact DataW.trod_lt m _ _ _ hm
  obtain ⟨A1, len1, c1, rfl⟩ := okWide_slice Try.underlying25 (hval 1 25 v1 rfl rfl)
  obtain ⟨l1, rfl, hc1, hC1, y1⟩ : ∃ l : List P.S81, len1 = l.length ∧ l.length ≤ c1 ∧ Kd.C P.k81 W A1 l.length l ∧ ∀ s ∈ l, P.Fits81 s := by
    obtain ⟨fuel, hf⟩ := h1
    obtain ⟨A, cap, l, e, h1, h2, h3⟩ := P.open25 hf
    simp [Value.cells] at e
    obtain ⟨rfl, rfl, rfl⟩ := e
    exact ⟨l, rfl, h1, h2, h3⟩
  obtain ⟨a2, rfl, rfl, rfl, w2⟩ := open_int Try.underlying3 (hval 2 3 v2 rfl rfl) h2
  obtain ⟨a3, rfl, rfl, rfl, w3⟩ := open_int Try.underlying3 (hval 3 3 v3 rfl rfl) h3
  clear hA0 hval0 hsz0
  obtain ⟨k, hP⟩ := Pure.CreepLives l0 l1 a2 a3 y0 y1 w2 w3
  refine (P.tensilelaw05_CreepLives.calls k A0 c0 l0 A1 c1 l1 a2 a3 true W hC0 hc0 hC1 hc1 hP).mono fun e W' ⟨he, bel⟩ => ?_
  subst he
  exact ⟨_, rfl, _, _, _, [], _, [], hW', trodAll_mk1 (shut_bool Try.underlying4 _), (trodAll_cons_mk (Below.trod laidOut (by kernel_rfl) (of_decide_eq_true (by kernel_rfl)) k0 bel lt0) (trodAll_cons_mk (Below.trod laidOut (by kernel_rfl) (of_decide_eq_true (by kernel_rfl)) k1 bel lt1) (trodAll_cons_mk (shut_int Try.underlying3 w2) (trodAll_cons_mk (shut_int Try.underlying3 w3) trodAll_mk0)))), rfl, bel.frame _, fun h => by cases h⟩
theorem over : Rows.creepLivesRow.holds Try.pinned (OpenSpec.ofChange Rows.creepLivesSpec) :=
  OpenClaim.holds_of_wide 6 Try.f6 rfl rfl rfl rfl rfl rfl rfl ⟨rfl, rfl, rfl, rfl, rfl⟩ rfl rfl rfl rfl rfl (by kernel_rfl) Try.func6 (by kernel_rfl)
    (of_decide_eq_true (by kernel_rfl)) (by unfold Func.isWrapper; first | (rw [if_pos (by decide +kernel)]; kernel_rfl) | (rw [if_neg (by decide +kernel)]; exact ⟨rfl, rfl⟩))
    (fun os started H enc _ => lifted os started H enc)
theorem proved : Rows.CreepLivesSaid := over
end Go.Proofs.Ytdagijgoegkphaa.creepLives
namespace Go.Proofs.Ytdagijgoegkphaa
/-- The row, under a short name, for the claim. -/
theorem creepLives_holds : Rows.CreepLivesSaid := creepLives.proved
end Go.Proofs.Ytdagijgoegkphaa
#print axioms Go.Proofs.Ytdagijgoegkphaa.creepLives_holds
