/- The statement PlanMore: whatever the input (its guards are the law's own), the call returns true, and each argument reads as it did. -/
import Derived.Test.YtigpnafpdmdmhaaPlanMoreA
import Derived.Test.YtigpnafpdmdmhaaB1
import Derived.Test.YtigpnafpdmdmhaaB2
import Derived.Test.YtigpnafpdmdmhaaRows
import Derived.WalkKit
import Derived.ProofKit
import Derived.OpenShut
import Derived.ShutString
import Derived.ChangeOld
import Derived.Below
import Derived.SizedLaws
set_option linter.unusedVariables false
set_option linter.unusedSimpArgs false
namespace Go.Proofs.Ytigpnafpdmdmhaa.Ma
open Hand (Stg Cnt saysV tri lastDec fits drList drVal drLo cntW decided restW Valid)
open Go.RowKit

theorem w_mod (x : Int) : ∃ q : Int, wrap64 x = x + q * 18446744073709551616 := by
  unfold wrap64; exact ⟨-((x + 9223372036854775808) / 18446744073709551616), by omega⟩
theorem w_eq {x y : Int} (q : Int) (h : x = y + q * 18446744073709551616) : wrap64 x = wrap64 y := by
  subst h; unfold wrap64; omega
theorem w_add (x y : Int) : wrap64 (wrap64 x + wrap64 y) = wrap64 (x + y) := by
  obtain ⟨a, ha⟩ := w_mod x
  obtain ⟨b, hb⟩ := w_mod y
  exact w_eq (a + b) (by rw [ha, hb, Int.add_mul]; omega)
theorem w_mul (x y : Int) : wrap64 (wrap64 x * wrap64 y) = wrap64 (x * y) := by
  obtain ⟨a, ha⟩ := w_mod x
  obtain ⟨b, hb⟩ := w_mod y
  refine w_eq (a * wrap64 y + x * b) ?_
  rw [ha, Int.add_mul]
  conv => lhs; lhs; rw [hb, Int.mul_add]
  rw [Int.add_mul, ← Int.mul_assoc x b, Int.mul_right_comm a]
  omega
theorem w_mulr (x y : Int) : wrap64 (x * wrap64 y) = wrap64 (x * y) := by
  rw [Int.mul_comm, Hand.mul_mod, Int.mul_comm]
theorem w_id {x : Int} (h1 : -9223372036854775808 ≤ x) (h2 : x ≤ 9223372036854775807) : wrap64 x = x := by unfold wrap64; omega

theorem w_nat {x : Int} (n : Nat) (h : x = n) (hn : n ≤ 100000) : wrap64 x = n := by
  subst h
  exact w_id (by omega) (by omega)
theorem restW_rest (lot : Nat) : ∀ (l : List Stg) (t : Nat), restW lot t l = wrap64 (rest l (lot - t) : Int)
  | [], _ => by unfold restW rest wrap64; omega
  | s :: l, t => by
    rw [restW, restW_rest lot l, rest, tri_ch, w_mulr, Nat.sub_sub]
    simp

/-- Counts in the machine's words. -/
def wc (a p d : Nat) : Cnt := ⟨wrap64 (a : Int), wrap64 (p : Int), wrap64 (d : Int)⟩

theorem wc_zero : wc 0 0 0 = ⟨0, 0, 0⟩ := by
  have w0 : wrap64 ((0 : Nat) : Int) = 0 := by unfold wrap64; omega
  unfold wc
  rw [w0]
theorem add_wc (a p d m a' p' d' : Nat) : (wc a p d).add (wrap64 (m : Int)) (wc a' p' d') = wc (a + m * a') (p + m * p') (d + m * d') := by
  have h : ∀ x y : Nat, wrap64 (wrap64 (x : Int) + wrap64 (wrap64 (m : Int) * wrap64 (y : Int))) = wrap64 ((x + m * y : Nat) : Int) := fun x y => by
    rw [w_mul, w_add]; simp
  unfold Cnt.add wc
  simp only [h]

theorem foldl_wc (p x y z : Nat → Nat) : ∀ (m s a b c : Nat),
    (List.range' s m).foldl (fun o n => o.add (wrap64 (p n : Int)) (wc (x n) (y n) (z n))) (wc a b c) =
      wc (a + sm m (fun i => p (s + i) * x (s + i))) (b + sm m (fun i => p (s + i) * y (s + i))) (c + sm m (fun i => p (s + i) * z (s + i)))
  | 0, _, _, _, _ => rfl
  | m + 1, s, a, b, c => by
    rw [List.range'_succ, List.foldl_cons, add_wc, foldl_wc p x y z m (s + 1)]
    have h : ∀ q : Nat → Nat, ∀ v : Nat, v + p s * q s + sm m (fun i => p (s + 1 + i) * q (s + 1 + i)) = v + sm (m + 1) (fun i => p (s + i) * q (s + i)) := fun q v => by
      rw [sm_head, Nat.add_zero, Nat.add_assoc]
      congr 2
      exact sm_congr fun i _ => by rw [Nat.add_assoc, Nat.add_comm 1]
    rw [h, h, h]

theorem sm_split (f : Nat → Nat) (a : Nat) : ∀ m, sm (a + m) f = sm a f + sm m (fun i => f (a + i))
  | 0 => rfl
  | m + 1 => by rw [← Nat.add_assoc, sm, sm_split f a m, sm, Nat.add_assoc]
theorem sm_null {f : Nat → Nat} {k : Nat} (h : ∀ i, i < k → f i = 0) : sm k f = 0 := by
  induction k with
  | zero => rfl
  | succ k ih => rw [sm, ih (fun i hi => h i (by omega)), h k (by omega)]

theorem sw_dr (B g k : Nat) (H : Nat → Nat) : sm (min k B + 1 - (k - g)) (fun i => ch B (k - g + i) * ch g (k - (k - g + i)) * H (k - g + i)) = sw B g k H := by
  unfold sw
  have lo : ∀ n, n < k - g → ch B n * ch g (k - n) * H n = 0 := fun n hn => by rw [ch_above g (k - n) (by omega)]; simp
  have hi : ∀ n, B < n → ch B n * ch g (k - n) * H n = 0 := fun n hn => by rw [ch_above B n hn]; simp
  by_cases h : k - g ≤ min k B
  · obtain ⟨m, hm⟩ : ∃ m, k + 1 = (k - g) + ((min k B + 1 - (k - g)) + m) := ⟨k + 1 - (min k B + 1), by omega⟩
    conv => rhs; rw [hm, sm_split, sm_split]
    rw [sm_null (k := k - g) (fun i hi' => lo i hi'), sm_null (k := m) (fun i hi' => hi _ (by omega))]
    omega
  · rw [show min k B + 1 - (k - g) = 0 by omega]
    refine Eq.symm (sm_null fun i hi' => ?_)
    by_cases h1 : i < k - g
    · exact lo i h1
    · exact hi i (by omega)

theorem fold_sw (B g k : Nat) (x y z : Nat → Nat) : (List.range' (k - g) (min k B + 1 - (k - g))).foldl (fun o n => o.add (wrap64 ((ch B n * ch g (k - n) : Nat) : Int)) (wc (x n) (y n) (z n))) ⟨0, 0, 0⟩ = wc (sw B g k x) (sw B g k y) (sw B g k z) := by
  rw [← wc_zero, foldl_wc (fun n => ch B n * ch g (k - n)), ← sw_dr B g k x, ← sw_dr B g k y, ← sw_dr B g k z, Nat.zero_add, Nat.zero_add, Nat.zero_add]
theorem decided_wc (lot : Nat) (s : Stg) (l : List Stg) (tk f : Nat) (a p d : Nat) :
    decided lot s l tk (f : Int) (wc a p d) = wc
      (if (f : Int) ≤ s.accept then rest l (lot - tk) else if s.reject ≤ (f : Int) then 0 else a)
      (if (f : Int) ≤ s.accept then tk * rest l (lot - tk) else if s.reject ≤ (f : Int) then tk * rest l (lot - tk) else p)
      (if (f : Int) ≤ s.accept then rest l (lot - tk) else if s.reject ≤ (f : Int) then rest l (lot - tk) else d) := by
  have e : wrap64 ((tk : Int) * restW lot tk l) = wrap64 ((tk * rest l (lot - tk) : Nat) : Int) := by
    rw [restW_rest, w_mulr]; simp
  unfold decided saysV
  rw [e, restW_rest]
  have w0 : wrap64 ((0 : Nat) : Int) = 0 := by unfold wrap64; omega
  have n1 : ¬ ((2 : Int) = 1) := by decide
  have n2 : ¬ ((3 : Int) = 1) := by decide
  have n3 : ¬ ((3 : Int) = 2) := by decide
  by_cases h1 : (f : Int) ≤ s.accept
  · simp only [if_pos h1, wc]; rfl
  · by_cases h2 : s.reject ≤ (f : Int)
    · simp only [if_neg h1, if_pos h2, if_neg n1, wc, w0]; rfl
    · simp only [if_neg h1, if_neg h2, if_neg n2, if_neg n3]

theorem cntW_wc (lot bad : Nat) : ∀ (l : List Stg) (t b : Nat), cntW lot bad l t b = wc (cA l (lot - t) (bad - b) b t) (cP l (lot - t) (bad - b) b t) (cD l (lot - t) (bad - b) b t)
  | [], _, _ => wc_zero.symm
  | s :: l, t, b => by
    unfold cntW drList
    rw [List.foldl_map]
    have e : ∀ (o : Cnt) (n : Nat), o.add (drVal s.take.toNat (lot - t) (bad - b) n).2 (decided lot s l (t + s.take.toNat) ((b : Int) + (drVal s.take.toNat (lot - t) (bad - b) n).1) (cntW lot bad l (t + s.take.toNat) (b + (drVal s.take.toNat (lot - t) (bad - b) n).1.toNat)))
        = o.add (wrap64 ((ch (bad - b) n * ch (lot - t - (bad - b)) (s.take.toNat - n) : Nat) : Int)) (wc
          (if ((b + n : Nat) : Int) ≤ s.accept then rest l (lot - t - s.take.toNat) else if s.reject ≤ ((b + n : Nat) : Int) then 0 else cA l (lot - t - s.take.toNat) (bad - b - n) (b + n) (t + s.take.toNat))
          (if ((b + n : Nat) : Int) ≤ s.accept then (t + s.take.toNat) * rest l (lot - t - s.take.toNat) else if s.reject ≤ ((b + n : Nat) : Int) then (t + s.take.toNat) * rest l (lot - t - s.take.toNat) else cP l (lot - t - s.take.toNat) (bad - b - n) (b + n) (t + s.take.toNat))
          (if ((b + n : Nat) : Int) ≤ s.accept then rest l (lot - t - s.take.toNat) else if s.reject ≤ ((b + n : Nat) : Int) then rest l (lot - t - s.take.toNat) else cD l (lot - t - s.take.toNat) (bad - b - n) (b + n) (t + s.take.toNat))) := fun o n => by
      have h1 : (drVal s.take.toNat (lot - t) (bad - b) n).1 = (n : Int) := rfl
      have h2 : (drVal s.take.toNat (lot - t) (bad - b) n).2 = wrap64 ((ch (bad - b) n * ch (lot - t - (bad - b)) (s.take.toNat - n) : Nat) : Int) := by
        unfold drVal
        simp only [tri_ch]
        simp
      rw [h1, h2, Int.toNat_natCast, cntW_wc lot bad l, show (b : Int) + (n : Int) = ((b + n : Nat) : Int) by simp, decided_wc]
      simp only [Nat.sub_sub]
    rw [show (fun (x : Cnt) (y : Nat) => x.add (drVal s.take.toNat (lot - t) (bad - b) y).2 (decided lot s l (t + s.take.toNat) ((b : Int) + (drVal s.take.toNat (lot - t) (bad - b) y).1) (cntW lot bad l (t + s.take.toNat) (b + (drVal s.take.toNat (lot - t) (bad - b) y).1.toNat)))) = _ from funext fun o => funext fun n => e o n]
    exact fold_sw (bad - b) (lot - t - (bad - b)) s.take.toNat
      (fun n => if ((b + n : Nat) : Int) ≤ s.accept then rest l (lot - t - s.take.toNat) else if s.reject ≤ ((b + n : Nat) : Int) then 0 else cA l (lot - t - s.take.toNat) (bad - b - n) (b + n) (t + s.take.toNat))
      (fun n => if ((b + n : Nat) : Int) ≤ s.accept then (t + s.take.toNat) * rest l (lot - t - s.take.toNat) else if s.reject ≤ ((b + n : Nat) : Int) then (t + s.take.toNat) * rest l (lot - t - s.take.toNat) else cP l (lot - t - s.take.toNat) (bad - b - n) (b + n) (t + s.take.toNat))
      (fun n => if ((b + n : Nat) : Int) ≤ s.accept then rest l (lot - t - s.take.toNat) else if s.reject ≤ ((b + n : Nat) : Int) then rest l (lot - t - s.take.toNat) else cD l (lot - t - s.take.toNat) (bad - b - n) (b + n) (t + s.take.toNat))
termination_by l => l.length

/-- A valid plan's counts, for so many bad pieces: no number is too great for the machine. -/
theorem cnt_ok {lot : Nat} {l : List Stg} (h : Valid lot l) (bad : Nat) (hb : bad ≤ lot) :
    cntW lot bad l 0 0 = ⟨(cA l lot bad 0 0 : Int), (cP l lot bad 0 0 : Int), (rest l lot : Int)⟩ ∧ cA l lot bad 0 0 ≤ rest l lot ∧ cP l lot bad 0 0 ≤ tot l * rest l lot ∧ tot l ≤ lot ∧ 0 < rest l lot ∧ rest l lot ≤ 6430000000000000 := by
  have h1 : lot ≤ 30 := by have := h.hi; omega
  have hf : fits lot 0 l := by have := h.fit; rwa [Int.toNat_natCast] at this
  have h2 := rest_le l lot h1 h.len
  have h3 := cD_rest l lot bad 0 0 h.ne h.last hb
  have h4 := cA_le l lot bad 0 0
  have h5 := cP_le l lot bad 0 0 (tot l) (by omega)
  have h6 : tot l ≤ lot := by have := fits_tot l lot 0 (by omega) hf; omega
  have h7 := rest_pos l lot 0 hf lot (by omega)
  rw [h3] at h4 h5
  have h8 : tot l * rest l lot ≤ 30 * 6430000000000000 := Nat.mul_le_mul (by omega) h2
  refine ⟨?_, h4, h5, h6, h7, h2⟩
  rw [cntW_wc, Nat.sub_zero, Nat.sub_zero, h3]
  unfold wc
  rw [w_id (by omega) (by omega), w_id (by omega) (by omega), w_id (by omega) (by omega)]
end Go.Proofs.Ytigpnafpdmdmhaa.Ma

namespace Go.Proofs.Ytigpnafpdmdmhaa.Pure
open Go.RowKit Go.Proofs.Ytigpnafpdmdmhaa.P Go.Proofs.YtigpnafpdmdmhaaW.PrintWords
open Hand (Stg saysV fits lastDec Valid Cnt cntW shareV)
open Ma


theorem wakes_f : tensilelaw09_wakes.f = some true := rfl

theorem ready_f (a : Int) (l : List S57) (ha : Fits a) (hl : ∀ s ∈ l, Fits s.f0 ∧ Fits s.f1 ∧ Fits s.f2) (K : Nat) (hK : 30 ≤ K) :
    tensilelaw09_ready.f K a l = some (decide (l.length ≤ 5) && (Hand.checkPlan a (l.map cSt) == 0)) := by
  unfold tensilelaw09_ready.f tensilelaw09_Thin.f
  rw [Option.bind_some]
  by_cases h5 : l.length ≤ 5
  · have h5' : (l.length : Int) ≤ 5 := by omega
    rw [decide_eq_true h5, decide_eq_true h5', if_pos rfl, fault_f a l ha hl h5 K hK, Option.bind_some, Bool.true_and]
  · have h5' : ¬ (l.length : Int) ≤ 5 := by omega
    rw [decide_eq_false h5, decide_eq_false h5', if_neg (by decide), Bool.false_and]

theorem good_of (a : Int) (l : List S57) (hl : ∀ s ∈ l, Fits s.f0 ∧ Fits s.f1 ∧ Fits s.f2) (h : Hand.checkPlan a (l.map cSt) = 0) : good a 0 (-1) 0 (l.map cSt) := by
  classical
  unfold Hand.checkPlan at h
  split at h; · cases h
  split at h
  case isFalse => cases h
  rename_i h1
  obtain ⟨a1, a2, a3, a4⟩ := h1
  have := chk_good a a2 (l.map cSt) 0 ⟨0, -1, 0⟩ (by omega) (by omega) (by decide) (by decide) (fun s hs => by
    refine ⟨by simpa using List.all_eq_true.1 a4 s hs, ?_⟩
    obtain ⟨x, hx, rfl⟩ := List.mem_map.1 hs
    exact (fits_in (hl x hx).2.1).2) (fun e => absurd (by simp [e]) a3) (by decide)
  rw [h] at this
  by_cases hg : good a 0 (-1) 0 (l.map cSt)
  · exact hg
  · rw [if_neg hg] at this; cases this

theorem good_reject {lot : Int} : ∀ {l : List Stg} {t pa pr : Int}, good lot t pa pr l → ∀ s ∈ l, pr ≤ s.reject ∧ s.accept < s.reject
  | _ :: _, _, _, _, h, s, hs => by
    rcases List.mem_cons.1 hs with rfl | hs
    · exact ⟨h.2.1.2.2.2, h.2.1.2.1⟩
    · have h1 := good_reject h.2.2.2 s hs
      exact ⟨Int.le_trans h.2.1.2.2.2 h1.1, h1.2⟩
theorem good_take30 {lot : Int} : ∀ {l : List Stg} {t pa pr : Int}, 0 ≤ t → lot ≤ 30 → good lot t pa pr l → ∀ s ∈ l, 1 ≤ s.take ∧ s.take ≤ 30
  | _ :: _, _, _, _, h0, hl, h, s, hs => by
    have h1 := h.1
    rcases List.mem_cons.1 hs with rfl | hs
    · omega
    · exact good_take30 (by omega) hl h.2.2.2 s hs
theorem take30 {a : Int} {l : List S57} (ha : a ≤ 30) (h : good a 0 (-1) 0 (l.map cSt)) : ∀ s ∈ l, 1 ≤ s.f0 ∧ s.f0 ≤ 30 :=
  fun s hs => good_take30 (by omega) ha h (cSt s) (List.mem_map.2 ⟨s, hs, rfl⟩)

/-- What a share of a valid plan says. -/
theorem share_ok (sel : Cnt → Int) (a : Int) (ls : List Stg) (h0 : Hand.checkPlan a ls = 0) (bad : Int) (hb0 : 0 ≤ bad) (hb : bad ≤ a) (n : Nat) (hn : sel (cntW a.toNat bad.toNat ls 0 0) = n) (hn2 : n ≤ 30 * 6430000000000000) :
    shareV sel a ls bad = some (((n / Nat.gcd n (rest ls a.toNat) : Nat) : Int), ((rest ls a.toNat / Nat.gcd n (rest ls a.toNat) : Nat) : Int), 0) := by
  have hv := Hand.checkPlan_ok h0
  obtain ⟨lot, rfl⟩ : ∃ m : Nat, a = m := ⟨a.toNat, by omega⟩
  obtain ⟨b, rfl⟩ : ∃ m : Nat, bad = m := ⟨bad.toNat, by omega⟩
  rw [Int.toNat_natCast] at hn ⊢
  rw [Int.toNat_natCast] at hn
  obtain ⟨c1, c2, c3, c4, c5, c6⟩ := cnt_ok hv b (by omega)
  have ed : (cntW lot b ls 0 0).draws = (rest ls lot : Int) := by rw [c1]
  unfold shareV
  rw [if_pos h0, if_pos ⟨hb0, hb⟩, Int.toNat_natCast, Int.toNat_natCast, hn, ed]
  rw [if_pos ⟨by omega, by omega, by omega, by omega⟩, Int.toNat_natCast, Int.toNat_natCast]

theorem chance_ok (a : Int) (ls : List Stg) (h0 : Hand.checkPlan a ls = 0) (bad : Int) (hb0 : 0 ≤ bad) (hb : bad ≤ a) :
    shareV Cnt.accepts a ls bad = some (((cA ls a.toNat bad.toNat 0 0 / Nat.gcd (cA ls a.toNat bad.toNat 0 0) (rest ls a.toNat) : Nat) : Int), ((rest ls a.toNat / Nat.gcd (cA ls a.toNat bad.toNat 0 0) (rest ls a.toNat) : Nat) : Int), 0) := by
  have hv := Hand.checkPlan_ok h0
  obtain ⟨lot, rfl⟩ : ∃ m : Nat, a = m := ⟨a.toNat, by omega⟩
  obtain ⟨c1, c2, c3, c4, c5, c6⟩ := cnt_ok hv bad.toNat (by omega)
  refine share_ok Cnt.accepts _ ls h0 bad hb0 hb _ ?_ ?_
  · rw [Int.toNat_natCast, c1]
  · rw [Int.toNat_natCast]
    omega

theorem mean_ok (a : Int) (ls : List Stg) (h0 : Hand.checkPlan a ls = 0) (bad : Int) (hb0 : 0 ≤ bad) (hb : bad ≤ a) :
    shareV Cnt.pieces a ls bad = some (((cP ls a.toNat bad.toNat 0 0 / Nat.gcd (cP ls a.toNat bad.toNat 0 0) (rest ls a.toNat) : Nat) : Int), ((rest ls a.toNat / Nat.gcd (cP ls a.toNat bad.toNat 0 0) (rest ls a.toNat) : Nat) : Int), 0) := by
  have hv := Hand.checkPlan_ok h0
  obtain ⟨lot, rfl⟩ : ∃ m : Nat, a = m := ⟨a.toNat, by omega⟩
  obtain ⟨c1, c2, c3, c4, c5, c6⟩ := cnt_ok hv bad.toNat (by omega)
  have h30 := hv.hi
  have h8 : tot ls * rest ls lot ≤ 30 * 6430000000000000 := Nat.mul_le_mul (by omega) c6
  refine share_ok Cnt.pieces _ ls h0 bad hb0 hb _ ?_ ?_
  · rw [Int.toNat_natCast, c1]
  · rw [Int.toNat_natCast]
    exact Nat.le_trans c3 h8

theorem share_bad (sel : Cnt → Int) (a : Int) (ls : List Stg) (h0 : Hand.checkPlan a ls = 0) (bad : Int) (hb : ¬ (0 ≤ bad ∧ bad ≤ a)) : shareV sel a ls bad = some (0, 0, 2) := by
  unfold shareV
  rw [if_pos h0, if_neg hb]
theorem share_err (sel : Cnt → Int) (a : Int) (ls : List Stg) (h0 : ¬ Hand.checkPlan a ls = 0) (bad : Int) : shareV sel a ls bad = some (0, 0, Hand.checkPlan a ls) := by
  unfold shareV
  rw [if_neg h0]


end Go.Proofs.Ytigpnafpdmdmhaa.Pure

namespace Go.Proofs.Ytigpnafpdmdmhaa.Ma
open Hand (Stg Cnt saysV tri lastDec fits Valid)

theorem cD_le : ∀ (l : List Stg) (L B f t : Nat), B ≤ L → cD l L B f t ≤ rest l L
  | [], _, _, _, _, _ => Nat.zero_le _
  | s :: l, L, B, f, t, hB => by
    have e : cD (s :: l) L B f t ≤ sw B (L - B) s.take.toNat fun _ => rest l (L - s.take.toNat) := by
      show cg _ _ (s :: l) L B f t ≤ _
      unfold cg
      refine sw_le fun n h1 h2 h3 => ?_
      split
      · exact Nat.le_refl _
      · split
        · exact Nat.le_refl _
        · exact cD_le l _ _ _ _ (by omega)
    rw [sw_const, show B + (L - B) = L by omega] at e
    exact e
theorem cA_rest (l : List Stg) (L B f t : Nat) (h : B ≤ L) : cA l L B f t ≤ rest l L := Nat.le_trans (cA_le l L B f t) (cD_le l L B f t h)

/-- What a stage's number of bad ones leaves of the acceptances. -/
def gA (s : Stg) (l : List Stg) (L B f t : Nat) : Nat :=
  if (f : Int) ≤ s.accept then rest l L else if s.reject ≤ (f : Int) then 0 else cA l L B f t
theorem cA_cons (s : Stg) (l : List Stg) (L B f t : Nat) : cA (s :: l) L B f t = sw B (L - B) s.take.toNat fun n => gA s l (L - s.take.toNat) (B - n) (f + n) (t + s.take.toNat) := rfl

theorem gA_f {s : Stg} {l : List Stg} {L B f t : Nat} (hB : B ≤ L) (h : cA l L B (f + 1) t ≤ cA l L B f t) : gA s l L B (f + 1) t ≤ gA s l L B f t := by
  unfold gA
  have h1 : ((f + 1 : Nat) : Int) = (f : Int) + 1 := by simp
  have h2 := cA_rest l L B (f + 1) t hB
  rw [h1]
  split
  · rw [if_pos (by omega)]; exact Nat.le_refl _
  · split
    · exact Nat.zero_le _
    · split
      · exact h2
      · rw [if_neg (by omega)]; exact h
theorem gA_b {s : Stg} {l : List Stg} {L B f t : Nat} (h : cA l L (B + 1) f t ≤ cA l L B f t) : gA s l L (B + 1) f t ≤ gA s l L B f t := by
  unfold gA
  split
  · exact Nat.le_refl _
  · split
    · exact Nat.le_refl _
    · exact h

theorem cA_mono : ∀ (l : List Stg) (L B f t : Nat), (B ≤ L → cA l L B (f + 1) t ≤ cA l L B f t) ∧ (B + 1 ≤ L → cA l L (B + 1) f t ≤ cA l L B f t)
  | [], _, _, _, _ => ⟨fun _ => Nat.le_refl _, fun _ => Nat.le_refl _⟩
  | s :: l, L, B, f, t => by
    constructor
    · intro hB
      rw [cA_cons, cA_cons]
      refine sw_le fun n h1 h2 h3 => ?_
      rw [Nat.add_right_comm f 1 n]
      exact gA_f (by omega) ((cA_mono l _ _ _ _).1 (by omega))
    · intro hB
      rw [cA_cons, cA_cons]
      generalize hk : s.take.toNat = k
      cases k with
      | zero =>
        rw [sw_zero, sw_zero]
        exact gA_b ((cA_mono l _ _ _ _).2 (by omega))
      | succ k =>
        obtain ⟨g, hg⟩ : ∃ g, L - B = g + 1 := ⟨L - B - 1, by omega⟩
        rw [show L - (B + 1) = g by omega, hg, sw_bad, sw_good]
        refine Nat.add_le_add (sw_le fun n h1 h2 h3 => ?_) (sw_le fun n h1 h2 h3 => ?_)
        · rw [show B + 1 - n = (B - n) + 1 by omega]
          exact gA_b ((cA_mono l _ _ _ _).2 (by omega))
        · rw [show B + 1 - (n + 1) = B - n by omega, ← Nat.add_assoc]
          exact gA_f (by omega) ((cA_mono l _ _ _ _).1 (by omega))

/-- With no bad piece. -/
theorem cA_none : ∀ (l : List Stg) (L t : Nat), l ≠ [] → lastDec l → (∀ s ∈ l, 0 < s.reject) → cA l L 0 0 t = rest l L
  | [], _, _, h, _, _ => absurd rfl h
  | s :: l, L, t, _, hd, hr => by
    have h0 : 0 < s.reject := hr s (by simp)
    have e : cA (s :: l) L 0 0 t = sw 0 (L - 0) s.take.toNat fun _ => rest l (L - s.take.toNat) := by
      rw [cA_cons]
      refine sw_congr fun n _ hn _ => ?_
      obtain rfl : n = 0 := by omega
      unfold gA
      split
      · rfl
      · rename_i h1
        rw [if_neg (by omega)]
        cases l with
        | nil =>
          have : s.reject ≤ s.accept + 1 := hd
          exact absurd h1 (by simp; omega)
        | cons s' l => exact cA_none (s' :: l) _ _ (by simp) hd (fun x hx => hr x (by simp [hx]))
    rw [e, sw_const, show 0 + (L - 0) = L by omega]
    rfl
theorem cA_rejected (s : Stg) (l : List Stg) (L t : Nat) (h1 : s.accept < 0) (h2 : s.reject ≤ 0) : cA (s :: l) L 0 0 t = 0 := by
  have e : cA (s :: l) L 0 0 t = sw 0 (L - 0) s.take.toNat fun _ => 0 := by
    rw [cA_cons]
    refine sw_congr fun n _ hn _ => ?_
    obtain rfl : n = 0 := by omega
    unfold gA
    rw [if_neg (by simp; omega), if_pos (by simpa using h2)]
  rw [e, sw_const, Nat.mul_zero]
/-- Each Accept is less than the pieces taken by then. -/
def strict : List Stg → Nat → Prop
  | [], _ => True
  | s :: l, t => s.accept < ((t + s.take.toNat : Nat) : Int) ∧ strict l (t + s.take.toNat)
/-- With bad ones alone. -/
theorem cA_all : ∀ (l : List Stg) (L t : Nat), fits (L + t) t l → strict l t → cA l L L t t = 0
  | [], _, _, _, _ => rfl
  | s :: l, L, t, hf, hs => by
    obtain ⟨f1, f2, f3⟩ := hf
    obtain ⟨h1, h2⟩ := hs
    have e : cA (s :: l) L L t t = sw L (L - L) s.take.toNat fun _ => 0 := by
      rw [cA_cons]
      refine sw_congr fun n h3 _ h4 => ?_
      obtain rfl : n = s.take.toNat := by omega
      unfold gA
      rw [if_neg (by omega)]
      split
      · rfl
      · exact cA_all l _ _ (by rw [show L - s.take.toNat + (t + s.take.toNat) = L + t by omega]; exact f3) h2
    rw [e, sw_const, Nat.mul_zero]

/-- The first stage always decides. -/
theorem cP_first (s : Stg) (l : List Stg) (L B t : Nat) (hB : B ≤ L) (h : s.reject = s.accept + 1) : cP (s :: l) L B 0 t = (t + s.take.toNat) * rest (s :: l) L := by
  have e : cP (s :: l) L B 0 t = sw B (L - B) s.take.toNat fun _ => (t + s.take.toNat) * rest l (L - s.take.toNat) := by
    show cg _ _ (s :: l) L B 0 t = _
    unfold cg
    refine sw_congr fun n _ _ _ => ?_
    split
    · rfl
    · rw [if_pos (by omega)]
  rw [e, sw_const, show B + (L - B) = L by omega, rest, ← Nat.mul_assoc, ← Nat.mul_assoc, Nat.mul_comm (ch L _)]
end Go.Proofs.Ytigpnafpdmdmhaa.Ma

namespace Go.Proofs.Ytigpnafpdmdmhaa.Pure
open Go.RowKit Go.Proofs.Ytigpnafpdmdmhaa.P Go.Proofs.YtigpnafpdmdmhaaW.PrintWords
open Hand (Stg saysV fits lastDec Valid Cnt cntW shareV)
open Ma

theorem least_f (a0 a1 b0 b1 : Nat) (h1 : 0 < a1) (h2 : 0 < b1) (h : a0 * b1 ≤ b0 * a1) : tensilelaw09_least.f (a0 : Int) (a1 : Int) (b0 : Int) (b1 : Int) = some true := by
  have p1 : (a1 : Int) > 0 := by omega
  have p2 : decide ((b1 : Int) > 0) = true := decide_eq_true (by omega)
  have p3 : ¬ ((a1 : Int) ≤ 0) := by omega
  have p4 : ¬ ((b1 : Int) ≤ 0) := by omega
  unfold tensilelaw09_least.f
  rw [if_pos p1, p2]
  split; · rfl
  rename_i c1
  split; · rfl
  rename_i c2
  split; · rfl
  rename_i c3
  split; · rfl
  rename_i c4
  first | rw [if_neg p3, if_neg p4] | skip
  have d1 : a0 ≤ 1000000000 := by omega
  have d2 : a1 ≤ 1000000000 := by omega
  have d3 : b0 ≤ 1000000000 := by omega
  have d4 : b1 ≤ 1000000000 := by omega
  have m1 : a0 * b1 ≤ 1000000000 * 1000000000 := Nat.mul_le_mul d1 d4
  have m2 : b0 * a1 ≤ 1000000000 * 1000000000 := Nat.mul_le_mul d3 d2
  rw [← Int.natCast_mul, ← Int.natCast_mul]
  generalize a0 * b1 = x at h m1
  generalize b0 * a1 = y at h m2
  clear d1 d2 d3 d4 c1 c2 c3 c4 p1 p2 p3 p4 h1 h2
  rw [w_id (x := (x : Int)) (by omega) (by omega), w_id (x := (y : Int)) (by omega) (by omega), decide_eq_true (by omega)]

/-- Fractions of one denominator, in their lowest terms. -/
theorem cross (A A' D : Nat) (hD : 0 < D) (h : A ≤ A') : (A / Nat.gcd A D) * (D / Nat.gcd A' D) ≤ (A' / Nat.gcd A' D) * (D / Nat.gcd A D) := by
  have g1 : 0 < Nat.gcd A D := Nat.gcd_pos_of_pos_right _ hD
  have g2 : 0 < Nat.gcd A' D := Nat.gcd_pos_of_pos_right _ hD
  have e1 := Nat.div_mul_cancel (Nat.gcd_dvd_left A D)
  have e2 := Nat.div_mul_cancel (Nat.gcd_dvd_right A D)
  have e3 := Nat.div_mul_cancel (Nat.gcd_dvd_left A' D)
  have e4 := Nat.div_mul_cancel (Nat.gcd_dvd_right A' D)
  generalize A / Nat.gcd A D = a at e1
  generalize D / Nat.gcd A D = d at e2
  generalize A' / Nat.gcd A' D = a' at e3
  generalize D / Nat.gcd A' D = d' at e4
  generalize Nat.gcd A D = g at e1 e2 g1
  generalize Nat.gcd A' D = g' at e3 e4 g2
  refine Nat.le_of_mul_le_mul_left (c := g * g') ?_ (Nat.mul_pos g1 g2)
  have x1 : g * g' * (a * d') = A * D := by rw [← e1, ← e4]; simp only [Nat.mul_comm, Nat.mul_left_comm, Nat.mul_assoc]
  have x2 : g * g' * (a' * d) = A' * D := by rw [← e3, ← e2]; simp only [Nat.mul_comm, Nat.mul_left_comm, Nat.mul_assoc]
  rw [x1, x2]
  exact Nat.mul_le_mul_right _ h

theorem lowest_le (A D : Nat) (h : A ≤ D) : A / Nat.gcd A D ≤ D / Nat.gcd A D := Nat.div_le_div_right h
theorem lowest_pos (A D : Nat) (h : 0 < D) : 1 ≤ D / Nat.gcd A D := Nat.div_pos (Nat.gcd_le_right _ h) (Nat.gcd_pos_of_pos_right _ h)

/-- Each Accept is less than the pieces taken by then. -/
def sB : List S57 → Nat → Bool
  | [], _ => true
  | s :: l, t => decide (s.f1 < ((t + s.f0.toNat : Nat) : Int)) && sB l (t + s.f0.toNat)
theorem sB_cons (s : S57) (l : List S57) (t : Nat) : sB (s :: l) t = (decide (s.f1 < ((t + s.f0.toNat : Nat) : Int)) && sB l (t + s.f0.toNat)) := rfl
theorem sB_strict : ∀ (l : List S57) (t : Nat), sB l t = true → strict (l.map cSt) t
  | [], _, _ => trivial
  | s :: l, t, h => by
    unfold sB at h
    rw [Bool.and_eq_true, decide_eq_true_eq] at h
    exact ⟨h.1, sB_strict l _ h.2⟩

theorem takes_l0 (a : Int) (rest : List S57) : ∀ (mid pre : List S57) (K t : Nat), mid.length < K → (pre ++ mid ++ rest).length ≤ 3 → (∀ s ∈ mid, 1 ≤ s.f0 ∧ s.f0 ≤ 30) → t + 30 * mid.length ≤ 1000 →
    tensilelaw09_takes.l0 K ((pre.length + mid.length : Nat) : Int) (t : Int) (pre.length : Int) a (pre ++ mid ++ rest) = some ((t + tot (mid.map cSt) : Nat) : Int)
  | [], pre, K, t, hK, hl, _, _ => by
    obtain ⟨K, rfl⟩ : ∃ m, K = m + 1 := ⟨K - 1, by omega⟩
    rw [tensilelaw09_takes.l0, if_neg (by simp)]
    rfl
  | s :: mid, pre, K, t, hK, hl, ht, hb => by
    obtain ⟨K, rfl⟩ : ∃ m, K = m + 1 := ⟨K - 1, by omega⟩
    have h0 := ht s (by simp)
    obtain ⟨n, hn⟩ : ∃ n : Nat, s.f0 = n := ⟨s.f0.toNat, by omega⟩
    have hl3 : pre.length + (mid.length + 1 + rest.length) ≤ 3 := by simp at hl; omega
    have ih := takes_l0 a rest mid (pre ++ [s]) K (t + n) (by simpa using hK) (by simp; omega) (fun x hx => ht x (by simp [hx])) (by simp at hb; omega)
    have e1 : wrap64 ((t : Int) + s.f0) = ((t + n : Nat) : Int) := w_nat _ (by rw [hn]; rfl) (by simp at hb; omega)
    have e2 : wrap64 ((pre.length : Int) + 1) = ((pre ++ [s]).length : Int) := w_nat _ (by simp) (by simp; omega)
    have e3 : pre ++ s :: mid ++ rest = pre ++ s :: (mid ++ rest) := by simp
    have e4 : pre ++ [s] ++ mid ++ rest = pre ++ s :: (mid ++ rest) := by simp
    have e5 : (pre ++ [s]).length + mid.length = pre.length + (s :: mid).length := by simp; omega
    rw [e4, e5] at ih
    rw [tensilelaw09_takes.l0, e3, if_pos (by simp; omega), if_pos (by simp; omega), if_pos (by omega), rd_pre, e1, e2, ih]
    have : tot ((s :: mid).map cSt) = n + tot (mid.map cSt) := by
      show s.f0.toNat + tot (mid.map cSt) = _
      rw [hn]; rfl
    rw [this, Nat.add_assoc]

theorem takes_f (a : Int) (mid rest : List S57) (K : Nat) (hK : 4 ≤ K) (hl : (mid ++ rest).length ≤ 3) (ht : ∀ s ∈ mid, 1 ≤ s.f0 ∧ s.f0 ≤ 30) :
    tensilelaw09_takes.f K a (mid ++ rest) (mid.length : Int) = some ((tot (mid.map cSt) : Nat) : Int) := by
  have hm : mid.length ≤ 3 := by rw [List.length_append] at hl; omega
  have := takes_l0 a rest mid [] K 0 (by omega) (by simpa using hl) ht (by omega)
  rw [tensilelaw09_takes.f]
  have e1 : ((([] : List S57).length : Nat) : Int) = 0 := rfl
  rw [List.length_nil, Nat.zero_add, List.nil_append, Nat.zero_add] at this
  exact this

theorem tot_snoc (l : List Stg) (s : Stg) : tot (l ++ [s]) = tot l + s.take.toNat := by
  induction l with
  | nil => simp [tot]
  | cons x l ih => rw [List.cons_append, tot, tot, ih, Nat.add_assoc]

/-- What the law says at last. -/
def moreEnd (e some_ : Int) (st : Bool) (ln n d : Int) : Option Bool :=
  if e = 0 then (if n = some_ then (if d = 1 then (if st = true then (if ln = 0 then some true else some false) else some true) else some false) else some false) else some false

theorem more_l1 (a e some_ ln ld n d : Int) : ∀ (suf pre : List S57) (K : Nat) (st : Bool), suf.length + 10 ≤ K → (pre ++ suf).length ≤ 3 → (∀ s ∈ pre ++ suf, 1 ≤ s.f0 ∧ s.f0 ≤ 30) →
    tensilelaw09_PlanMore.l1 K e some_ st (pre.length : Int) a (pre ++ suf) ln ld n d = moreEnd e some_ (st && sB suf (tot (pre.map cSt))) ln n d
  | [], pre, K, st, hK, hl, ht => by
    obtain ⟨K, rfl⟩ : ∃ m, K = m + 1 := ⟨K - 1, by omega⟩
    rw [tensilelaw09_PlanMore.l1, if_neg (by simp), wakes_f]
    unfold moreEnd sB
    rw [Bool.and_true]
    rfl
  | s :: suf, pre, K, st, hK, hl, ht => by
    obtain ⟨K, rfl⟩ : ∃ m, K = m + 1 := ⟨K - 1, by omega⟩
    have hl3 : pre.length + (suf.length + 1) ≤ 3 := by simpa [Nat.add_assoc] using hl
    have hs := ht s (by simp)
    have ih := fun st => more_l1 a e some_ ln ld n d suf (pre ++ [s]) K st (by simp at hK; omega) (by simpa using hl) (by simpa using ht)
    have e2 : wrap64 ((pre.length : Int) + 1) = ((pre ++ [s]).length : Int) := w_nat _ (by simp) (by simp; omega)
    have e3 : pre ++ [s] ++ suf = pre ++ s :: suf := by simp
    have e4 : tot ((pre ++ [s]).map cSt) = tot (pre.map cSt) + s.f0.toNat := by
      rw [List.map_append]
      exact tot_snoc _ _
    have tk := takes_f a (pre ++ [s]) suf K (by omega) (by simpa using hl) (fun x hx => ht x (by
      rw [List.mem_append] at hx ⊢
      rcases hx with h | h
      · exact .inl h
      · exact .inr (by simp at h; simp [h])))
    rw [e3] at ih tk
    rw [tensilelaw09_PlanMore.l1, if_pos (by simp; omega), e2]
    cases st with
    | false =>
      rw [if_neg (by decide), ih false, Bool.false_and, Bool.false_and]
    | true =>
      rw [if_pos rfl, if_pos (by omega), tk, Option.bind_some, rd_pre, ih, e4, sB_cons, Bool.true_and]

theorem more_l0 (a : Int) (l : List S57) (h0 : Hand.checkPlan a (l.map cSt) = 0) (hg : good a 0 (-1) 0 (l.map cSt)) (ht : ∀ s ∈ l, 1 ≤ s.f0 ∧ s.f0 ≤ 30) (lot : Nat) (hlot : a = lot) : ∀ (m b K : Nat) (ln ld : Int), b + m = lot + 1 → m + 30 ≤ K →
    (0 < b → ln = ((cA (l.map cSt) lot (b - 1) 0 0 / Nat.gcd (cA (l.map cSt) lot (b - 1) 0 0) (rest (l.map cSt) lot) : Nat) : Int) ∧ ld = ((rest (l.map cSt) lot / Nat.gcd (cA (l.map cSt) lot (b - 1) 0 0) (rest (l.map cSt) lot) : Nat) : Int)) →
    tensilelaw09_PlanMore.l0 K (b : Int) a l ln ld = some true
  | 0, b, K, ln, ld, hb, hK, hl => by
    obtain ⟨K, rfl⟩ : ∃ m, K = m + 2 := ⟨K - 2, by omega⟩
    have hv := Hand.checkPlan_ok h0
    have h30 : lot ≤ 30 := by have := hv.hi; omega
    have h1 : 1 ≤ lot := by have := hv.lo; omega
    have hlen : l.length ≤ 3 := by simpa using hv.len
    have hne : l ≠ [] := by rintro rfl; exact hv.ne rfl
    obtain ⟨hl1, hl2⟩ := hl (by omega)
    obtain rfl : b = lot + 1 := by omega
    rw [Nat.add_sub_cancel] at hl1 hl2
    subst hlot
    have hf : fits lot 0 (l.map cSt) := by have := hv.fit; rwa [Int.toNat_natCast] at this
    have hc := chance_ok (lot : Int) (l.map cSt) h0 0 (by omega) (by omega)
    rw [Int.toNat_natCast, show (0 : Int).toNat = 0 from rfl] at hc
    obtain ⟨c1, c2, c3, c4, c5, c6⟩ := cnt_ok hv 0 (by omega)
    rw [tensilelaw09_PlanMore.l0, if_neg (by omega), plan_f _ l (by omega) (K + 1) (by omega), Option.bind_some]
    unfold plan_Chance.f
    dsimp only
    rw [toStg_c61, hc, Option.bind_some, if_pos (by have := List.length_pos_iff.2 hne; omega)]
    dsimp only
    -- the end, told once
    have fin : ∀ some_ : Int, some_ = ((cA (l.map cSt) lot 0 0 0 / Nat.gcd (cA (l.map cSt) lot 0 0 0) (rest (l.map cSt) lot) : Nat) : Int) →
        ((rest (l.map cSt) lot / Nat.gcd (cA (l.map cSt) lot 0 0 0) (rest (l.map cSt) lot) : Nat) : Int) = 1 →
        tensilelaw09_PlanMore.j1 (K + 1) 0 some_ (lot : Int) l ln ld ((cA (l.map cSt) lot 0 0 0 / Nat.gcd (cA (l.map cSt) lot 0 0 0) (rest (l.map cSt) lot) : Nat) : Int) ((rest (l.map cSt) lot / Nat.gcd (cA (l.map cSt) lot 0 0 0) (rest (l.map cSt) lot) : Nat) : Int) = some true := fun some_ h2 h3 => by
      have := more_l1 (lot : Int) 0 some_ ln ld ((cA (l.map cSt) lot 0 0 0 / Nat.gcd (cA (l.map cSt) lot 0 0 0) (rest (l.map cSt) lot) : Nat) : Int) ((rest (l.map cSt) lot / Nat.gcd (cA (l.map cSt) lot 0 0 0) (rest (l.map cSt) lot) : Nat) : Int) l [] K true (by omega) (by simpa using hlen) (by simpa using ht)
      rw [List.length_nil, List.nil_append, List.map_nil] at this
      have ez : ((0 : Nat) : Int) = 0 := rfl
      rw [ez] at this
      rw [tensilelaw09_PlanMore.j1, this]
      unfold moreEnd
      rw [if_pos rfl, if_pos h2.symm, if_pos h3, Bool.true_and]
      by_cases hs : sB l (tot []) = true
      · have z : cA (l.map cSt) lot lot 0 0 = 0 := cA_all _ lot 0 (by rw [Nat.add_zero]; exact hf) (sB_strict l 0 hs)
        rw [if_pos hs, if_pos (by rw [hl1, z]; simp)]
      · rw [if_neg hs]
    obtain ⟨s, l', rfl⟩ := List.exists_cons_of_ne_nil hne
    have er : rd_T57 (s :: l') 0 = s := rfl
    rw [er]
    by_cases hr : s.f2 > 0
    · have hall : ∀ x ∈ (s :: l').map cSt, 0 < x.reject := by
        intro x hx
        rcases List.mem_cons.1 hx with rfl | hx
        · exact hr
        · exact Int.lt_of_lt_of_le hr (good_reject hg.2.2.2 x hx).1
      have z : cA ((s :: l').map cSt) lot 0 0 0 = rest ((s :: l').map cSt) lot := cA_none _ lot 0 hv.ne hv.last hall
      rw [if_pos hr]
      refine fin 1 ?_ ?_
      · rw [z, Nat.gcd_self, Nat.div_self c5]; rfl
      · rw [z, Nat.gcd_self, Nat.div_self c5]; rfl
    · have h2 : s.f1 < s.f2 := hg.2.1.2.1
      have z : cA ((s :: l').map cSt) lot 0 0 0 = 0 := cA_rejected (cSt s) (l'.map cSt) lot 0 (show s.f1 < 0 by omega) (show s.f2 ≤ 0 by omega)
      rw [if_neg hr]
      refine fin 0 ?_ ?_
      · rw [z]; simp
      · rw [z, Nat.gcd_zero_left, Nat.div_self c5]; rfl
  | m + 1, b, K, ln, ld, hb, hK, hl => by
    obtain ⟨K, rfl⟩ : ∃ m, K = m + 1 := ⟨K - 1, by omega⟩
    have hv := Hand.checkPlan_ok h0
    have h30 : lot ≤ 30 := by have := hv.hi; omega
    have hlen : l.length ≤ 3 := by simpa using hv.len
    have hbl : b ≤ lot := by omega
    have k1 : m + 30 ≤ K := by omega
    have k2 : b + 1 + m = lot + 1 := by omega
    have ew : wrap64 ((b : Int) + 1) = ((b + 1 : Nat) : Int) := w_nat _ (by rw [Int.natCast_add]; rfl) (by omega)
    subst hlot
    have hc := chance_ok (lot : Int) (l.map cSt) h0 (b : Int) (by omega) (by omega)
    rw [Int.toNat_natCast, Int.toNat_natCast] at hc
    have kk : (b : Int) ≤ (lot : Int) := by omega
    have k7 : 7 ≤ K := by omega
    have k5 : l.length ≤ 5 := by omega
    rw [tensilelaw09_PlanMore.l0, if_pos kk, plan_f _ l k5 K k7, Option.bind_some]
    unfold plan_Chance.f
    dsimp only
    rw [toStg_c61, hc, Option.bind_some, if_pos rfl]
    dsimp only
    obtain ⟨c1, c2, c3, c4, c5, c6⟩ := cnt_ok hv b hbl
    have ih := more_l0 _ l h0 hg ht lot rfl m (b + 1) K _ _ k2 k1 (fun _ => by rw [Nat.add_sub_cancel]; exact ⟨rfl, rfl⟩)
    have q1 := lowest_le _ _ c2
    have q2 := lowest_pos (cA (l.map cSt) lot b 0 0) _ c5
    have q3 : ∀ x : Nat, ¬ ((x : Int) < 0) := fun x => by omega
    have q4 : ¬ (((rest (l.map cSt) lot / Nat.gcd (cA (l.map cSt) lot b 0 0) (rest (l.map cSt) lot) : Nat) : Int) < 1) := fun h => Nat.lt_irrefl _ (Nat.lt_of_lt_of_le (Int.ofNat_lt.1 h) q2)
    have q5 : ¬ (((cA (l.map cSt) lot b 0 0 / Nat.gcd (cA (l.map cSt) lot b 0 0) (rest (l.map cSt) lot) : Nat) : Int) > ((rest (l.map cSt) lot / Nat.gcd (cA (l.map cSt) lot b 0 0) (rest (l.map cSt) lot) : Nat) : Int)) := fun h => Nat.lt_irrefl _ (Nat.lt_of_lt_of_le (Int.ofNat_lt.1 h) q1)
    rw [if_neg (q3 _), if_neg q4, if_neg q5, ew]
    by_cases hb0 : (b : Int) > 0
    · obtain ⟨hl1, hl2⟩ := hl (by omega)
      have mono := (cA_mono (l.map cSt) lot (b - 1) 0 0).2 (by omega)
      rw [show b - 1 + 1 = b by omega] at mono
      have hx := cross _ _ _ c5 mono
      have hle := least_f _ _ _ _ q2 (lowest_pos (cA (l.map cSt) lot (b - 1) 0 0) _ c5) hx
      rw [if_pos hb0, hl1, hl2, hle, Option.bind_some, if_pos rfl]
      exact ih
    · rw [if_neg hb0]
      exact ih

theorem PlanMore (a : Int) (l : List S57) (ha : Fits a) (hl : ∀ s ∈ l, Fits s.f0 ∧ Fits s.f1 ∧ Fits s.f2) : ∃ k, tensilelaw09_PlanMore.f k a l = some true := by
  refine ⟨100, ?_⟩
  rw [tensilelaw09_PlanMore.f, ready_f a l ha hl 100 (by omega), Option.bind_some]
  by_cases h : (decide (l.length ≤ 5) && (Hand.checkPlan a (l.map cSt) == 0)) = true
  · rw [if_pos h]
    rw [Bool.and_eq_true, beq_iff_eq] at h
    have hv := Hand.checkPlan_ok h.2
    have hg := good_of a l hl h.2
    obtain ⟨lot, rfl⟩ : ∃ n : Nat, a = n := ⟨a.toNat, by have := hv.lo; omega⟩
    have h30 : lot ≤ 30 := by have := hv.hi; omega
    exact more_l0 _ l h.2 hg (take30 hv.hi hg) lot rfl (lot + 1) 0 100 0 0 (by omega) (by omega) (fun h => absurd h (by omega))
  · rw [if_neg h, wakes_f]
    rfl
end Go.Proofs.Ytigpnafpdmdmhaa.Pure



namespace Go.Proofs.Ytigpnafpdmdmhaa.planMore
open Go.ChangeShapes Go.WideShapes Go.ChangeAt Go.RowKit Go.Proofs.YtigpnafpdmdmhaaW.PrintWords
theorem own : ownKnob Try.prog.godebug = none := by kernel_rfl
theorem laidOut : laidOutB Try.prog = true := by kernel_rfl
set_option maxRecDepth 100000 in
theorem lifted (os : Os) (started : os.Started) (H : Type) (enc : TypeId × Value → H) :
    ReturnsInHanded {} Try.checked os 7 .any (Rows.planMoreSpec.pre6 enc Try.prog Try.f7 Rows.planMoreRow.domain false) (Rows.planMoreSpec.post enc Try.prog Try.f7 false true false false) := by
  refine returnsInHanded_of_change_sized (C := Try.checked) own started (by kernel_rfl) Try.func7
    (ChangeSpec.witness6 (enc := enc) (C := Try.checked) false ⟨#[], #[.agg #[.int .i64 0, .slice none 0 0]], []⟩ 8 (by kernel_rfl) (by kernel_rfl) (by kernel_rfl) (by kernel_rfl)) ?_
  intro W base args ds gs before hval0 hW hcnd hsz0 _
  have hval : ∀ (j : Nat) t v, Try.f7.params[j]? = some t → args[j]? = some v → Value.okWide Try.prog W .any base t v := hval0
  have hW' := hW
  obtain ⟨p, q, hA0, hV, rfl, hfz, hnd⟩ := hW
  have hA : DataW.TrodAll enc Try.prog W 0 (fun _ => true) true Try.f7.params.toList args.toList ds p := hA0
  rw [Try.params7] at hA hval
  obtain ⟨v0, vs0, d0, ds0, p0, q0, hargs, rfl, rfl, h0, r0⟩ := trodAll_cons hA
  obtain ⟨rfl, rfl, rfl⟩ := trodAll_nil r0
  obtain rfl : args = #[v0] := by cases args; simp_all
  obtain ⟨rfl, rfl⟩ := trodVars_none hV
  have k0 := h0
  have lt0 : ∀ x ∈ p0, x.block < W.heap.size := by obtain ⟨m, hm⟩ := k0; exact DataW.trod_lt m _ _ _ hm
  obtain ⟨cs0, rfl, _⟩ := okWide_struct Try.underlying24 (hval 0 24 v0 rfl rfl)
  obtain ⟨a0, A0, c0, l0, e0, w0, hc0, hC0, y0⟩ : ∃ (a : Int) (A : Option Addr) (cap : Nat) (l : List P.S57), cs0 = #[.int .i64 a, .slice A l.length cap] ∧ P.Fits a ∧ l.length ≤ cap ∧ Kd.C P.k57 W A l.length l ∧ ∀ s ∈ l, P.Fits s.f0 ∧ P.Fits s.f1 ∧ P.Fits s.f2 := by
    obtain ⟨fuel, hf⟩ := h0
    obtain ⟨a, A, cap, l, e, h1, h2, h3, h4⟩ := P.open24 hf
    exact ⟨a, A, cap, l, Array.toList_inj.1 e, h1, h2, h3, h4⟩
  subst e0
  clear hA0 hval0 hsz0
  obtain ⟨k, hP⟩ := Pure.PlanMore a0 l0 w0 y0
  refine (P.tensilelaw09_PlanMore.calls k a0 A0 c0 l0 true W hC0 hc0 hP).mono fun e W' ⟨he, bel⟩ => ?_
  subst he
  exact ⟨_, rfl, _, _, _, [], _, [], hW', trodAll_mk1 (shut_bool Try.underlying4 _), (trodAll_cons_mk (Below.trod laidOut (by kernel_rfl) (of_decide_eq_true (by kernel_rfl)) k0 bel lt0) trodAll_mk0), rfl, bel.frame _, fun h => by cases h⟩
theorem over : Rows.planMoreRow.holds Try.pinned (OpenSpec.ofChange Rows.planMoreSpec) :=
  OpenClaim.holds_of_wide 7 Try.f7 rfl rfl rfl rfl rfl rfl rfl ⟨rfl, rfl, rfl, rfl, rfl⟩ rfl rfl rfl rfl rfl (by kernel_rfl) Try.func7 (by kernel_rfl)
    (of_decide_eq_true (by kernel_rfl)) (by unfold Func.isWrapper; first | (rw [if_pos (by decide +kernel)]; kernel_rfl) | (rw [if_neg (by decide +kernel)]; exact ⟨rfl, rfl⟩))
    (fun os started H enc _ => lifted os started H enc)
theorem proved : Rows.PlanMoreSaid := over
end Go.Proofs.Ytigpnafpdmdmhaa.planMore
namespace Go.Proofs.Ytigpnafpdmdmhaa
/-- The row, under a short name, for the claim. -/
theorem planMore_holds : Rows.PlanMoreSaid := planMore.proved
end Go.Proofs.Ytigpnafpdmdmhaa
#print axioms Go.Proofs.Ytigpnafpdmdmhaa.planMore_holds
