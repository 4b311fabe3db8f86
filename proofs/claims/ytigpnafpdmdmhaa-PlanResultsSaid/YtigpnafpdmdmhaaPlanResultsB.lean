/- The statement PlanResults: whatever the input (its guards are the law's own), the call returns true, and each argument reads as it did. -/
import Derived.Test.YtigpnafpdmdmhaaPlanResultsA
import Derived.Test.YtigpnafpdmdmhaaB1
import Derived.Test.YtigpnafpdmdmhaaB2
import Derived.Test.YtigpnafpdmdmhaaRows
import Derived.WalkKit
import Derived.ProofKit
import Derived.OpenShut
import Derived.ShutString
import Derived.ChangeOld
import Derived.Below
import Derived.SizedLaws
set_option linter.unusedVariables false
set_option linter.unusedSimpArgs false
namespace Go.Proofs.Ytigpnafpdmdmhaa.Ma
open Hand (Stg Cnt saysV tri lastDec fits drList drVal drLo cntW decided restW Valid)
open Go.RowKit

theorem w_mod (x : Int) : ∃ q : Int, wrap64 x = x + q * 18446744073709551616 := by
  unfold wrap64; exact ⟨-((x + 9223372036854775808) / 18446744073709551616), by omega⟩
theorem w_eq {x y : Int} (q : Int) (h : x = y + q * 18446744073709551616) : wrap64 x = wrap64 y := by
  subst h; unfold wrap64; omega
theorem w_add (x y : Int) : wrap64 (wrap64 x + wrap64 y) = wrap64 (x + y) := by
  obtain ⟨a, ha⟩ := w_mod x
  obtain ⟨b, hb⟩ := w_mod y
  exact w_eq (a + b) (by rw [ha, hb, Int.add_mul]; omega)
theorem w_mul (x y : Int) : wrap64 (wrap64 x * wrap64 y) = wrap64 (x * y) := by
  obtain ⟨a, ha⟩ := w_mod x
  obtain ⟨b, hb⟩ := w_mod y
  refine w_eq (a * wrap64 y + x * b) ?_
  rw [ha, Int.add_mul]
  conv => lhs; lhs; rw [hb, Int.mul_add]
  rw [Int.add_mul, ← Int.mul_assoc x b, Int.mul_right_comm a]
  omega
theorem w_mulr (x y : Int) : wrap64 (x * wrap64 y) = wrap64 (x * y) := by
  rw [Int.mul_comm, Hand.mul_mod, Int.mul_comm]
theorem w_id {x : Int} (h1 : -9223372036854775808 ≤ x) (h2 : x ≤ 9223372036854775807) : wrap64 x = x := by unfold wrap64; omega

theorem w_nat {x : Int} (n : Nat) (h : x = n) (hn : n ≤ 100000) : wrap64 x = n := by
  subst h
  exact w_id (by omega) (by omega)
theorem restW_rest (lot : Nat) : ∀ (l : List Stg) (t : Nat), restW lot t l = wrap64 (rest l (lot - t) : Int)
  | [], _ => by unfold restW rest wrap64; omega
  | s :: l, t => by
    rw [restW, restW_rest lot l, rest, tri_ch, w_mulr, Nat.sub_sub]
    simp

/-- Counts in the machine's words. -/
def wc (a p d : Nat) : Cnt := ⟨wrap64 (a : Int), wrap64 (p : Int), wrap64 (d : Int)⟩

theorem wc_zero : wc 0 0 0 = ⟨0, 0, 0⟩ := by
  have w0 : wrap64 ((0 : Nat) : Int) = 0 := by unfold wrap64; omega
  unfold wc
  rw [w0]
theorem add_wc (a p d m a' p' d' : Nat) : (wc a p d).add (wrap64 (m : Int)) (wc a' p' d') = wc (a + m * a') (p + m * p') (d + m * d') := by
  have h : ∀ x y : Nat, wrap64 (wrap64 (x : Int) + wrap64 (wrap64 (m : Int) * wrap64 (y : Int))) = wrap64 ((x + m * y : Nat) : Int) := fun x y => by
    rw [w_mul, w_add]; simp
  unfold Cnt.add wc
  simp only [h]

theorem foldl_wc (p x y z : Nat → Nat) : ∀ (m s a b c : Nat),
    (List.range' s m).foldl (fun o n => o.add (wrap64 (p n : Int)) (wc (x n) (y n) (z n))) (wc a b c) =
      wc (a + sm m (fun i => p (s + i) * x (s + i))) (b + sm m (fun i => p (s + i) * y (s + i))) (c + sm m (fun i => p (s + i) * z (s + i)))
  | 0, _, _, _, _ => rfl
  | m + 1, s, a, b, c => by
    rw [List.range'_succ, List.foldl_cons, add_wc, foldl_wc p x y z m (s + 1)]
    have h : ∀ q : Nat → Nat, ∀ v : Nat, v + p s * q s + sm m (fun i => p (s + 1 + i) * q (s + 1 + i)) = v + sm (m + 1) (fun i => p (s + i) * q (s + i)) := fun q v => by
      rw [sm_head, Nat.add_zero, Nat.add_assoc]
      congr 2
      exact sm_congr fun i _ => by rw [Nat.add_assoc, Nat.add_comm 1]
    rw [h, h, h]

theorem sm_split (f : Nat → Nat) (a : Nat) : ∀ m, sm (a + m) f = sm a f + sm m (fun i => f (a + i))
  | 0 => rfl
  | m + 1 => by rw [← Nat.add_assoc, sm, sm_split f a m, sm, Nat.add_assoc]
theorem sm_null {f : Nat → Nat} {k : Nat} (h : ∀ i, i < k → f i = 0) : sm k f = 0 := by
  induction k with
  | zero => rfl
  | succ k ih => rw [sm, ih (fun i hi => h i (by omega)), h k (by omega)]

theorem sw_dr (B g k : Nat) (H : Nat → Nat) : sm (min k B + 1 - (k - g)) (fun i => ch B (k - g + i) * ch g (k - (k - g + i)) * H (k - g + i)) = sw B g k H := by
  unfold sw
  have lo : ∀ n, n < k - g → ch B n * ch g (k - n) * H n = 0 := fun n hn => by rw [ch_above g (k - n) (by omega)]; simp
  have hi : ∀ n, B < n → ch B n * ch g (k - n) * H n = 0 := fun n hn => by rw [ch_above B n hn]; simp
  by_cases h : k - g ≤ min k B
  · obtain ⟨m, hm⟩ : ∃ m, k + 1 = (k - g) + ((min k B + 1 - (k - g)) + m) := ⟨k + 1 - (min k B + 1), by omega⟩
    conv => rhs; rw [hm, sm_split, sm_split]
    rw [sm_null (k := k - g) (fun i hi' => lo i hi'), sm_null (k := m) (fun i hi' => hi _ (by omega))]
    omega
  · rw [show min k B + 1 - (k - g) = 0 by omega]
    refine Eq.symm (sm_null fun i hi' => ?_)
    by_cases h1 : i < k - g
    · exact lo i h1
    · exact hi i (by omega)

theorem fold_sw (B g k : Nat) (x y z : Nat → Nat) : (List.range' (k - g) (min k B + 1 - (k - g))).foldl (fun o n => o.add (wrap64 ((ch B n * ch g (k - n) : Nat) : Int)) (wc (x n) (y n) (z n))) ⟨0, 0, 0⟩ = wc (sw B g k x) (sw B g k y) (sw B g k z) := by
  rw [← wc_zero, foldl_wc (fun n => ch B n * ch g (k - n)), ← sw_dr B g k x, ← sw_dr B g k y, ← sw_dr B g k z, Nat.zero_add, Nat.zero_add, Nat.zero_add]
theorem decided_wc (lot : Nat) (s : Stg) (l : List Stg) (tk f : Nat) (a p d : Nat) :
    decided lot s l tk (f : Int) (wc a p d) = wc
      (if (f : Int) ≤ s.accept then rest l (lot - tk) else if s.reject ≤ (f : Int) then 0 else a)
      (if (f : Int) ≤ s.accept then tk * rest l (lot - tk) else if s.reject ≤ (f : Int) then tk * rest l (lot - tk) else p)
      (if (f : Int) ≤ s.accept then rest l (lot - tk) else if s.reject ≤ (f : Int) then rest l (lot - tk) else d) := by
  have e : wrap64 ((tk : Int) * restW lot tk l) = wrap64 ((tk * rest l (lot - tk) : Nat) : Int) := by
    rw [restW_rest, w_mulr]; simp
  unfold decided saysV
  rw [e, restW_rest]
  have w0 : wrap64 ((0 : Nat) : Int) = 0 := by unfold wrap64; omega
  have n1 : ¬ ((2 : Int) = 1) := by decide
  have n2 : ¬ ((3 : Int) = 1) := by decide
  have n3 : ¬ ((3 : Int) = 2) := by decide
  by_cases h1 : (f : Int) ≤ s.accept
  · simp only [if_pos h1, wc]; rfl
  · by_cases h2 : s.reject ≤ (f : Int)
    · simp only [if_neg h1, if_pos h2, if_neg n1, wc, w0]; rfl
    · simp only [if_neg h1, if_neg h2, if_neg n2, if_neg n3]

theorem cntW_wc (lot bad : Nat) : ∀ (l : List Stg) (t b : Nat), cntW lot bad l t b = wc (cA l (lot - t) (bad - b) b t) (cP l (lot - t) (bad - b) b t) (cD l (lot - t) (bad - b) b t)
  | [], _, _ => wc_zero.symm
  | s :: l, t, b => by
    unfold cntW drList
    rw [List.foldl_map]
    have e : ∀ (o : Cnt) (n : Nat), o.add (drVal s.take.toNat (lot - t) (bad - b) n).2 (decided lot s l (t + s.take.toNat) ((b : Int) + (drVal s.take.toNat (lot - t) (bad - b) n).1) (cntW lot bad l (t + s.take.toNat) (b + (drVal s.take.toNat (lot - t) (bad - b) n).1.toNat)))
        = o.add (wrap64 ((ch (bad - b) n * ch (lot - t - (bad - b)) (s.take.toNat - n) : Nat) : Int)) (wc
          (if ((b + n : Nat) : Int) ≤ s.accept then rest l (lot - t - s.take.toNat) else if s.reject ≤ ((b + n : Nat) : Int) then 0 else cA l (lot - t - s.take.toNat) (bad - b - n) (b + n) (t + s.take.toNat))
          (if ((b + n : Nat) : Int) ≤ s.accept then (t + s.take.toNat) * rest l (lot - t - s.take.toNat) else if s.reject ≤ ((b + n : Nat) : Int) then (t + s.take.toNat) * rest l (lot - t - s.take.toNat) else cP l (lot - t - s.take.toNat) (bad - b - n) (b + n) (t + s.take.toNat))
          (if ((b + n : Nat) : Int) ≤ s.accept then rest l (lot - t - s.take.toNat) else if s.reject ≤ ((b + n : Nat) : Int) then rest l (lot - t - s.take.toNat) else cD l (lot - t - s.take.toNat) (bad - b - n) (b + n) (t + s.take.toNat))) := fun o n => by
      have h1 : (drVal s.take.toNat (lot - t) (bad - b) n).1 = (n : Int) := rfl
      have h2 : (drVal s.take.toNat (lot - t) (bad - b) n).2 = wrap64 ((ch (bad - b) n * ch (lot - t - (bad - b)) (s.take.toNat - n) : Nat) : Int) := by
        unfold drVal
        simp only [tri_ch]
        simp
      rw [h1, h2, Int.toNat_natCast, cntW_wc lot bad l, show (b : Int) + (n : Int) = ((b + n : Nat) : Int) by simp, decided_wc]
      simp only [Nat.sub_sub]
    rw [show (fun (x : Cnt) (y : Nat) => x.add (drVal s.take.toNat (lot - t) (bad - b) y).2 (decided lot s l (t + s.take.toNat) ((b : Int) + (drVal s.take.toNat (lot - t) (bad - b) y).1) (cntW lot bad l (t + s.take.toNat) (b + (drVal s.take.toNat (lot - t) (bad - b) y).1.toNat)))) = _ from funext fun o => funext fun n => e o n]
    exact fold_sw (bad - b) (lot - t - (bad - b)) s.take.toNat
      (fun n => if ((b + n : Nat) : Int) ≤ s.accept then rest l (lot - t - s.take.toNat) else if s.reject ≤ ((b + n : Nat) : Int) then 0 else cA l (lot - t - s.take.toNat) (bad - b - n) (b + n) (t + s.take.toNat))
      (fun n => if ((b + n : Nat) : Int) ≤ s.accept then (t + s.take.toNat) * rest l (lot - t - s.take.toNat) else if s.reject ≤ ((b + n : Nat) : Int) then (t + s.take.toNat) * rest l (lot - t - s.take.toNat) else cP l (lot - t - s.take.toNat) (bad - b - n) (b + n) (t + s.take.toNat))
      (fun n => if ((b + n : Nat) : Int) ≤ s.accept then rest l (lot - t - s.take.toNat) else if s.reject ≤ ((b + n : Nat) : Int) then rest l (lot - t - s.take.toNat) else cD l (lot - t - s.take.toNat) (bad - b - n) (b + n) (t + s.take.toNat))
termination_by l => l.length

/-- A valid plan's counts, for so many bad pieces: no number is too great for the machine. -/
theorem cnt_ok {lot : Nat} {l : List Stg} (h : Valid lot l) (bad : Nat) (hb : bad ≤ lot) :
    cntW lot bad l 0 0 = ⟨(cA l lot bad 0 0 : Int), (cP l lot bad 0 0 : Int), (rest l lot : Int)⟩ ∧ cA l lot bad 0 0 ≤ rest l lot ∧ cP l lot bad 0 0 ≤ tot l * rest l lot ∧ tot l ≤ lot ∧ 0 < rest l lot ∧ rest l lot ≤ 6430000000000000 := by
  have h1 : lot ≤ 30 := by have := h.hi; omega
  have hf : fits lot 0 l := by have := h.fit; rwa [Int.toNat_natCast] at this
  have h2 := rest_le l lot h1 h.len
  have h3 := cD_rest l lot bad 0 0 h.ne h.last hb
  have h4 := cA_le l lot bad 0 0
  have h5 := cP_le l lot bad 0 0 (tot l) (by omega)
  have h6 : tot l ≤ lot := by have := fits_tot l lot 0 (by omega) hf; omega
  have h7 := rest_pos l lot 0 hf lot (by omega)
  rw [h3] at h4 h5
  have h8 : tot l * rest l lot ≤ 30 * 6430000000000000 := Nat.mul_le_mul (by omega) h2
  refine ⟨?_, h4, h5, h6, h7, h2⟩
  rw [cntW_wc, Nat.sub_zero, Nat.sub_zero, h3]
  unfold wc
  rw [w_id (by omega) (by omega), w_id (by omega) (by omega), w_id (by omega) (by omega)]
end Go.Proofs.Ytigpnafpdmdmhaa.Ma

namespace Go.Proofs.Ytigpnafpdmdmhaa.Pure
open Go.RowKit Go.Proofs.Ytigpnafpdmdmhaa.P Go.Proofs.YtigpnafpdmdmhaaW.PrintWords
open Hand (Stg saysV fits lastDec Valid Cnt cntW shareV)
open Ma


theorem wakes_f : tensilelaw09_wakes.f = some true := rfl

theorem ready_f (a : Int) (l : List S57) (ha : Fits a) (hl : ∀ s ∈ l, Fits s.f0 ∧ Fits s.f1 ∧ Fits s.f2) (K : Nat) (hK : 30 ≤ K) :
    tensilelaw09_ready.f K a l = some (decide (l.length ≤ 5) && (Hand.checkPlan a (l.map cSt) == 0)) := by
  unfold tensilelaw09_ready.f tensilelaw09_Thin.f
  rw [Option.bind_some]
  by_cases h5 : l.length ≤ 5
  · have h5' : (l.length : Int) ≤ 5 := by omega
    rw [decide_eq_true h5, decide_eq_true h5', if_pos rfl, fault_f a l ha hl h5 K hK, Option.bind_some, Bool.true_and]
  · have h5' : ¬ (l.length : Int) ≤ 5 := by omega
    rw [decide_eq_false h5, decide_eq_false h5', if_neg (by decide), Bool.false_and]

theorem good_of (a : Int) (l : List S57) (hl : ∀ s ∈ l, Fits s.f0 ∧ Fits s.f1 ∧ Fits s.f2) (h : Hand.checkPlan a (l.map cSt) = 0) : good a 0 (-1) 0 (l.map cSt) := by
  classical
  unfold Hand.checkPlan at h
  split at h; · cases h
  split at h
  case isFalse => cases h
  rename_i h1
  obtain ⟨a1, a2, a3, a4⟩ := h1
  have := chk_good a a2 (l.map cSt) 0 ⟨0, -1, 0⟩ (by omega) (by omega) (by decide) (by decide) (fun s hs => by
    refine ⟨by simpa using List.all_eq_true.1 a4 s hs, ?_⟩
    obtain ⟨x, hx, rfl⟩ := List.mem_map.1 hs
    exact (fits_in (hl x hx).2.1).2) (fun e => absurd (by simp [e]) a3) (by decide)
  rw [h] at this
  by_cases hg : good a 0 (-1) 0 (l.map cSt)
  · exact hg
  · rw [if_neg hg] at this; cases this

theorem good_reject {lot : Int} : ∀ {l : List Stg} {t pa pr : Int}, good lot t pa pr l → ∀ s ∈ l, pr ≤ s.reject ∧ s.accept < s.reject
  | _ :: _, _, _, _, h, s, hs => by
    rcases List.mem_cons.1 hs with rfl | hs
    · exact ⟨h.2.1.2.2.2, h.2.1.2.1⟩
    · have h1 := good_reject h.2.2.2 s hs
      exact ⟨Int.le_trans h.2.1.2.2.2 h1.1, h1.2⟩
theorem good_take30 {lot : Int} : ∀ {l : List Stg} {t pa pr : Int}, 0 ≤ t → lot ≤ 30 → good lot t pa pr l → ∀ s ∈ l, 1 ≤ s.take ∧ s.take ≤ 30
  | _ :: _, _, _, _, h0, hl, h, s, hs => by
    have h1 := h.1
    rcases List.mem_cons.1 hs with rfl | hs
    · omega
    · exact good_take30 (by omega) hl h.2.2.2 s hs
theorem take30 {a : Int} {l : List S57} (ha : a ≤ 30) (h : good a 0 (-1) 0 (l.map cSt)) : ∀ s ∈ l, 1 ≤ s.f0 ∧ s.f0 ≤ 30 :=
  fun s hs => good_take30 (by omega) ha h (cSt s) (List.mem_map.2 ⟨s, hs, rfl⟩)

/-- What a share of a valid plan says. -/
theorem share_ok (sel : Cnt → Int) (a : Int) (ls : List Stg) (h0 : Hand.checkPlan a ls = 0) (bad : Int) (hb0 : 0 ≤ bad) (hb : bad ≤ a) (n : Nat) (hn : sel (cntW a.toNat bad.toNat ls 0 0) = n) (hn2 : n ≤ 30 * 6430000000000000) :
    shareV sel a ls bad = some (((n / Nat.gcd n (rest ls a.toNat) : Nat) : Int), ((rest ls a.toNat / Nat.gcd n (rest ls a.toNat) : Nat) : Int), 0) := by
  have hv := Hand.checkPlan_ok h0
  obtain ⟨lot, rfl⟩ : ∃ m : Nat, a = m := ⟨a.toNat, by omega⟩
  obtain ⟨b, rfl⟩ : ∃ m : Nat, bad = m := ⟨bad.toNat, by omega⟩
  rw [Int.toNat_natCast] at hn ⊢
  rw [Int.toNat_natCast] at hn
  obtain ⟨c1, c2, c3, c4, c5, c6⟩ := cnt_ok hv b (by omega)
  have ed : (cntW lot b ls 0 0).draws = (rest ls lot : Int) := by rw [c1]
  unfold shareV
  rw [if_pos h0, if_pos ⟨hb0, hb⟩, Int.toNat_natCast, Int.toNat_natCast, hn, ed]
  rw [if_pos ⟨by omega, by omega, by omega, by omega⟩, Int.toNat_natCast, Int.toNat_natCast]

theorem chance_ok (a : Int) (ls : List Stg) (h0 : Hand.checkPlan a ls = 0) (bad : Int) (hb0 : 0 ≤ bad) (hb : bad ≤ a) :
    shareV Cnt.accepts a ls bad = some (((cA ls a.toNat bad.toNat 0 0 / Nat.gcd (cA ls a.toNat bad.toNat 0 0) (rest ls a.toNat) : Nat) : Int), ((rest ls a.toNat / Nat.gcd (cA ls a.toNat bad.toNat 0 0) (rest ls a.toNat) : Nat) : Int), 0) := by
  have hv := Hand.checkPlan_ok h0
  obtain ⟨lot, rfl⟩ : ∃ m : Nat, a = m := ⟨a.toNat, by omega⟩
  obtain ⟨c1, c2, c3, c4, c5, c6⟩ := cnt_ok hv bad.toNat (by omega)
  refine share_ok Cnt.accepts _ ls h0 bad hb0 hb _ ?_ ?_
  · rw [Int.toNat_natCast, c1]
  · rw [Int.toNat_natCast]
    omega

theorem mean_ok (a : Int) (ls : List Stg) (h0 : Hand.checkPlan a ls = 0) (bad : Int) (hb0 : 0 ≤ bad) (hb : bad ≤ a) :
    shareV Cnt.pieces a ls bad = some (((cP ls a.toNat bad.toNat 0 0 / Nat.gcd (cP ls a.toNat bad.toNat 0 0) (rest ls a.toNat) : Nat) : Int), ((rest ls a.toNat / Nat.gcd (cP ls a.toNat bad.toNat 0 0) (rest ls a.toNat) : Nat) : Int), 0) := by
  have hv := Hand.checkPlan_ok h0
  obtain ⟨lot, rfl⟩ : ∃ m : Nat, a = m := ⟨a.toNat, by omega⟩
  obtain ⟨c1, c2, c3, c4, c5, c6⟩ := cnt_ok hv bad.toNat (by omega)
  have h30 := hv.hi
  have h8 : tot ls * rest ls lot ≤ 30 * 6430000000000000 := Nat.mul_le_mul (by omega) c6
  refine share_ok Cnt.pieces _ ls h0 bad hb0 hb _ ?_ ?_
  · rw [Int.toNat_natCast, c1]
  · rw [Int.toNat_natCast]
    exact Nat.le_trans c3 h8

theorem share_bad (sel : Cnt → Int) (a : Int) (ls : List Stg) (h0 : Hand.checkPlan a ls = 0) (bad : Int) (hb : ¬ (0 ≤ bad ∧ bad ≤ a)) : shareV sel a ls bad = some (0, 0, 2) := by
  unfold shareV
  rw [if_pos h0, if_neg hb]
theorem share_err (sel : Cnt → Int) (a : Int) (ls : List Stg) (h0 : ¬ Hand.checkPlan a ls = 0) (bad : Int) : shareV sel a ls bad = some (0, 0, Hand.checkPlan a ls) := by
  unfold shareV
  rw [if_neg h0]


end Go.Proofs.Ytigpnafpdmdmhaa.Pure

namespace Go.Proofs.Ytigpnafpdmdmhaa.Ma
open Hand (Stg saysV lastDec fits bads playGo)

/-! ### Where results stand -/
/-- Where results stand from a stage on: (true, how many stages follow, the pieces till that stage's end) if it is open; (false, the verdict, the pieces taken) if it is decided. -/
def st (rs : List Bool) : List Stg → Nat → Nat → Bool × Int × Nat
  | [], T, _ => (false, 0, T)
  | s :: l, T, B =>
    if rs.length < T + s.take.toNat then (true, (l.length : Int), T + s.take.toNat)
    else if saysV s ((B + bads ((rs.drop T).take s.take.toNat) : Nat) : Int) = 3 then st rs l (T + s.take.toNat) (B + bads ((rs.drop T).take s.take.toNat))
    else (false, saysV s ((B + bads ((rs.drop T).take s.take.toNat) : Nat) : Int), T + s.take.toNat)

theorem lastDec_ne {s : Stg} {l : List Stg} {b : Int} (hd : lastDec (s :: l)) (h : saysV s b = 3) : l ≠ [] := by
  rintro rfl
  exact Hand.lastDec_open hd h
theorem lastDec_tl {s : Stg} {l : List Stg} (h : lastDec (s :: l)) (hne : l ≠ []) : lastDec l := by
  cases l with
  | nil => exact absurd rfl hne
  | cons s' l => exact h
theorem saysV_two (s : Stg) (b : Int) (h : ¬ saysV s b = 3) : saysV s b = 1 ∨ saysV s b = 2 := by
  unfold saysV at h ⊢
  split
  · exact .inl rfl
  · rename_i h1
    rw [if_neg h1] at h
    split
    · exact .inr rfl
    · rename_i h2
      rw [if_neg h2] at h
      exact absurd rfl h

theorem playGo_st (rs : List Bool) (lot : Nat) : ∀ (l : List Stg) (T B : Nat) (v : Int), l ≠ [] → lastDec l → fits lot T l →
    playGo rs l T B v = if (st rs l T B).1 = true then (3, ((st rs l T B).2.2 : Int) - rs.length, 0) else if (st rs l T B).2.2 < rs.length then (0, 0, 2) else ((st rs l T B).2.1, 0, 0)
  | [], _, _, _, h, _, _ => absurd rfl h
  | s :: l, T, B, v, _, hd, hf => by
    obtain ⟨f1, f2, f3⟩ := hf
    have et : (T : Int) + s.take - rs.length = ((T + s.take.toNat : Nat) : Int) - rs.length := by omega
    rw [playGo, st]
    by_cases h1 : rs.length < T + s.take.toNat
    · rw [if_pos h1, if_pos h1, et]
      rfl
    · rw [if_neg h1, if_neg h1]
      by_cases h2 : saysV s ((B + bads ((rs.drop T).take s.take.toNat) : Nat) : Int) = 3
      · rw [if_pos h2, if_pos h2]
        exact playGo_st rs lot l _ _ _ (lastDec_ne hd h2) (lastDec_tl hd (lastDec_ne hd h2)) f3
      · rw [if_neg h2, if_neg h2]
        rfl

/-- The stretch of a list depends on no more than its beginning. -/
theorem seg_take (rs rs' : List Bool) (T t T' : Nat) (h : T + t ≤ T') (e : rs'.take T' = rs.take T') : (rs'.drop T).take t = (rs.drop T).take t := by
  have key : ∀ l : List Bool, (l.drop T).take t = ((l.take T').drop T).take t := fun l => by
    rw [List.drop_take, List.take_take, Nat.min_eq_left (by omega)]
  rw [key rs', key rs, e]

theorem st_dec (lot : Nat) : ∀ (l : List Stg) (rs : List Bool) (T B : Nat) (v : Int) (T' : Nat), l ≠ [] → lastDec l → fits lot T l → st rs l T B = (false, v, T') →
    (v = 1 ∨ v = 2) ∧ T' ≤ rs.length ∧ T < T' ∧ ∀ rs' : List Bool, T' ≤ rs'.length → rs'.take T' = rs.take T' → st rs' l T B = (false, v, T')
  | [], _, _, _, _, _, h, _, _, _ => absurd rfl h
  | s :: l, rs, T, B, v, T', _, hd, hf, he => by
    obtain ⟨f1, f2, f3⟩ := hf
    rw [st] at he
    by_cases h1 : rs.length < T + s.take.toNat
    · rw [if_pos h1] at he
      simp at he
    rw [if_neg h1] at he
    by_cases h2 : saysV s ((B + bads ((rs.drop T).take s.take.toNat) : Nat) : Int) = 3
    · rw [if_pos h2] at he
      obtain ⟨c1, c2, c3, c4⟩ := st_dec lot l rs _ _ v T' (lastDec_ne hd h2) (lastDec_tl hd (lastDec_ne hd h2)) f3 he
      refine ⟨c1, c2, by omega, fun rs' h3 h4 => ?_⟩
      have e := seg_take rs rs' T s.take.toNat T' (by omega) h4
      rw [st, if_neg (by omega), e, if_pos h2]
      exact c4 rs' h3 h4
    · rw [if_neg h2] at he
      injection he with _ he
      injection he with hv ht
      subst hv ht
      refine ⟨saysV_two _ _ h2, by omega, by omega, fun rs' h3 h4 => ?_⟩
      have e := seg_take rs rs' T s.take.toNat _ (Nat.le_refl _) h4
      rw [st, if_neg (by omega), e, if_neg h2]

theorem st_open (lot : Nat) : ∀ (l : List Stg) (rs : List Bool) (T B : Nat) (k : Int) (T' : Nat), l ≠ [] → lastDec l → fits lot T l → T ≤ rs.length → st rs l T B = (true, k, T') →
    rs.length < T' ∧ T' ≤ lot ∧ 0 ≤ k ∧ k < l.length ∧ ∀ ys : List Bool, rs.length + ys.length = T' → (∃ v, st (rs ++ ys) l T B = (false, v, T')) ∨ ∃ k' T'', st (rs ++ ys) l T B = (true, k', T'') ∧ k' < k
  | [], _, _, _, _, _, h, _, _, _, _ => absurd rfl h
  | s :: l, rs, T, B, k, T', _, hd, hf, hT, he => by
    obtain ⟨f1, f2, f3⟩ := hf
    rw [st] at he
    by_cases h1 : rs.length < T + s.take.toNat
    · rw [if_pos h1] at he
      injection he with _ he
      injection he with hk ht
      subst hk ht
      refine ⟨h1, f2, by omega, by simp; omega, fun ys hy => ?_⟩
      rw [st, if_neg (by rw [List.length_append]; omega)]
      by_cases h2 : saysV s ((B + bads (((rs ++ ys).drop T).take s.take.toNat) : Nat) : Int) = 3
      · rw [if_pos h2]
        have hne := lastDec_ne hd h2
        obtain ⟨s', l', rfl⟩ := List.exists_cons_of_ne_nil hne
        obtain ⟨g1, g2, g3⟩ := f3
        refine .inr ⟨(l'.length : Int), T + s.take.toNat + s'.take.toNat, ?_, by simp; omega⟩
        rw [st, if_pos (by rw [List.length_append]; omega)]
      · rw [if_neg h2]
        exact .inl ⟨_, rfl⟩
    rw [if_neg h1] at he
    by_cases h2 : saysV s ((B + bads ((rs.drop T).take s.take.toNat) : Nat) : Int) = 3
    · rw [if_pos h2] at he
      obtain ⟨c1, c2, c3, c4, c5⟩ := st_open lot l rs _ _ k T' (lastDec_ne hd h2) (lastDec_tl hd (lastDec_ne hd h2)) f3 (by omega) he
      refine ⟨c1, c2, c3, by simp; omega, fun ys hy => ?_⟩
      have e := seg_take rs (rs ++ ys) T s.take.toNat rs.length (by omega) (by rw [List.take_left, List.take_length])
      rw [st, if_neg (by rw [List.length_append]; omega), e, if_pos h2]
      exact c5 ys hy
    · rw [if_neg h2] at he
      simp at he

/-! ### Each stage turned round -/
def turn1 (rs cur : List Bool) (T t : Nat) : List Bool := cur.take T ++ ((rs.drop T).take t).reverse ++ cur.drop (T + t)
def turns (rs : List Bool) : List Stg → Nat → List Bool → List Bool
  | [], _, cur => cur
  | s :: l, T, cur => if T + s.take.toNat ≤ rs.length then turns rs l (T + s.take.toNat) (turn1 rs cur T s.take.toNat) else cur
def upto (rs : List Bool) : List Stg → Nat → Nat
  | [], T => T
  | s :: l, T => if T + s.take.toNat ≤ rs.length then upto rs l (T + s.take.toNat) else T

theorem turn1_length (rs cur : List Bool) (T t : Nat) (h : T + t ≤ rs.length) (hc : cur.length = rs.length) : (turn1 rs cur T t).length = rs.length := by
  unfold turn1
  simp
  omega

theorem turns_st (rs : List Bool) : ∀ (l : List Stg) (T B : Nat) (cur : List Bool), cur.length = rs.length → cur.drop T = rs.drop T → T ≤ rs.length →
    (turns rs l T cur).length = rs.length ∧ (turns rs l T cur).take T = cur.take T ∧ st (turns rs l T cur) l T B = st rs l T B
  | [], _, _, _, hc, _, _ => ⟨hc, rfl, rfl⟩
  | s :: l, T, B, cur, hc, hd, hT => by
    unfold turns
    by_cases h : T + s.take.toNat ≤ rs.length
    · rw [if_pos h]
      obtain ⟨t, ht⟩ : ∃ t, t = s.take.toNat := ⟨_, rfl⟩
      rw [← ht] at h ⊢
      have hl := turn1_length rs cur T t h hc
      have hlen : (cur.take T).length = T := by rw [List.length_take]; omega
      have hlen2 : (((rs.drop T).take t).reverse).length = t := by rw [List.length_reverse, List.length_take, List.length_drop]; omega
      have hd' : (turn1 rs cur T t).drop (T + t) = rs.drop (T + t) := by
        unfold turn1
        rw [List.drop_append_of_le_length (by rw [List.length_append, hlen, hlen2]; exact Nat.le_refl _), List.drop_of_length_le (by rw [List.length_append, hlen, hlen2]; exact Nat.le_refl _), List.nil_append, ← List.drop_drop, hd, List.drop_drop]
      obtain ⟨c1, c2, c3⟩ := turns_st rs l (T + t) (B + bads ((rs.drop T).take t)) (turn1 rs cur T t) hl hd' h
      have e2 : (turn1 rs cur T t).take (T + t) = cur.take T ++ ((rs.drop T).take t).reverse := by
        unfold turn1
        rw [List.take_append_of_le_length (by rw [List.length_append, hlen, hlen2]; exact Nat.le_refl _), List.take_of_length_le (by rw [List.length_append, hlen, hlen2]; exact Nat.le_refl _)]
      have eT : (turn1 rs cur T t).take T = cur.take T := by
        unfold turn1
        rw [List.append_assoc, List.take_append_of_le_length (by rw [hlen]; exact Nat.le_refl _), List.take_of_length_le (by rw [hlen]; exact Nat.le_refl _)]
      have e1 : (turns rs l (T + t) (turn1 rs cur T t)).take T = cur.take T := by
        have := congrArg (List.take T) c2
        rw [List.take_take, List.take_take, Nat.min_eq_left (by omega)] at this
        rw [this, eT]
      have e3 : ((turns rs l (T + t) (turn1 rs cur T t)).drop T).take t = ((rs.drop T).take t).reverse := by
        have : ((turns rs l (T + t) (turn1 rs cur T t)).drop T).take t = ((turns rs l (T + t) (turn1 rs cur T t)).take (T + t)).drop T := by
          rw [List.drop_take, Nat.add_sub_cancel_left]
        rw [this, c2, e2, List.drop_append_of_le_length (by rw [hlen]; exact Nat.le_refl _), List.drop_of_length_le (by rw [hlen]; exact Nat.le_refl _), List.nil_append]
      have e4 : bads (((turns rs l (T + t) (turn1 rs cur T t)).drop T).take t) = bads ((rs.drop T).take t) := by
        rw [e3]
        unfold bads
        exact List.countP_reverse
      refine ⟨c1, e1, ?_⟩
      rw [st, st, ← ht, c1, e4, c3]
    · rw [if_neg h]
      refine ⟨hc, rfl, ?_⟩
      rw [st, st, hc, if_pos (by omega), if_pos (by omega)]

theorem upto_st (lot : Nat) (rs : List Bool) : ∀ (l : List Stg) (T B : Nat) (v : Int), l ≠ [] → lastDec l → fits lot T l → st rs l T B = (false, v, rs.length) → upto rs l T = rs.length
  | [], _, _, _, h, _, _, _ => absurd rfl h
  | s :: l, T, B, v, _, hd, hf, he => by
    obtain ⟨f1, f2, f3⟩ := hf
    rw [st] at he
    unfold upto
    by_cases h1 : rs.length < T + s.take.toNat
    · rw [if_pos h1] at he
      simp at he
    rw [if_neg h1] at he
    rw [if_pos (by omega)]
    by_cases h2 : saysV s ((B + bads ((rs.drop T).take s.take.toNat) : Nat) : Int) = 3
    · rw [if_pos h2] at he
      exact upto_st lot rs l _ _ v (lastDec_ne hd h2) (lastDec_tl hd (lastDec_ne hd h2)) f3 he
    · rw [if_neg h2] at he
      injection he with _ he
      injection he with _ ht
      rw [ht]
      cases l with
      | nil => rfl
      | cons s' l =>
        obtain ⟨g1, _, _⟩ := f3
        unfold upto
        rw [if_neg (by omega)]
end Go.Proofs.Ytigpnafpdmdmhaa.Ma

namespace Go.Proofs.Ytigpnafpdmdmhaa.Pure
open Go.RowKit Go.Proofs.Ytigpnafpdmdmhaa.P Go.Proofs.YtigpnafpdmdmhaaW.PrintWords
open Hand (Stg saysV fits lastDec Valid bads playGo playV)
open Ma

theorem play_step {α : Type} (K : Nat) (a : Int) (l : List S57) (hK : 7 ≤ K) (h5 : l.length ≤ 5) (rs : List Bool) (hrs : rs.length ≤ 1000) (F : Int × Int × Int → Option α) :
    ((tensilelaw09_Plan.f K a l).bind fun bt => (some (([] : List Bool) : List Bool)).bind fun y => if y.length + rs.length < 140737488355328 then (plan_Play.f bt.1 bt.2 (y ++ rs)).bind F else none) = F (playV a (l.map cSt) rs) := by
  rw [plan_f a l h5 K hK, Option.bind_some, Option.bind_some, if_pos (by simp; omega)]
  unfold plan_Play.f
  rw [toStg_c61, Option.bind_some, List.nil_append]

/-- The end: the stages turned round are told the same. -/
theorem res_l4 (a : Int) (l : List S57) (rs cur : List Bool) (v : Int) (i T t : Nat) (hT : T + t ≤ rs.length) (hc : cur.length = rs.length) (hrs : rs.length ≤ 1000) (hi : i ≤ 10) : ∀ (d k K : Nat), k + d = t →
    tensilelaw09_PlanResults.l4 (K + d + 1) rs v (cur.take T ++ (((rs.drop T).take t).reverse).take k ++ cur.drop (T + k)) (T : Int) (i : Int) (t : Int) (k : Int) a l =
      tensilelaw09_PlanResults.l3 K rs v (turn1 rs cur T t) ((T + t : Nat) : Int) ((i + 1 : Nat) : Int) a l
  | 0, k, K, hd => by
    obtain rfl : k = t := by omega
    have hrev : (((rs.drop T).take k).reverse).take k = ((rs.drop T).take k).reverse := List.take_of_length_le (by rw [List.length_reverse, List.length_take]; omega)
    have hw2 : i + 1 ≤ 100000 := by omega
    have e1 : wrap64 ((T : Int) + (k : Int)) = ((T + k : Nat) : Int) := w_nat _ (by rw [Int.natCast_add]) (by omega)
    have e2 : wrap64 ((i : Int) + 1) = ((i + 1 : Nat) : Int) := w_nat _ (by rw [Int.natCast_add]; rfl) hw2
    rw [Nat.add_zero, tensilelaw09_PlanResults.l4, if_neg (Int.lt_irrefl _), e1, e2]
    rw [hrev]
    rfl
  | d + 1, k, K, hd => by
    have hk : k < t := by omega
    have hlen : (cur.take T).length = T := by rw [List.length_take]; omega
    have hseg : (((rs.drop T).take t).reverse).length = t := by rw [List.length_reverse, List.length_take, List.length_drop]; omega
    have hlen2 : ((((rs.drop T).take t).reverse).take k).length = k := by rw [List.length_take, hseg]; omega
    have hL : (cur.take T ++ (((rs.drop T).take t).reverse).take k ++ cur.drop (T + k)).length = rs.length := by
      rw [List.length_append, List.length_append, hlen, hlen2, List.length_drop]; omega
    have p1 : (k : Int) < (t : Int) := by omega
    have p2 : T + t - 1 - k < rs.length := by omega
    have p3 : T + k < rs.length := by omega
    have p4 : (T : Int) + (t : Int) = ((T + t : Nat) : Int) := by rw [Int.natCast_add]
    have p5 : ((T + t : Nat) : Int) - 1 = ((T + t - 1 : Nat) : Int) := by omega
    have p6 : ((T + t - 1 : Nat) : Int) - (k : Int) = ((T + t - 1 - k : Nat) : Int) := by omega
    have p7 : T + t ≤ 100000 ∧ T + t - 1 ≤ 100000 ∧ T + t - 1 - k ≤ 100000 ∧ T + k ≤ 100000 ∧ k + 1 ≤ 100000 := by omega
    have p8 : (0 : Int) ≤ ((T + t - 1 - k : Nat) : Int) := by omega
    have p9 : (0 : Int) ≤ ((T + k : Nat) : Int) := by omega
    have p10 : k + 1 + d = t := by omega
    have hset : (cur.take T ++ (((rs.drop T).take t).reverse).take k ++ cur.drop (T + k)).set (T + k) rs[T + t - 1 - k] = cur.take T ++ (((rs.drop T).take t).reverse).take (k + 1) ++ cur.drop (T + (k + 1)) := by
      have e5 : cur.drop (T + k) = cur[T + k]'(by omega) :: cur.drop (T + k + 1) := List.drop_eq_getElem_cons (by omega)
      have e6 : (((rs.drop T).take t).reverse).take (k + 1) = (((rs.drop T).take t).reverse).take k ++ [rs[T + t - 1 - k]] := by
        rw [List.take_succ_eq_append_getElem (by rw [hseg]; exact hk)]
        congr 2
        rw [List.getElem_reverse]
        simp only [List.length_take, List.length_drop, List.getElem_take, List.getElem_drop]
        congr 1
        omega
      rw [e5, e6, List.set_append_right _ _ (by rw [List.length_append, hlen, hlen2]; exact Nat.le_refl _), List.length_append, hlen, hlen2, Nat.sub_self, List.set_cons_zero]
      simp [Nat.add_assoc]
    have e1 : wrap64 (wrap64 (wrap64 ((T : Int) + (t : Int)) - 1) - (k : Int)) = ((T + t - 1 - k : Nat) : Int) := by
      rw [w_nat (T + t) p4 p7.1, w_nat (T + t - 1) p5 p7.2.1]
      exact w_nat _ p6 p7.2.2.1
    have e2 : wrap64 ((T : Int) + (k : Int)) = ((T + k : Nat) : Int) := w_nat _ (by rw [Int.natCast_add]) p7.2.2.2.1
    have e3 : wrap64 ((k : Int) + 1) = ((k + 1 : Nat) : Int) := w_nat _ (by rw [Int.natCast_add]; rfl) p7.2.2.2.2
    have e4 : rdOf false rs ((T + t - 1 - k : Nat) : Int) = rs[T + t - 1 - k] := by
      unfold rdOf
      rw [Int.toNat_natCast, List.getD_eq_getElem?_getD, List.getElem?_eq_getElem p2]
      rfl
    rw [← Nat.add_assoc K d 1, tensilelaw09_PlanResults.l4, if_pos p1, e1, if_pos p8, if_pos (Int.ofNat_lt.2 p2), e2, if_pos p9, hL, if_pos (Int.ofNat_lt.2 p3), e3, e4, Int.toNat_natCast]
    rw [hset]
    exact res_l4 a l rs cur v i T t hT hc hrs hi d (k + 1) K p10

theorem res_l3 (a : Int) (rs : List Bool) (hrs : rs.length ≤ 1000) (v : Int) (lot : Nat) (hlot : lot ≤ 30) : ∀ (suf pre : List S57) (cur : List Bool) (T K : Nat), 40 * suf.length + 20 ≤ K → (pre ++ suf).length ≤ 3 → cur.length = rs.length → T ≤ rs.length → fits lot T (suf.map cSt) →
    playV a ((pre ++ suf).map cSt) (turns rs (suf.map cSt) T cur) = (v, 0, 0) → upto rs (suf.map cSt) T = rs.length →
    tensilelaw09_PlanResults.l3 K rs v cur (T : Int) (pre.length : Int) a (pre ++ suf) = some true
  | [], pre, cur, T, K, hK, hl, hc, hT, _, hp, hu => by
    obtain ⟨K, rfl⟩ : ∃ m, K = m + 2 := ⟨K - 2, by omega⟩
    have hu' : T = rs.length := hu
    have hp' : playV a ((pre ++ []).map cSt) cur = (v, 0, 0) := hp
    rw [tensilelaw09_PlanResults.l3, if_neg (by simp), tensilelaw09_PlanResults.j10, if_neg (by decide), plan_f _ _ (by omega) K (by omega), Option.bind_some]
    unfold plan_Play.f
    rw [toStg_c61, hp', Option.bind_some, if_pos rfl, if_pos rfl, if_pos rfl, if_pos (by rw [hu']), wakes_f]
    rfl
  | s :: suf, pre, cur, T, K, hK, hl, hc, hT, hf, hp, hu => by
    obtain ⟨K, rfl⟩ : ∃ m, K = m + 2 := ⟨K - 2, by omega⟩
    obtain ⟨f1, f2, f3⟩ := hf
    have f1 : 1 ≤ s.f0 := f1
    obtain ⟨t, ht⟩ : ∃ n : Nat, s.f0 = n := ⟨s.f0.toNat, by omega⟩
    have htn : (cSt s).take.toNat = t := by show s.f0.toNat = t; rw [ht]; rfl
    rw [htn] at f2 f3
    have hl3 : pre.length + (suf.length + 1) ≤ 3 := by simpa [Nat.add_assoc] using hl
    have hK' : 40 * suf.length + 40 + 20 ≤ K + 2 := by simpa [Nat.mul_add] using hK
    have p1 : (pre.length : Int) < ((pre ++ s :: suf).length : Int) := by simp; omega
    have p2 : (0 : Int) ≤ (pre.length : Int) := by omega
    have p3 : pre.length ≤ 10 := by omega
    have q1 : T + t ≤ 100000 := by omega
    have q2 : (pre ++ s :: suf).length ≤ 5 := by simp; omega
    have q3 : 7 ≤ K := by omega
    rw [tensilelaw09_PlanResults.l3, if_pos p1, if_pos p2, rd_pre, ht, w_nat (x := (T : Int) + (t : Int)) (T + t) (by rw [Int.natCast_add]) q1, tensilelaw09_PlanResults.j10]
    rw [List.map_cons] at hp hu
    unfold turns at hp
    unfold upto at hu
    rw [htn] at hp hu
    by_cases h : T + t ≤ rs.length
    · rw [if_pos h] at hp hu
      have r1 : ((T + t : Nat) : Int) ≤ (rs.length : Int) := Int.ofNat_le.2 h
      obtain ⟨K', hK2⟩ : ∃ K', K = K' + t + 1 := ⟨K - t - 1, by omega⟩
      have := res_l4 a (pre ++ s :: suf) rs cur v pre.length T t h hc hrs p3 t 0 K' (by omega)
      rw [List.take_zero, List.append_nil, Nat.add_zero T, List.take_append_drop] at this
      have ez : ((0 : Nat) : Int) = 0 := rfl
      rw [ez] at this
      rw [decide_eq_true r1, if_pos rfl, if_pos p2, if_pos p1, rd_pre, ht, hK2, this]
      have ih := res_l3 a rs hrs v lot hlot suf (pre ++ [s]) (turn1 rs cur T t) (T + t) K' (by omega) (by simpa using hl) (turn1_length rs cur T t h hc) h f3 (by simpa using hp) hu
      have e3 : ((pre ++ [s]).length : Int) = ((pre.length + 1 : Nat) : Int) := by simp
      have e4 : pre ++ [s] ++ suf = pre ++ s :: suf := by simp
      rw [e3, e4] at ih
      exact ih
    · rw [if_neg h] at hp hu
      have r1 : ¬ ((T + t : Nat) : Int) ≤ (rs.length : Int) := fun g => h (Int.ofNat_le.1 g)
      rw [decide_eq_false r1, if_neg (by decide), plan_f _ _ q2 K q3, Option.bind_some]
      unfold plan_Play.f
      rw [toStg_c61]
      dsimp only
      rw [hp, Option.bind_some, if_pos rfl, if_pos rfl, if_pos rfl, if_pos (by rw [hu]), wakes_f]
      rfl

/-- What is asked of a plan here. -/
structure Rdy (a : Int) (l : List S57) (lot : Nat) : Prop where
  ok : Hand.checkPlan a (l.map cSt) = 0
  eq : a = lot
  le : lot ≤ 30
  ne : l.map cSt ≠ []
  last : lastDec (l.map cSt)
  fit : fits lot 0 (l.map cSt)
  len : l.length ≤ 3

theorem rdy_of {a : Int} {l : List S57} (h : Hand.checkPlan a (l.map cSt) = 0) : ∃ lot, Rdy a l lot := by
  have hv := Hand.checkPlan_ok h
  exact ⟨a.toNat, h, by have := hv.lo; omega, by have := hv.hi; omega, hv.ne, hv.last, hv.fit, by simpa using hv.len⟩

theorem playV_st {a : Int} {l : List S57} {lot : Nat} (h : Rdy a l lot) (rs : List Bool) :
    playV a (l.map cSt) rs = if (st rs (l.map cSt) 0 0).1 = true then (3, ((st rs (l.map cSt) 0 0).2.2 : Int) - rs.length, 0) else if (st rs (l.map cSt) 0 0).2.2 < rs.length then (0, 0, 2) else ((st rs (l.map cSt) 0 0).2.1, 0, 0) := by
  unfold playV
  rw [if_pos h.ok]
  exact playGo_st rs lot _ 0 0 0 h.ne h.last h.fit

/-- Decided: the end. -/
theorem res_j8 {a : Int} {l : List S57} {lot : Nat} (h : Rdy a l lot) (rs : List Bool) (hrs : rs.length ≤ 1000) (v : Int) (hs : st rs (l.map cSt) 0 0 = (false, v, rs.length)) (K : Nat) (hK : 150 ≤ K) :
    tensilelaw09_PlanResults.j8 K rs v false a l = some true := by
  obtain ⟨K, rfl⟩ : ∃ m, K = m + 1 := ⟨K - 1, by omega⟩
  have hlen := h.len
  rw [tensilelaw09_PlanResults.j8, if_neg (by decide), Option.bind_some, if_pos (by simp; omega), List.nil_append]
  obtain ⟨t1, _, t3⟩ := turns_st rs (l.map cSt) 0 0 rs rfl rfl (Nat.zero_le _)
  have hp : playV a (l.map cSt) (turns rs (l.map cSt) 0 rs) = (v, 0, 0) := by
    rw [playV_st h, t3, hs, t1, if_neg Bool.false_ne_true, if_neg (Nat.lt_irrefl _)]
  have hu := upto_st lot rs (l.map cSt) 0 0 v h.ne h.last h.fit hs
  exact res_l3 a rs hrs v lot h.le l [] rs 0 K (by omega) (by simpa using hlen) rfl (Nat.zero_le _) h.fit hp hu

theorem rem_range (x n : Nat) (hn : 0 < n) : (0 : Int) ≤ Int.tmod (x : Int) (n : Int) ∧ Int.tmod (x : Int) (n : Int) < (n : Int) := by
  have e : Int.tmod (x : Int) (n : Int) = ((x % n : Nat) : Int) := rfl
  have := Nat.mod_lt x hn
  rw [e]
  omega

/-- Pieces are laid behind the results, whatever the words tell; then they are played. -/
theorem res_l2 (a : Int) (l : List S57) (h5 : l.length ≤ 5) (ws : List Int) (n : Nat) (turn : Int) : ∀ (d k K : Nat) (rs : List Bool), k + d = n → rs.length + d ≤ 500 → n ≤ 100 → 7 ≤ K →
    ∃ ys : List Bool, ys.length = d ∧ tensilelaw09_PlanResults.l2 (K + d + 1) ws rs (n : Int) turn (k : Int) a l =
      if (playV a (l.map cSt) (rs ++ ys)).2.2 = 0 then tensilelaw09_PlanResults.l1 K ws (rs ++ ys) (playV a (l.map cSt) (rs ++ ys)).1 (playV a (l.map cSt) (rs ++ ys)).2.1 (wrap64 (turn + 1)) a l else none
  | 0, k, K, rs, hd, hr, hn, hK => by
    refine ⟨[], rfl, ?_⟩
    have p1 : ¬ ((k : Int) < (n : Int)) := by omega
    rw [Nat.add_zero, tensilelaw09_PlanResults.l2, if_neg p1, List.append_nil]
    exact play_step K a l hK h5 rs (by omega) _
  | d + 1, k, K, rs, hd, hr, hn, hK => by
    have p1 : (k : Int) < (n : Int) := by omega
    have p2 : k + rs.length ≤ 100000 ∧ k + 1 ≤ 100000 := by omega
    have p3 : rs.length < 140737488355328 := by omega
    have go : ∀ b : Bool, ∃ ys : List Bool, ys.length = d + 1 ∧ tensilelaw09_PlanResults.l2 (K + d + 1) ws (rs ++ [b]) (n : Int) turn ((k + 1 : Nat) : Int) a l =
        if (playV a (l.map cSt) (rs ++ ys)).2.2 = 0 then tensilelaw09_PlanResults.l1 K ws (rs ++ ys) (playV a (l.map cSt) (rs ++ ys)).1 (playV a (l.map cSt) (rs ++ ys)).2.1 (wrap64 (turn + 1)) a l else none := fun b => by
      obtain ⟨ys, h1, h2⟩ := res_l2 a l h5 ws n turn d (k + 1) K (rs ++ [b]) (by omega) (by rw [List.length_append]; simp; omega) hn hK
      refine ⟨b :: ys, by simp [h1], ?_⟩
      rw [List.append_assoc, List.singleton_append] at h2
      exact h2
    rw [← Nat.add_assoc K d 1, tensilelaw09_PlanResults.l2, if_pos p1, w_nat (x := (k : Int) + 1) (k + 1) (by rw [Int.natCast_add]; rfl) p2.2]
    by_cases hw : 0 < ws.length
    · have w1 : (ws.length : Int) > 0 := by omega
      have w2 : ¬ ((ws.length : Int) = 0) := by omega
      obtain ⟨r1, r2⟩ := rem_range (k + rs.length) ws.length hw
      rw [if_pos w1, if_neg w2, w_nat (x := (k : Int) + (rs.length : Int)) (k + rs.length) (by rw [Int.natCast_add]) p2.1, if_pos r1, if_pos r2, if_pos p3]
      exact go _
    · have w1 : ¬ ((ws.length : Int) > 0) := by omega
      rw [if_neg w1, if_pos p3]
      exact go _

theorem st_len {a : Int} {l : List S57} {lot : Nat} (h : Rdy a l lot) (rs : List Bool) (he : (playV a (l.map cSt) rs).2.2 = 0) :
    (∃ k T, st rs (l.map cSt) 0 0 = (true, k, T) ∧ playV a (l.map cSt) rs = (3, (T : Int) - rs.length, 0)) ∨ ∃ v, st rs (l.map cSt) 0 0 = (false, v, rs.length) ∧ (v = 1 ∨ v = 2) ∧ playV a (l.map cSt) rs = (v, 0, 0) := by
  have hp := playV_st h rs
  rcases hst : st rs (l.map cSt) 0 0 with ⟨b, k, T⟩
  rw [hst] at hp
  cases b with
  | true => exact .inl ⟨k, T, rfl, hp⟩
  | false =>
    obtain ⟨c1, c2, c3, _⟩ := st_dec lot _ rs 0 0 k T h.ne h.last h.fit hst
    rw [if_neg Bool.false_ne_true] at hp
    dsimp only at hp
    by_cases hlt : T < rs.length
    · rw [if_pos hlt] at hp
      rw [hp] at he
      exact absurd he (by decide)
    · rw [if_neg hlt] at hp
      obtain rfl : T = rs.length := by omega
      exact .inr ⟨k, rfl, c1, hp⟩

/-- Results that may be gone on with, or are decided. -/
theorem res_l1 {a : Int} {l : List S57} {lot : Nat} (h : Rdy a l lot) (ws : List Int) : ∀ (m : Nat) (turn : Nat) (rs : List Bool) (K : Nat), turn + m = 3 → rs.length + 40 * m ≤ 400 → 60 * m + 200 ≤ K → (playV a (l.map cSt) rs).2.2 = 0 →
    (∀ k T, st rs (l.map cSt) 0 0 = (true, k, T) → k < m) →
    tensilelaw09_PlanResults.l1 K ws rs (playV a (l.map cSt) rs).1 (playV a (l.map cSt) rs).2.1 (turn : Int) a l = some true := by
  intro m
  induction m with
  | zero =>
    intro turn rs K ht hr hK he hm
    obtain ⟨K, rfl⟩ : ∃ m, K = m + 2 := ⟨K - 2, by omega⟩
    rcases st_len h rs he with ⟨k, T, hs, hp⟩ | ⟨v, hs, hv, hp⟩
    · have := hm k T hs
      have := (st_open lot _ rs 0 0 k T h.ne h.last h.fit (Nat.zero_le _) hs).2.2.1
      omega
    · have p1 : ¬ ((turn : Int) < 3) := by omega
      rw [hp, tensilelaw09_PlanResults.l1, if_neg p1, tensilelaw09_PlanResults.j5, if_neg (by decide)]
      dsimp only
      have := res_j8 h rs (by omega) v hs K (by omega)
      rcases hv with rfl | rfl
      · rw [if_pos rfl]; exact this
      · rw [if_neg (by decide), if_pos rfl]; exact this
  | succ m ih =>
    intro turn rs K ht hr hK he hm
    obtain ⟨K, rfl⟩ : ∃ m, K = m + 3 := ⟨K - 3, by omega⟩
    have p1 : (turn : Int) < 3 := by omega
    rcases st_len h rs he with ⟨k, T, hs, hp⟩ | ⟨v, hs, hv, hp⟩
    · obtain ⟨c1, c2, c3, c4, c5⟩ := st_open lot _ rs 0 0 k T h.ne h.last h.fit (Nat.zero_le _) hs
      have hle := h.le
      have hk := hm k T hs
      obtain ⟨n, hn⟩ : ∃ n : Nat, n = T - rs.length := ⟨_, rfl⟩
      have en : (T : Int) - (rs.length : Int) = (n : Int) := by omega
      have n1 : ¬ ((n : Int) < 1) := by omega
      have n2 : ¬ ((n : Int) > 30) := by omega
      have n3 : n ≤ 30 := by omega
      rw [hp, en, tensilelaw09_PlanResults.l1, if_pos p1, tensilelaw09_PlanResults.j5]
      dsimp only
      rw [if_pos (by decide), if_neg n1, tensilelaw09_PlanResults.j6, decide_eq_false n2, if_neg (by decide)]
      obtain ⟨K', hK'⟩ : ∃ K', K = K' + n + 1 := ⟨K - n - 1, by omega⟩
      have k1 : 60 * m + 200 ≤ K' := by omega
      have hlen := h.len
      obtain ⟨ys, hy, h2⟩ := res_l2 a l (by omega) ws n (turn : Int) n 0 K' rs (by omega) (by omega) (by omega) (by omega)
      have ez : ((0 : Nat) : Int) = 0 := rfl
      rw [ez] at h2
      rw [hK', h2]
      have hlen2 : (rs ++ ys).length = T := by rw [List.length_append]; omega
      have hok : (playV a (l.map cSt) (rs ++ ys)).2.2 = 0 := by
        rw [playV_st h]
        rcases c5 ys (by omega) with ⟨v, hv⟩ | ⟨k', T'', hv, _⟩
        · rw [hv, if_neg Bool.false_ne_true, hlen2, if_neg (Nat.lt_irrefl _)]
        · rw [hv, if_pos rfl]
      rw [if_pos hok, w_nat (x := (turn : Int) + 1) (turn + 1) (by rw [Int.natCast_add]; rfl) (by omega)]
      refine ih (turn + 1) (rs ++ ys) K' (by omega) (by rw [List.length_append]; omega) k1 hok ?_
      intro k2 T2 hs2
      rcases c5 ys (by omega) with ⟨v, hv⟩ | ⟨k', T'', hv, hlt⟩
      · rw [hv] at hs2; simp at hs2
      · rw [hv] at hs2
        injection hs2 with _ hs2
        injection hs2 with hk2 _
        omega
    · rw [hp, tensilelaw09_PlanResults.l1, if_pos p1, tensilelaw09_PlanResults.j5]
      dsimp only
      have := res_j8 h rs (by omega) v hs (K + 1) (by omega)
      rcases hv with rfl | rfl
      · rw [if_neg (by decide), if_pos rfl]; exact this
      · rw [if_neg (by decide), if_neg (by decide), if_pos rfl]; exact this

/-- Results that are too many: without the last ones they decide. -/
theorem res_l0 {a : Int} {l : List S57} {lot : Nat} (h : Rdy a l lot) (v0 : Int) (T : Nat) (hv0 : v0 = 1 ∨ v0 = 2) (hT : 0 < T) : ∀ (d : Nat) (rs : List Bool) (K : Nat), rs.length = T + d → 3 * d + 20 ≤ K → rs.length ≤ 1000 → st rs (l.map cSt) 0 0 = (false, v0, T) →
    tensilelaw09_PlanResults.l0 K rs (playV a (l.map cSt) rs).1 (playV a (l.map cSt) rs).2.1 (playV a (l.map cSt) rs).2.2 a l = some true
  | 0, rs, K, hr, hK, hrs, hs => by
    obtain ⟨K, rfl⟩ : ∃ m, K = m + 2 := ⟨K - 2, by omega⟩
    have hp : playV a (l.map cSt) rs = (v0, 0, 0) := by
      rw [playV_st h, hs, if_neg Bool.false_ne_true, if_neg (show ¬ T < rs.length by omega)]
    have p1 : (rs.length : Int) > 0 := by omega
    rw [hp, tensilelaw09_PlanResults.l0, if_pos p1, tensilelaw09_PlanResults.j3]
    dsimp only
    rw [if_neg (by decide), if_pos rfl]
    rcases hv0 with rfl | rfl
    · rw [if_pos rfl, if_pos rfl, wakes_f]; rfl
    · rw [if_neg (by decide), if_pos rfl, if_pos rfl, wakes_f]; rfl
  | d + 1, rs, K, hr, hK, hrs, hs => by
    obtain ⟨K, rfl⟩ : ∃ m, K = m + 2 := ⟨K - 2, by omega⟩
    have hp : playV a (l.map cSt) rs = (0, 0, 2) := by
      rw [playV_st h, hs, if_neg Bool.false_ne_true, if_pos (show T < rs.length by omega)]
    have p1 : (rs.length : Int) > 0 := by omega
    have p2 : (rs.length : Int) - 1 = ((rs.length - 1 : Nat) : Int) := by omega
    have p3 : (0 : Int) ≤ ((rs.length - 1 : Nat) : Int) := by omega
    have p4 : ((rs.length - 1 : Nat) : Int) ≤ (rs.length : Int) := by omega
    have p5 : (rs.take (rs.length - 1)).length = T + d := by rw [List.length_take]; omega
    have p6 : rs.length - 1 ≤ 100000 := by omega
    have hlen := h.len
    have k1 : 7 ≤ K := by omega
    have k2 : l.length ≤ 5 := by omega
    have k3 : 3 * d + 20 ≤ K := by omega
    have k4 : T + d ≤ 1000 := by omega
    have hs' : st (rs.take (rs.length - 1)) (l.map cSt) 0 0 = (false, v0, T) := by
      refine (st_dec lot _ rs 0 0 v0 T h.ne h.last h.fit hs).2.2.2 _ (by omega) ?_
      rw [List.take_take, Nat.min_eq_left (by omega)]
    have ih := res_l0 h v0 T hv0 hT d (rs.take (rs.length - 1)) K p5 k3 (by rw [p5]; exact k4) hs'
    rw [hp, tensilelaw09_PlanResults.l0, if_pos p1, tensilelaw09_PlanResults.j3]
    dsimp only
    rw [if_pos (by decide), w_nat (rs.length - 1) p2 p6, if_pos p3, if_pos p4, Int.toNat_natCast, Option.bind_some]
    exact (play_step K a l k1 k2 (rs.take (rs.length - 1)) (by rw [p5]; exact k4) _).trans ih

theorem PlanResults (a : Int) (l : List S57) (rs : List Bool) (ws : List Int) (ha : Fits a) (hl : ∀ s ∈ l, Fits s.f0 ∧ Fits s.f1 ∧ Fits s.f2) : ∃ k, tensilelaw09_PlanResults.f k a l rs ws = some true := by
  refine ⟨602, ?_⟩
  rw [tensilelaw09_PlanResults.f, ready_f a l ha hl 602 (by omega), Option.bind_some]
  by_cases h : (decide (l.length ≤ 5) && (Hand.checkPlan a (l.map cSt) == 0)) = true
  case neg =>
    rw [if_neg h, tensilelaw09_PlanResults.j0, if_pos rfl, wakes_f]
    rfl
  rw [if_pos h]
  rw [Bool.and_eq_true, beq_iff_eq] at h
  obtain ⟨lot, hr⟩ := rdy_of h.2
  have hlen := hr.len
  by_cases h40 : (rs.length : Int) > 40
  · rw [decide_eq_true h40, tensilelaw09_PlanResults.j0, if_pos rfl, wakes_f]
    rfl
  have h40' : rs.length ≤ 40 := by omega
  rw [decide_eq_false h40, tensilelaw09_PlanResults.j0, if_neg (by decide), Option.bind_some, if_pos (by simp; omega), List.nil_append, Option.bind_some]
  refine (play_step 601 a l (by omega) (by omega) rs (by omega) _).trans ?_
  by_cases he : (playV a (l.map cSt) rs).2.2 = 0
  · rw [if_pos he]
    refine res_l1 hr ws 3 0 rs 601 (by omega) (by omega) (by omega) he ?_
    intro k T hs
    have := (st_open lot _ rs 0 0 k T hr.ne hr.last hr.fit (Nat.zero_le _) hs).2.2.2.1
    rw [List.length_map] at this
    omega
  · rw [if_neg he]
    have hp := playV_st hr rs
    rcases hst : st rs (l.map cSt) 0 0 with ⟨b, v, T⟩
    rw [hst] at hp
    cases b with
    | true => rw [if_pos rfl] at hp; rw [hp] at he; exact absurd rfl he
    | false =>
      rw [if_neg Bool.false_ne_true] at hp
      dsimp only at hp
      obtain ⟨c1, c2, c3, _⟩ := st_dec lot _ rs 0 0 v T hr.ne hr.last hr.fit hst
      by_cases hlt : T < rs.length
      · rw [if_pos hlt] at hp
        have e2 : (playV a (l.map cSt) rs).2.2 = 2 := by rw [hp]
        have p1 : ((rs.length : Int) == 0) = false := beq_eq_false_iff_ne.2 (by omega)
        rw [if_pos e2, tensilelaw09_PlanResults.j1, p1, if_neg (by decide)]
        exact res_l0 hr v T c1 c3 (rs.length - T) rs 600 (by omega) (by omega) (by omega) hst
      · rw [if_neg hlt] at hp
        rw [hp] at he
        exact absurd rfl he
end Go.Proofs.Ytigpnafpdmdmhaa.Pure



namespace Go.Proofs.Ytigpnafpdmdmhaa.planResults
open Go.ChangeShapes Go.WideShapes Go.ChangeAt Go.RowKit Go.Proofs.YtigpnafpdmdmhaaW.PrintWords
theorem own : ownKnob Try.prog.godebug = none := by kernel_rfl
theorem laidOut : laidOutB Try.prog = true := by kernel_rfl
set_option maxRecDepth 100000 in
theorem lifted (os : Os) (started : os.Started) (H : Type) (enc : TypeId × Value → H) :
    ReturnsInHanded {} Try.checked os 8 .any (Rows.planResultsSpec.pre6 enc Try.prog Try.f8 Rows.planResultsRow.domain false) (Rows.planResultsSpec.post enc Try.prog Try.f8 false true false false) := by
  refine returnsInHanded_of_change_sized (C := Try.checked) own started (by kernel_rfl) Try.func8
    (ChangeSpec.witness6 (enc := enc) (C := Try.checked) false ⟨#[], #[.agg #[.int .i64 0, .slice none 0 0], .slice none 0 0, .slice none 0 0], []⟩ 8 (by kernel_rfl) (by kernel_rfl) (by kernel_rfl) (by kernel_rfl)) ?_
  intro W base args ds gs before hval0 hW hcnd hsz0 _
  have hval : ∀ (j : Nat) t v, Try.f8.params[j]? = some t → args[j]? = some v → Value.okWide Try.prog W .any base t v := hval0
  have hW' := hW
  obtain ⟨p, q, hA0, hV, rfl, hfz, hnd⟩ := hW
  have hA : DataW.TrodAll enc Try.prog W 0 (fun _ => true) true Try.f8.params.toList args.toList ds p := hA0
  rw [Try.params8] at hA hval
  obtain ⟨v0, vs0, d0, ds0, p0, q0, hargs, rfl, rfl, h0, r0⟩ := trodAll_cons hA
  obtain ⟨v1, vs1, d1, ds1, p1, q1, rfl, rfl, rfl, h1, r1⟩ := trodAll_cons r0
  obtain ⟨v2, vs2, d2, ds2, p2, q2, rfl, rfl, rfl, h2, r2⟩ := trodAll_cons r1
  obtain ⟨rfl, rfl, rfl⟩ := trodAll_nil r2
  obtain rfl : args = #[v0, v1, v2] := by cases args; simp_all
  obtain ⟨rfl, rfl⟩ := trodVars_none hV
  have k0 := h0
  have lt0 : ∀ x ∈ p0, x.block < W.heap.size := by obtain ⟨m, hm⟩ := k0; exact DataW.trod_lt m _ _ _ hm
  obtain ⟨cs0, rfl, _⟩ := okWide_struct Try.underlying24 (hval 0 24 v0 rfl rfl)
  obtain ⟨a0, A0, c0, l0, e0, w0, hc0, hC0, y0⟩ : ∃ (a : Int) (A : Option Addr) (cap : Nat) (l : List P.S57), cs0 = #[.int .i64 a, .slice A l.length cap] ∧ P.Fits a ∧ l.length ≤ cap ∧ Kd.C P.k57 W A l.length l ∧ ∀ s ∈ l, P.Fits s.f0 ∧ P.Fits s.f1 ∧ P.Fits s.f2 := by
    obtain ⟨fuel, hf⟩ := h0
    obtain ⟨a, A, cap, l, e, h1, h2, h3, h4⟩ := P.open24 hf
    exact ⟨a, A, cap, l, Array.toList_inj.1 e, h1, h2, h3, h4⟩
  subst e0
  have k1 := h1
  have lt1 : ∀ x ∈ p1, x.block < W.heap.size := by obtain ⟨m, hm⟩ := k1; exact DataW.trod_lt m _ _ _ hm
  obtain ⟨A1, len1, c1, rfl⟩ := okWide_slice Try.underlying44 (hval 1 44 v1 rfl rfl)
  obtain ⟨l1, rfl, hc1, hC1⟩ : ∃ l : List Bool, len1 = l.length ∧ l.length ≤ c1 ∧ Kd.C Kd.bool W A1 l.length l := by
    obtain ⟨fuel, hf⟩ := h1
    obtain ⟨A, cap, l, e, h1, h2⟩ := P.open44 hf
    simp [Value.cells] at e
    obtain ⟨rfl, rfl, rfl⟩ := e
    exact ⟨l, rfl, h1, h2⟩
  have k2 := h2
  have lt2 : ∀ x ∈ p2, x.block < W.heap.size := by obtain ⟨m, hm⟩ := k2; exact DataW.trod_lt m _ _ _ hm
  obtain ⟨A2, len2, c2, rfl⟩ := okWide_slice Try.underlying59 (hval 2 59 v2 rfl rfl)
  obtain ⟨l2, rfl, hc2, hC2⟩ : ∃ l : List Int, len2 = l.length ∧ l.length ≤ c2 ∧ Kd.C (Kd.int .u8) W A2 l.length l := by
    obtain ⟨fuel, hf⟩ := h2
    obtain ⟨A, cap, l, e, h1, h2⟩ := P.open59 hf
    simp [Value.cells] at e
    obtain ⟨rfl, rfl, rfl⟩ := e
    exact ⟨l, rfl, h1, h2⟩
  clear hA0 hval0 hsz0
  obtain ⟨k, hP⟩ := Pure.PlanResults a0 l0 l1 l2 w0 y0
  refine (P.tensilelaw09_PlanResults.calls k a0 A0 c0 l0 A1 c1 l1 A2 c2 l2 true W hC0 hc0 hC1 hc1 hC2 hc2 hP).mono fun e W' ⟨he, bel⟩ => ?_
  subst he
  exact ⟨_, rfl, _, _, _, [], _, [], hW', trodAll_mk1 (shut_bool Try.underlying4 _), (trodAll_cons_mk (Below.trod laidOut (by kernel_rfl) (of_decide_eq_true (by kernel_rfl)) k0 bel lt0) (trodAll_cons_mk (Below.trod laidOut (by kernel_rfl) (of_decide_eq_true (by kernel_rfl)) k1 bel lt1) (trodAll_cons_mk (Below.trod laidOut (by kernel_rfl) (of_decide_eq_true (by kernel_rfl)) k2 bel lt2) trodAll_mk0))), rfl, bel.frame _, fun h => by cases h⟩
theorem over : Rows.planResultsRow.holds Try.pinned (OpenSpec.ofChange Rows.planResultsSpec) :=
  OpenClaim.holds_of_wide 8 Try.f8 rfl rfl rfl rfl rfl rfl rfl ⟨rfl, rfl, rfl, rfl, rfl⟩ rfl rfl rfl rfl rfl (by kernel_rfl) Try.func8 (by kernel_rfl)
    (of_decide_eq_true (by kernel_rfl)) (by unfold Func.isWrapper; first | (rw [if_pos (by decide +kernel)]; kernel_rfl) | (rw [if_neg (by decide +kernel)]; exact ⟨rfl, rfl⟩))
    (fun os started H enc _ => lifted os started H enc)
theorem proved : Rows.PlanResultsSaid := over
end Go.Proofs.Ytigpnafpdmdmhaa.planResults
namespace Go.Proofs.Ytigpnafpdmdmhaa
/-- The row, under a short name, for the claim. -/
theorem planResults_holds : Rows.PlanResultsSaid := planResults.proved
end Go.Proofs.Ytigpnafpdmdmhaa
#print axioms Go.Proofs.Ytigpnafpdmdmhaa.planResults_holds
