/- Part of the proof of the statement CreepStretches: functions of the program and what each call of them comes to, for any arguments. -/
import Derived.Test.YtdagijgoegkphaaC3
import Derived.Test.YtdagijgoegkphaaC2
set_option linter.unusedVariables false
set_option linter.unusedSimpArgs false
namespace Go.Proofs.Ytdagijgoegkphaa.Pure
open Go.RowKit Go.Proofs.YtdagijgoegkphaaW.PrintWords Go.Proofs.YtdagijgoegkphaaW.PrintLast Go.Proofs.YtdagijgoegkphaaW.PrintMore Go.Proofs.Ytdagijgoegkphaa.P
open Hand (Rg Sg Rn Nm Rt)
theorem nm_at (l : List Int) (b : Nat) : ((toNm l).getD b ⟨0⟩).n = l.getD b 0 := by
  unfold toNm
  simp only [List.getD_eq_getElem?_getD, List.getElem?_map]
  cases l[b]? <;> rfl
theorem rg_at (m : List S54) (b : Nat) : (m.map cRg).getD b ⟨0, 0⟩ = cRg (rd_T54 m (b : Int)) := by
  unfold rd_T54
  simp only [List.getD_eq_getElem?_getD, List.getElem?_map, Int.toNat_natCast]
  cases m[b]? <;> rfl
theorem rd_nat (l : List Int) (b : Nat) : rd l (b : Int) = l.getD b 0 := rfl
theorem rd_get (l : List Int) (hl : l.length ≤ 3) (b : Int) (h0 : 0 ≤ b) (h1 : b < l.length) : rd l b = (Hand.rtOf (toNm l)).get b.toNat := by
  obtain ⟨n, rfl⟩ := Int.eq_ofNat_of_zero_le h0
  rw [rd_nat, Int.toNat_natCast]
  unfold Hand.rtOf
  rw [nm_at, nm_at, nm_at]
  match n, (show n < 3 by omega) with
  | 0, _ => rfl
  | 1, _ => rfl
  | 2, _ => rfl
theorem atV_cons (f : Sg → Int) (r : Rt) (s : Sg) (l : List Sg) : Hand.atV f r (s :: l) = r.get s.band.toNat * f s + Hand.atV f r l := rfl
theorem atV_bound (f : Sg → Int) (r : Rt) (hr : r.ok) (hf : ∀ s : Sg, s.ok → 0 ≤ f s ∧ f s ≤ 1000000) : ∀ (l : List Sg), (∀ s ∈ l, s.ok) → 0 ≤ Hand.atV f r l ∧ Hand.atV f r l ≤ 1000000000 * l.length
  | [], _ => by simp [Hand.atV, Hand.sumL]
  | s :: l, h => by
    have h1 := h s (by simp)
    have h2 := atV_bound f r hr hf l (fun x hx => h x (by simp [hx]))
    have h3 := hf s h1
    have h4 := hr s.band.toNat (by have := h1.2.1; have := h1.1; omega)
    have h5 := Hand.mul_bound h4.1 h4.2 h3.1 h3.2
    rw [atV_cons, List.length_cons]
    omega
theorem stretch_l0 (l : List Int) (hl : l.length ≤ 3) (hr : (Hand.rtOf (toNm l)).ok) : ∀ (suf pre : List S56) (k : Nat) (a b : Int), suf.length + 1 ≤ k → (pre ++ suf).length ≤ 12 → (∀ s ∈ suf, Hand.segB l.length (cSg s) = true) →
    0 ≤ a → a ≤ 1000000000 * pre.length → 0 ≤ b → b ≤ 1000000000 * pre.length →
    tensileref05_Stretch.l0 k (pre ++ suf) l (pre.length : Int) a b = some (a + Hand.stLo (Hand.rtOf (toNm l)) (suf.map cSg), b + Hand.stHi (Hand.rtOf (toNm l)) (suf.map cSg)) := by
  intro suf
  induction suf with
  | nil =>
    intro pre k a b hk _ _ _ _ _ _
    obtain ⟨k, rfl⟩ : ∃ m, k = m + 1 := ⟨k - 1, by omega⟩
    rw [tensileref05_Stretch.l0, if_neg (len_nlt pre)]
    simp [Hand.stLo, Hand.stHi, Hand.atV, Hand.sumL]
  | cons s suf ih =>
    intro pre k a b hk hlen hseg ha0 ha1 hb0 hb1
    obtain ⟨k, rfl⟩ : ∃ m, k = m + 1 := ⟨k - 1, by omega⟩
    have hl2 : pre.length + suf.length + 1 ≤ 12 := by simpa [Nat.add_assoc] using hlen
    have hs := hseg s (by simp)
    have hok : (cSg s).ok := Hand.segB_ok hl hs
    have hband : 0 ≤ s.f0 ∧ s.f0 < l.length := by
      unfold Hand.segB at hs
      simp only [Bool.and_eq_true, decide_eq_true_eq] at hs
      have := hs.1
      unfold cSg at this
      dsimp only at this
      omega
    have h4 := hr s.f0.toNat (by omega)
    obtain ⟨_, _, o1, o2, o3, o4⟩ := hok
    have o1' : 0 ≤ s.f1.f0 := o1
    have o2' : s.f1.f0 ≤ 1000000 := o2
    have o3' : 0 ≤ s.f1.f1 := o3
    have o4' : s.f1.f1 ≤ 1000000 := o4
    have m1 := Hand.mul_bound h4.1 h4.2 o1' o2'
    have m2 := Hand.mul_bound h4.1 h4.2 o3' o4'
    rw [tensileref05_Stretch.l0, if_pos (len_lt pre s suf), if_pos (by omega), rd56, if_pos hband.1, if_pos hband.2, rd_get l hl s.f0 hband.1 hband.2]
    obtain ⟨x, hx⟩ : ∃ x, x = (Hand.rtOf (toNm l)).get s.f0.toNat * s.f1.f0 := ⟨_, rfl⟩
    obtain ⟨y, hy⟩ : ∃ y, y = (Hand.rtOf (toNm l)).get s.f0.toNat * s.f1.f1 := ⟨_, rfl⟩
    rw [← hx, ← hy]
    rw [← hx] at m1
    rw [← hy] at m2
    rw [w_succ _ (by omega), w_id (n := x) (by omega) (by omega), w_id (n := y) (by omega) (by omega), w_id (n := a + x) (by omega) (by omega), w_id (n := b + y) (by omega) (by omega)]
    have := ih (pre ++ [s]) k (a + x) (b + y) (by simp at hk; omega) (by simpa using hlen) (fun z hz => hseg z (by simp [hz])) (by omega) (by simp; omega) (by omega) (by simp; omega)
    rw [snoc_len, List.append_assoc] at this
    rw [show pre ++ s :: suf = pre ++ ([s] ++ suf) from rfl, this]
    unfold Hand.stLo Hand.stHi
    rw [List.map_cons, atV_cons, atV_cons]
    show some (a + x + _, b + y + _) = some (a + ((Hand.rtOf (toNm l)).get s.f0.toNat * s.f1.f0 + _), b + ((Hand.rtOf (toNm l)).get s.f0.toNat * s.f1.f1 + _))
    rw [← hx, ← hy, Int.add_assoc, Int.add_assoc]
theorem stretch_f (l : List Int) (hl : l.length ≤ 3) (hr : (Hand.rtOf (toNm l)).ok) (p : List S56) (hp : p.length ≤ 12) (hseg : ∀ s ∈ p, Hand.segB l.length (cSg s) = true) (k : Nat) (hk : p.length + 1 ≤ k) :
    tensileref05_Stretch.f k p l = some (Hand.stLo (Hand.rtOf (toNm l)) (p.map cSg), Hand.stHi (Hand.rtOf (toNm l)) (p.map cSg)) := by
  have := stretch_l0 l hl hr p [] k 0 0 hk hp hseg (by omega) (by simp) (by omega) (by simp)
  rw [Int.zero_add, Int.zero_add] at this
  exact this
theorem allows_l0 (l : List Int) (hl : l.length ≤ 3) (hr : (Hand.rtOf (toNm l)).ok) : ∀ (suf pre : List S81) (k : Nat), suf.length + 15 ≤ k → (pre ++ suf).length ≤ 9 → (∀ x ∈ suf, x.f0.length ≤ 12 ∧ ∀ s ∈ x.f0, Hand.segB l.length (cSg s) = true) →
    tensileref05_Allows.l0 k (pre ++ suf) l (pre.length : Int) = some (Hand.allowedB (suf.map cRn) (Hand.rtOf (toNm l))) := by
  intro suf
  induction suf with
  | nil =>
    intro pre k hk _ _
    obtain ⟨k, rfl⟩ : ∃ m, k = m + 1 := ⟨k - 1, by omega⟩
    rw [tensileref05_Allows.l0, if_neg (len_nlt pre)]
    rfl
  | cons s suf ih =>
    intro pre k hk hlen hx
    obtain ⟨k, rfl⟩ : ∃ m, k = m + 1 := ⟨k - 1, by omega⟩
    have hl2 : pre.length + suf.length + 1 ≤ 9 := by simpa [Nat.add_assoc] using hlen
    obtain ⟨h1, h2⟩ := hx s (by simp)
    rw [tensileref05_Allows.l0, if_pos (len_lt pre s suf), if_pos (by omega), rd81, stretch_f l hl hr s.f0 h1 h2 k (by simp at hk; omega), Option.bind_some]
    have hal : Hand.allowedB ((s :: suf).map cRn) (Hand.rtOf (toNm l)) = (Hand.allowsB (Hand.rtOf (toNm l)) (s.f0.map cSg) s.f1.f0 s.f1.f1 && Hand.allowedB (suf.map cRn) (Hand.rtOf (toNm l))) := rfl
    rw [hal]
    unfold Hand.allowsB
    dsimp only
    by_cases c1 : Hand.stLo (Hand.rtOf (toNm l)) (s.f0.map cSg) > s.f1.f1
    · rw [if_pos c1, decide_eq_false (by omega)]; simp
    rw [if_neg c1, decide_eq_true (show Hand.stLo (Hand.rtOf (toNm l)) (s.f0.map cSg) ≤ s.f1.f1 by omega)]
    by_cases c2 : Hand.stHi (Hand.rtOf (toNm l)) (s.f0.map cSg) < s.f1.f0
    · rw [if_pos c2, decide_eq_false (by omega)]; simp
    rw [if_neg c2, decide_eq_true (show s.f1.f0 ≤ Hand.stHi (Hand.rtOf (toNm l)) (s.f0.map cSg) by omega), w_succ _ (by omega)]
    have := ih (pre ++ [s]) k (by simp at hk; omega) (by simpa using hlen) (fun x h => hx x (by simp [h]))
    rw [snoc_len, List.append_assoc] at this
    rw [show pre ++ s :: suf = pre ++ ([s] ++ suf) from rfl, this]
    rfl
theorem runs_right {m : List S54} {r : List S81} (h : Hand.enterErr (m.map cRg) (r.map cRn) = 0) : ∀ x ∈ r, x.f0.length ≤ 8 ∧ ∀ s ∈ x.f0, Hand.segB m.length (cSg s) = true := by
  obtain ⟨_, _, _, _, h5, h6⟩ := Hand.enter_ok h
  intro x hx
  have h7 := List.all_eq_true.1 h5 (cRn x) (List.mem_map.2 ⟨x, hx, rfl⟩)
  have h8 := List.all_eq_true.1 h6 (cRn x) (List.mem_map.2 ⟨x, hx, rfl⟩)
  unfold Hand.fewB cRn at h7
  unfold Hand.runOk Hand.runB cRn at h8
  simp only [Bool.and_eq_true, decide_eq_true_eq, List.length_map] at h7 h8
  exact ⟨h7, fun s hs => List.all_eq_true.1 h8.2 (cSg s) (List.mem_map.2 ⟨s, hs, rfl⟩)⟩
theorem allows_f {m : List S54} {r : List S81} {l : List Int} (h : Hand.enterErr (m.map cRg) (r.map cRn) = 0) (hl : l.length = m.length) (hr : (Hand.rtOf (toNm l)).ok) (k : Nat) (hk : 30 ≤ k) :
    tensileref05_Allows.f k r l = some (Hand.allowedB (r.map cRn) (Hand.rtOf (toNm l))) := by
  have h1 := (Hand.enter_ok h).1
  have h4 := (Hand.enter_ok h).2.2.2.1
  rw [List.length_map] at h1 h4
  have h2 := runs_right h
  exact allows_l0 l (by omega) hr r [] k (by omega) (by simpa using (by omega : r.length ≤ 9)) (fun x hx => ⟨by have := (h2 x hx).1; omega, by rw [hl]; exact (h2 x hx).2⟩)
end Go.Proofs.Ytdagijgoegkphaa.Pure

namespace Go.Proofs.Ytdagijgoegkphaa.Pure
open Go.RowKit Go.Proofs.YtdagijgoegkphaaW.PrintWords Go.Proofs.YtdagijgoegkphaaW.PrintLast Go.Proofs.YtdagijgoegkphaaW.PrintMore Go.Proofs.Ytdagijgoegkphaa.P
open Hand (Rg Sg Rn Nm Rt)
def take (r : Rt) (n : Nat) : List Int := r.list n
theorem take_len (r : Rt) (n : Nat) (h : n ≤ 3) : (r.list n).length = n := by unfold Rt.list; simp; omega
theorem take_succ (r : Rt) (n : Nat) (x : Int) (h : n < 3) : r.list n ++ [x] = (r.set n x).list (n + 1) := by
  unfold Rt.list
  match n, h with
  | 0, _ => rfl
  | 1, _ => rfl
  | 2, _ => rfl
theorem take_rd (r : Rt) (n : Nat) (b : Nat) (h : b < n) (hn : n ≤ 3) : rd (r.list n) (b : Int) = r.get b := by
  rw [rd_nat]
  unfold Rt.list
  match n, b, hn, h with
  | 1, 0, _, _ => rfl
  | 2, 0, _, _ => rfl
  | 2, 1, _, _ => rfl
  | 3, 0, _, _ => rfl
  | 3, 1, _, _ => rfl
  | 3, 2, _, _ => rfl
theorem take_rt (r : Rt) (n : Nat) (hn : n ≤ 3) : ∀ k, k < n → (Hand.rtOf (toNm (r.list n))).get k = r.get k := by
  intro k hk
  have h1 := rd_get (r.list n) (by rw [take_len r n hn]; exact hn) (k : Int) (by omega) (by rw [take_len r n hn]; omega)
  rw [Int.toNat_natCast] at h1
  rw [← h1, take_rd r n k hk hn]
theorem flat_cons {α β : Type} (f : α → List β) (x : α) (l : List α) : (x :: l).flatMap f = f x ++ l.flatMap f := List.flatMap_cons
def Val (m : List S54) : Prop := m.length ≤ 3 ∧ ∀ s ∈ m, 0 ≤ s.f0 ∧ s.f0 ≤ s.f1 ∧ s.f1 ≤ 1000 ∧ s.f1 - s.f0 ≤ 20
theorem flat_len {α β : Type} (f : α → List β) (c : Nat) : ∀ (l : List α), (∀ x ∈ l, (f x).length ≤ c) → (l.flatMap f).length ≤ l.length * c
  | [], _ => by simp
  | x :: l, h => by
    have h1 := h x (by simp)
    have h2 := flat_len f c l (fun y hy => h y (by simp [hy]))
    rw [List.flatMap_cons, List.length_append, List.length_cons, Nat.add_mul, Nat.one_mul]
    omega
def need : Nat → Nat
  | 0 => 1
  | d + 1 => need d + 25
theorem hiAt_eq (m : List S54) (band : Nat) (h : band < m.length) : Hand.hiAt (m.map cRg) band = (rd_T54 m (band : Int)).f1 := by
  unfold Hand.hiAt rd_T54
  rw [List.getElem?_map, Int.toNat_natCast, List.getD_eq_getElem?_getD, List.getElem?_eq_getElem h]
  rfl
theorem lowAt_eq (m : List S54) (r : Rt) (band : Nat) (h : band < m.length) : Hand.lowAt (m.map cRg) r band = if 0 < band then mx (rd_T54 m (band : Int)).f0 (r.get (band - 1)) else (rd_T54 m (band : Int)).f0 := by
  unfold Hand.lowAt rd_T54
  rw [List.getElem?_map, Int.toNat_natCast, List.getD_eq_getElem?_getD, List.getElem?_eq_getElem h]
  rfl
theorem rd_mem (m : List S54) (band : Nat) (h : band < m.length) : rd_T54 m (band : Int) ∈ m := by
  unfold rd_T54
  rw [Int.toNat_natCast, List.getD_eq_getElem?_getD, List.getElem?_eq_getElem h]
  exact List.getElem_mem h
theorem lsFrom_len (m : List S54) (hv : Val m) : ∀ (d band : Nat) (r : Rt), band + d = m.length → (Hand.lsFrom (m.map cRg) d band r).length ≤ 21 ^ d
  | 0, _, _, _ => by simp [Hand.lsFrom]
  | d + 1, band, r, hb => by
    have hlt : band < m.length := by omega
    have hs := hv.2 _ (rd_mem m band hlt)
    unfold Hand.lsFrom
    rw [hiAt_eq m band hlt, lowAt_eq m r band hlt]
    refine Nat.le_trans (flat_len _ (21 ^ d) _ fun n _ => lsFrom_len m hv d (band + 1) _ (by omega)) ?_
    rw [Hand.upFrom_length, Nat.pow_succ, Nat.mul_comm]
    refine Nat.mul_le_mul_left _ ?_
    have : (rd_T54 m (band : Int)).f0 ≤ (if 0 < band then mx (rd_T54 m (band : Int)).f0 (r.get (band - 1)) else (rd_T54 m (band : Int)).f0) := by
      split
      · unfold mx; split <;> omega
      · exact Int.le_refl _
    omega
theorem get_set_lt (r : Rt) (n : Int) : ∀ (band j : Nat), band < 3 → j < band → (r.set band n).get j = r.get j
  | 0, _, _, h => absurd h (by omega)
  | 1, 0, _, _ => rfl
  | 2, 0, _, _ => rfl
  | 2, 1, _, _ => rfl
  | 1, _ + 1, _, h => absurd h (by omega)
  | 2, _ + 2, _, h => absurd h (by omega)
  | _ + 3, _, h, _ => absurd h (by omega)
theorem val_of {m : List S54} {rs : List Rn} (h : Hand.enterErr (m.map cRg) rs = 0) : Val m := by
  have h1 := (Hand.enter_ok h).1
  rw [List.length_map] at h1
  refine ⟨h1.2, fun s hs => ?_⟩
  have h2 : Hand.matErr (m.map cRg) = 0 := by
    unfold Hand.enterErr at h
    split at h
    · assumption
    · exact h
  unfold Hand.matErr at h2
  split at h2
  · rename_i h3
    have h4 := rateB_low (List.all_eq_true.1 h3.2 (cRg s) (List.mem_map.2 ⟨s, hs, rfl⟩))
    exact h4
  · cases h2
end Go.Proofs.Ytdagijgoegkphaa.Pure

namespace Go.Proofs.Ytdagijgoegkphaa.Pure
open Go.RowKit Go.Proofs.YtdagijgoegkphaaW.PrintWords Go.Proofs.YtdagijgoegkphaaW.PrintLast Go.Proofs.YtdagijgoegkphaaW.PrintMore Go.Proofs.Ytdagijgoegkphaa.P
open Hand (Rg Sg Rn Nm Rt)
theorem get_set_gt (r : Rt) (n : Int) : ∀ (band j : Nat), j < 3 → band < j → (r.set band n).get j = r.get j
  | 0, 1, _, _ => rfl
  | 0, 2, _, _ => rfl
  | 1, 2, _, _ => rfl
  | _, 0, _, h => absurd h (by omega)
  | _ + 1, 1, _, h => absurd h (by omega)
  | _ + 2, 2, _, h => absurd h (by omega)
  | _, _ + 3, h, _ => absurd h (by omega)
theorem lsFrom_rest (ms : List Rg) : ∀ (d band : Nat) (r q : Rt), q ∈ Hand.lsFrom ms d band r → ∀ j, j < 3 → band + d ≤ j → q.get j = r.get j
  | 0, _, r, q, h, j, _, _ => by rw [List.mem_singleton.1 h]
  | d + 1, band, r, q, h, j, h3, hj => by
    obtain ⟨n, _, hq⟩ := List.mem_flatMap.1 h
    rw [lsFrom_rest ms d (band + 1) (r.set band n) q hq j h3 (by omega), get_set_gt r n band j h3 (by omega)]
theorem rt_ext {p q : Rt} (h : ∀ j, j < 3 → p.get j = q.get j) : p = q := by
  obtain ⟨a, b, c⟩ := p
  obtain ⟨x, y, z⟩ := q
  have h0 : a = x := h 0 (by omega)
  have h1 : b = y := h 1 (by omega)
  have h2 : c = z := h 2 (by omega)
  rw [h0, h1, h2]
theorem rt_of_list (ms : List Rg) (hms : ms.length ≤ 3) (q : Rt) (h : q ∈ Hand.lists ms) : Hand.rtOf (toNm (q.list ms.length)) = q := by
  refine rt_ext fun j hj => ?_
  by_cases hjn : j < ms.length
  · exact take_rt q ms.length hms j hjn
  · have h0 : q.get j = 0 := by
      rw [lsFrom_rest ms ms.length 0 ⟨0, 0, 0⟩ q h j hj (by omega)]
      match j, hj with
      | 0, _ => rfl
      | 1, _ => rfl
      | 2, _ => rfl
    rw [h0]
    have hr : ∀ b : Nat, ms.length ≤ b → ((toNm (q.list ms.length)).getD b ⟨0⟩).n = 0 := fun b hb => by
      rw [nm_at, List.getD_eq_getElem?_getD, List.getElem?_eq_none (by rw [take_len q _ hms]; exact hb)]
      rfl
    match j, hj with
    | 0, _ => exact hr 0 (by omega)
    | 1, _ => exact hr 1 (by omega)
    | 2, _ => exact hr 2 (by omega)
theorem lists_rtok {m : List S54} (hv : Val m) (q : Rt) (h : q ∈ Hand.lists (m.map cRg)) : q.ok :=
  Hand.lists_ok (fun x hx => by
    obtain ⟨s, hs, rfl⟩ := List.mem_map.1 hx
    have := hv.2 s hs
    exact ⟨this.1, this.2.2.1⟩) q h
theorem lists_len {m : List S54} (hv : Val m) : (Hand.lists (m.map cRg)).length ≤ 9261 := by
  have := lsFrom_len m hv m.length 0 ⟨0, 0, 0⟩ (by omega)
  have h3 : (21 : Nat) ^ m.length ≤ 21 ^ 3 := Nat.pow_le_pow_right (by omega) hv.1
  unfold Hand.lists
  rw [List.length_map]
  omega
end Go.Proofs.Ytdagijgoegkphaa.Pure

namespace Go.Proofs.Ytdagijgoegkphaa.P
open Go.RowKit Go.Proofs.YtdagijgoegkphaaW.PrintWords Go.Proofs.YtdagijgoegkphaaW.PrintLast Go.Proofs.YtdagijgoegkphaaW.PrintMore
open Bool renaming true → tt, false → ff
open List renaming setIfInBounds_toArray → l1, set_cons_zero → l2, set_cons_succ → l3
open Go.Proofs.YtdagijgoegkphaaW.PrintWords renaming blk_drewN → b0, blk_drew → b1, blk_alloc → b2, below_set → b3, blk_cell → b4, blk_below → b5, pw_below_drewN → b6, below_drew1 → b7, below_alloc → b8, blk_frozen → b9, blk_lt → b10, blk_far → b11, below_size → b12, below_step → b13
open Go.Proofs.YtdagijgoegkphaaW.PrintWords.Kd renaming R_alloc → k0, R_drewN → k1, R_drew → k2, R_below → k3, R_new' → k4, R_lt → k5, R_elder' → k6, R_base → k7, R_reads' → k9, R_mono → k10, R_types → k11, R_lower → k12, C_alloc → k13, C_drewN → k14, C_drew → k15, C_below → k16
attribute [local go_sem] max2_int min2_int max_two min_two max_three min_three max_four min_four   -- for this text's walks alone
mutual
def tensileref05_Lists.j0 : Nat → List Int → List (List Int) → Int → List (S54) → Int → Int → Option ((List (List Int)))
 | 0, _, _, _, _, _, _ => none
 | k + 1, x1, x5, x7, x227000, x232000, x232001 => tensileref05_Lists.l0 k x1 x5 x7 x227000 x232000 x232001
def tensileref05_Lists.l0 : Nat → List Int → List (List Int) → Int → List (S54) → Int → Int → Option ((List (List Int)))
 | 0, _, _, _, _, _, _ => none
 | k + 1, x1, x5, x9, x227000, x232000, x232001 => if x9 ≤ x232001 then ((some (([] : List Int) : List Int)).bind fun y233 => (if y233.length + x1.length < 17592186044416 then ((some (y233 ++ x1 : List Int)).bind fun y236 => ((some (([x9] : List Int) : List Int)).bind fun y239 => (if y236.length + y239.length < 17592186044416 then ((tensileref05_Lists.f k x227000 (y236 ++ y239)).bind fun t245 => (if x5.length + t245.length < 5864062014805 then (tensileref05_Lists.l0 k x1 (x5 ++ t245) (wrap64 (x9 + 1)) x227000 x232000 x232001) else (none))) else (none)))) else (none))) else (some x5)
def tensileref05_Lists.f : Nat → List (S54) → List Int → Option ((List (List Int)))
 | 0, _, _ => none
 | k + 1, l0_0, l1 => if (l1.length : Int) = (l0_0.length : Int) then (some (([l1] : List (List Int)))) else (if 0 ≤ (l1.length : Int) then (if (l1.length : Int) < (l0_0.length : Int) then (if (l1.length : Int) > 0 then (if 0 ≤ (wrap64 ((l1.length : Int) - 1)) then (if (wrap64 ((l1.length : Int) - 1)) < (l1.length : Int) then (tensileref05_Lists.j0 k l1 ([] : List (List Int)) (mx ((rd_T54 l0_0 (l1.length : Int)).f0) (rd l1 (wrap64 ((l1.length : Int) - 1)))) l0_0 ((rd_T54 l0_0 (l1.length : Int)).f0) ((rd_T54 l0_0 (l1.length : Int)).f1)) else (none)) else (none)) else (tensileref05_Lists.j0 k l1 ([] : List (List Int)) ((rd_T54 l0_0 (l1.length : Int)).f0) l0_0 ((rd_T54 l0_0 (l1.length : Int)).f0) ((rd_T54 l0_0 (l1.length : Int)).f1))) else (none)) else (none))
end
def tensileref05_Lists.T12 : Bool × List (List Nat × List Nat) := (true, [([], []), ([], []), ([], []), ([], []), ([2, 3], [2, 3]), ([], []), ([5], [5]), ([4, 6, 4], [4, 6]), ([1, 7, 7], [1, 7]), ([0, 8, 8], [0, 8]), ([9, 9, 0, 1, 2, 3, 4, 5, 6, 7, 8, 9], [0, 9])])
def tensileref05_Lists.B12 : List Nat := [0, 0, 0, 0, 12, 0, 32, 124, 254, 511, 1023]
theorem tensileref05_Lists.tab12 : rtab .any (opsOf Try.f50 12) = tensileref05_Lists.T12 := by kernel_rfl
theorem tensileref05_Lists.bits12 : waitsOk tensileref05_Lists.T12.2 tensileref05_Lists.B12 = true := by kernel_rfl
set_option maxHeartbeats 8000000 in
set_option maxRecDepth 100000 in
theorem tensileref05_Lists.calls (k : Nat) : ∀ (A0_0 : Option Addr) (c0_0 : Nat) (l0_0 : List (S54)) (P1_ : Nat → Prop) (A1 : Option Addr) (c1 : Nat) (l1 : List Int) (r : List (List Int)) (w : World) (hr0_0 : Kd.C k54 w A0_0 l0_0.length l0_0) (hc0_0 : l0_0.length ≤ c0_0) (hs1 : Kd.V (Kd.int .i64) 3 w w.heap.size (fun k_ => P1_ k_) (.slice A1 l1.length c1) l1) (h : tensileref05_Lists.f k l0_0 l1 = some r),
  Calls Try.prog 50 #[.agg #[.slice A0_0 l0_0.length c0_0], .slice A1 l1.length c1] w fun e w' => ∃ v0_ : Value, e = .returned (v0_) ∧ Kd.N (Kd.slice 3 (Kd.int .i64)) 31 w' w.heap.size (fun k_ => (P1_ k_ ∨ w.heap.size ≤ k_)) v0_ r ∧ Below w.heap.size w w' := by
 induction k using Nat.strongRecOn with
 | _ k ih =>
 intro A0_0 c0_0 l0_0 P1_ A1 c1 l1 r w hr0_0 hc0_0 hs1 h
 cases k with
 | zero => exact absurd h (by simp [tensileref05_Lists.f])
 | succ k =>
 simp only [tensileref05_Lists.f] at h
 have hu24 := Try.underlying24
 have hu54 := Try.underlying54
 have HR0_0 := Aside0.mk hr0_0
 have HC0_0 := Aside0.mk hc0_0
 clear hr0_0 hc0_0
 have HO1 := Aside0.mk (show Kd.V (Kd.int .i64) 3 w w.heap.size (fun k_ => (P1_ k_ ∨ w.heap.size ≤ k_)) (.slice A1 l1.length c1) l1 from Kd.V_mono hs1 (fun k_ hk => .inl hk))
 have HB := Aside0.mk (Below.refl w.heap.size w)
 have H : (if (l1.length : Int) = (l0_0.length : Int) then (some (([l1] : List (List Int)))) else (if 0 ≤ (l1.length : Int) then (if (l1.length : Int) < (l0_0.length : Int) then (if (l1.length : Int) > 0 then (if 0 ≤ (wrap64 ((l1.length : Int) - 1)) then (if (wrap64 ((l1.length : Int) - 1)) < (l1.length : Int) then (tensileref05_Lists.j0 k l1 ([] : List (List Int)) (mx ((rd_T54 l0_0 (l1.length : Int)).f0) (rd l1 (wrap64 ((l1.length : Int) - 1)))) l0_0 ((rd_T54 l0_0 (l1.length : Int)).f0) ((rd_T54 l0_0 (l1.length : Int)).f1)) else (none)) else (none)) else (tensileref05_Lists.j0 k l1 ([] : List (List Int)) ((rd_T54 l0_0 (l1.length : Int)).f0) l0_0 ((rd_T54 l0_0 (l1.length : Int)).f0) ((rd_T54 l0_0 (l1.length : Int)).f1))) else (none)) else (none))) = some r := h
 clear h
 by_cases c3 : (l1.length : Int) = (l0_0.length : Int)
 ·
  rw [if_pos c3] at H
  have c3b0 : ((l1.length : Int) == (l0_0.length : Int)) = true := beq_iff_eq.mpr c3
  have c3b1 : ((l1.length : Int) != (l0_0.length : Int)) = false := bne_eq_false_iff_eq.mpr c3
  have c3b2 : (l1.length == l0_0.length) = true := by first | simpa using c3 | (simp at c3 ⊢; omega)
  clear c3
  obtain ⟨y227, hy227⟩ : ∃ y_ : List (List Int), y_ = (([l1] : List (List Int))) := ⟨_, rfl⟩
  replace H : (some y227) = some r := by first | (rw [hy227]; with_reducible exact H) | (have H2_ := (Option.bind_some _ _).symm.trans H; rw [hy227]; with_reducible exact H2_) | (have H2_ := (Option.bind_some _ _).symm.trans H; with_reducible exact H2_) | with_reducible exact H | (rw [hy227]; exact H) | exact H
  have Ny227 := Aside0.mk hy227
  clear hy227
  obtain rfl := Option.some.inj H
  go_enter Try.func50, Try.ntmps50
  go_wp2_with (first | ((with_reducible refine gate_dst (N := 2) rfl ?_); refine box_event ?hg (N := 2) ?hd (cs := #[.slice A0_0 l0_0.length c0_0]) (t := 24) ?hr ?_; (case hd => rfl); (case hg => rfl); (case hr => first | (go_simp; done) | (go_simp; rfl)); intro gb226 hg w4 hbox hb; have n0_ := Aside0.mk (Kd.V_below (Kd.V_elderB (by (with_reducible repeat (first | apply Kd.V_alloc | apply Kd.V_drewN | apply Kd.V_drew)); exact HO1.out) gb226 (Nat.le_of_eq hg.symm)) hb); have n1_ := Aside0.mk (b13 (by repeat (first | (with_reducible first | exact HB.out | apply b8 | apply b6 | apply b7) | exact HB.out)) hb); have n2_ := Aside0.mk (hbox); have n3_ := Aside0.mk ((by rw [hg]; exact (b12 (by repeat (first | (with_reducible first | exact HB.out | apply b8 | apply b6 | apply b7) | exact HB.out))) : w.heap.size ≤ gb226)); have n4_ := Aside0.mk ((by rw [hg]; exact (b12 (by repeat (first | (with_reducible first | exact HB.out | apply b8 | apply b6 | apply b7) | exact HB.out))) : w.heap.size ≤ gb226)); clear HO1; clear HB; have HO1 := n0_; have HB := n1_; have BK226 := n2_; have GW226 := n3_; have GE226 := n4_; clear n0_ n1_ n2_ n3_ n4_; clear hb hbox hg; have hcz5_0 : w4.cell? ⟨gb226, 0, none⟩ = some (.slice A0_0 l0_0.length c0_0) := (b4 BK226.out 0).trans rfl; have hfz5_0 := b9 BK226.out 0) | ((with_reducible refine gate_dst (N := 17) rfl ?_); refine Kd.N_lit (Kd.slice 3 (Kd.int .i64)) _ 31 ?hg (N' := 17) ?hd (xs := ([l1] : List (List Int))) (inner := [.slice A1 l1.length c1]) (ok := (fun k_ => (P1_ k_ ∨ w.heap.size ≤ k_) ∧ k_ ≠ gb226)) (okp := (fun k_ => (P1_ k_ ∨ w.heap.size ≤ k_) ∧ k_ ≠ gb226)) ?hr ?hp (fun _ hk => hk) ((show ∀ k_, w4.heap.size ≤ k_ → (fun k_ => (P1_ k_ ∨ w.heap.size ≤ k_) ∧ k_ ≠ gb226) k_ from fun k_ hk => ⟨(.inr (Nat.le_trans (b12 (by repeat (first | (with_reducible first | exact HB.out | apply b8 | apply b6 | apply b7 | refine b3 ?_ GE226.out) | exact HB.out))) hk)), Kd.freshB (g := gb226) (o := .cells #[.slice A0_0 l0_0.length c0_0] 24 (0, 0)) (by (with_reducible repeat (first | refine b0 ?_ _ | refine b1 ?_ | refine b2 ?_ _)); exact BK226.out) k_ hk⟩) _ (Nat.le_refl _)) (Below.refl _ _) (Nat.le_refl _) (by simp) ?_; (case hd => rfl); (case hg => rfl); (case hr => first | (go_simp; done) | (go_simp; rfl)); (case hp => exact (Reps.one (show Kd.FK (Kd.slice 3 (Kd.int .i64)) _ _ l1 [.slice A1 l1.length c1] from (Kd.FK_slice_mk (Kd.V_reads' (Kd.V_mono (ok' := (fun k_ => (P1_ k_ ∨ w.heap.size ≤ k_) ∧ k_ ≠ gb226)) (HO1.out) (fun k_ hk => ⟨hk.1, hk.2⟩))).2.1 (Kd.V_F (Kd.V_mono (ok' := (fun k_ => (P1_ k_ ∨ w.heap.size ≤ k_) ∧ k_ ≠ gb226)) (HO1.out) (fun k_ hk => ⟨hk.1, hk.2⟩))))) (Reps.none _ _))); intro v228 w6 ho7 hb hg_ hnew_; clear hg_ hnew_; (first | rw [← Ny227.out] at ho7 | (simp only [Int.reduceToNat] at ho7; rw [← Ny227.out] at ho7)); have n0_ := Aside0.mk (Kd.V_elder' (by (with_reducible repeat (first | apply Kd.V_alloc | apply Kd.V_drewN | apply Kd.V_drew)); exact HO1.out) (Kd.N_base ho7) hb); have n1_ := Aside0.mk (Kd.N_lower ho7 (b12 (by repeat (first | (with_reducible first | exact HB.out | apply b8 | apply b6 | apply b7 | refine b3 ?_ GE226.out) | exact HB.out)))); have n2_ := Aside0.mk (b5 (g := gb226) (o := .cells #[.slice A0_0 l0_0.length c0_0] 24 (0, 0)) (by (with_reducible repeat (first | refine b0 ?_ _ | refine b1 ?_ | refine b2 ?_ _)); exact BK226.out) hb); have n3_ := Aside0.mk (b13 (by repeat (first | (with_reducible first | exact HB.out | apply b8 | apply b6 | apply b7 | refine b3 ?_ GE226.out) | exact HB.out)) hb); clear HO1; clear BK226; clear HB; have HO1 := n0_; have HO229 := n1_; have BK226 := n2_; have HB := n3_; clear n0_ n1_ n2_ n3_; clear hb ho7))
  go_ret
  exact ⟨_, by first | rfl | (simp [errW_none, errW_some] <;> rfl) | (simp [*, errW_none, errW_some] <;> rfl), by (with_reducible repeat (first | apply Kd.N_alloc | apply Kd.N_drewN | apply Kd.N_drew)); exact Kd.N_mono HO229.out (fun _ hk => hk.1), by repeat (first | (with_reducible first | exact HB.out | apply b8 | apply b6 | apply b7 | refine b3 ?_ GE226.out) | exact HB.out)⟩
 ·
  rw [if_neg c3] at H
  have c3b0 : ((l1.length : Int) == (l0_0.length : Int)) = false := beq_eq_false_iff_ne.mpr c3
  have c3b1 : ((l1.length : Int) != (l0_0.length : Int)) = true := bne_iff_ne.mpr c3
  have c3b2 : (l1.length == l0_0.length) = false := by first | simpa using c3 | (simp at c3 ⊢; omega)
  by_cases c8 : 0 ≤ (l1.length : Int)
  ·
   rw [if_pos c8] at H
   have c8b0 : decide (0 ≤ (l1.length : Int)) = true := decide_eq_true c8
   have c8b1 : decide (0 ≤ l1.length) = true := decide_eq_true (by omega)
   clear c8
   by_cases c9 : (l1.length : Int) < (l0_0.length : Int)
   ·
    rw [if_pos c9] at H
    have c9b0 : decide ((l1.length : Int) < (l0_0.length : Int)) = true := decide_eq_true c9
    have c9b1 : decide (l1.length < l0_0.length) = true := decide_eq_true (Int.ofNat_lt.mp c9)
    clear c9
    have HC10 := Aside0.mk H
    clear H
    go_enter Try.func50, Try.ntmps50
    go_upto_if 29 with (first | ((with_reducible refine gate_dst (N := 2) rfl ?_); refine box_event ?hg (N := 2) ?hd (cs := #[.slice A0_0 l0_0.length c0_0]) (t := 24) ?hr ?_; (case hd => rfl); (case hg => rfl); (case hr => first | (go_simp; done) | (go_simp; rfl)); intro gb226 hg w11 hbox hb; have n0_ := Aside0.mk (Kd.V_below (Kd.V_elderB (by (with_reducible repeat (first | apply Kd.V_alloc | apply Kd.V_drewN | apply Kd.V_drew)); exact HO1.out) gb226 (Nat.le_of_eq hg.symm)) hb); have n1_ := Aside0.mk (b13 (by repeat (first | (with_reducible first | exact HB.out | apply b8 | apply b6 | apply b7) | exact HB.out)) hb); have n2_ := Aside0.mk (hbox); have n3_ := Aside0.mk ((by rw [hg]; exact (b12 (by repeat (first | (with_reducible first | exact HB.out | apply b8 | apply b6 | apply b7) | exact HB.out))) : w.heap.size ≤ gb226)); have n4_ := Aside0.mk ((by rw [hg]; exact (b12 (by repeat (first | (with_reducible first | exact HB.out | apply b8 | apply b6 | apply b7) | exact HB.out))) : w.heap.size ≤ gb226)); clear HO1; clear HB; have HO1 := n0_; have HB := n1_; have BK226 := n2_; have GW226 := n3_; have GE226 := n4_; clear n0_ n1_ n2_ n3_ n4_; clear hb hbox hg; have hcz12_0 : w11.cell? ⟨gb226, 0, none⟩ = some (.slice A0_0 l0_0.length c0_0) := (b4 BK226.out 0).trans rfl; have hfz12_0 := b9 BK226.out 0; have p230 : 0 ≤ ((l1.length : Int) : Int) := of_decide_eq_true (by first | (with_reducible assumption) | assumption); have q230 : (l1.length : Int) < (l0_0.length : Int) := of_decide_eq_true (by first | (with_reducible assumption) | assumption); obtain ⟨ad230, e230, hx230_0, hx230_1⟩ := at_T54 HR0_0.out (l1.length : Int) p230 q230; cases e230; replace hx230_0 := (HB.out.cell (World.block_lt_of_cell? w _ hx230_0)).trans hx230_0; replace hx230_1 := (HB.out.cell (World.block_lt_of_cell? w _ hx230_1)).trans hx230_1; (try simp only [Go.IntWalk.toNatUp] at hx230_0); (try simp only [Go.IntWalk.toNatUp] at hx230_1); replace p230 := eq_true p230; replace q230 := eq_true q230) | ((with_reducible refine gate_dst (N := 6) rfl ?_); refine box_event ?hg (N := 6) ?hd (cs := #[.int .i64 0, .int .i64 0]) (t := 54) ?hr ?_; (case hd => rfl); (case hg => rfl); (case hr => first | (go_simp; done) | (go_simp; rfl)); intro gb231 hg w13 hbox hb; have n0_ := Aside0.mk (Kd.V_below (Kd.V_elderB (by (with_reducible repeat (first | apply Kd.V_alloc | apply Kd.V_drewN | apply Kd.V_drew)); exact HO1.out) gb231 (Nat.le_of_eq hg.symm)) hb); have n1_ := Aside0.mk (b5 (g := gb226) (o := .cells #[.slice (some ad230) l0_0.length c0_0] 24 (0, 0)) (by (with_reducible repeat (first | refine b0 ?_ _ | refine b1 ?_ | refine b2 ?_ _)); exact BK226.out) hb); have n2_ := Aside0.mk (b13 (by repeat (first | (with_reducible first | exact HB.out | apply b8 | apply b6 | apply b7 | refine b3 ?_ GE226.out) | exact HB.out)) hb); have n3_ := Aside0.mk (hbox); have n4_ := Aside0.mk ((by rw [hg]; exact (b12 (by repeat (first | (with_reducible first | exact HB.out | apply b8 | apply b6 | apply b7 | refine b3 ?_ GE226.out) | exact HB.out))) : w.heap.size ≤ gb231)); have n5_ := Aside0.mk ((by rw [hg]; exact (b12 (by repeat (first | (with_reducible first | exact HB.out | apply b8 | apply b6 | apply b7 | refine b3 ?_ GE226.out) | exact HB.out))) : w.heap.size ≤ gb231)); have n6_ := Aside0.mk ((by rw [hg]; exact Nat.ne_of_lt (b10 (g := gb226) (o := .cells #[.slice (some ad230) l0_0.length c0_0] 24 (0, 0)) (by (with_reducible repeat (first | refine b0 ?_ _ | refine b1 ?_ | refine b2 ?_ _)); exact BK226.out)) : gb226 ≠ gb231)); have n7_ := Aside0.mk ((by rw [hg]; exact Nat.ne_of_gt (b10 (g := gb226) (o := .cells #[.slice (some ad230) l0_0.length c0_0] 24 (0, 0)) (by (with_reducible repeat (first | refine b0 ?_ _ | refine b1 ?_ | refine b2 ?_ _)); exact BK226.out)) : gb231 ≠ gb226)); clear HO1; clear BK226; clear HB; have HO1 := n0_; have BK226 := n1_; have HB := n2_; have BK231 := n3_; have GW231 := n4_; have GE231 := n5_; have NB226_231 := n6_; have NB231_226 := n7_; clear n0_ n1_ n2_ n3_ n4_ n5_ n6_ n7_; clear hb hbox hg; have hnb14 := NB231_226.out; have hnc14 := NB226_231.out; have hcz15_0 : w13.cell? ⟨gb231, 0, none⟩ = some (.int .i64 0) := (b4 BK231.out 0).trans rfl; have hcz15_1 : w13.cell? ⟨gb231, 1, none⟩ = some (.int .i64 0) := (b4 BK231.out 1).trans rfl; have hfz15_0 := b9 BK231.out 0; have hfz15_1 := b9 BK231.out 1))
    (try simp only [Act.put, l1, l2, l3])
    go_cut [7] (fun v7 wc => ∃ (kq : Nat) (x7_9 : Int), v7 = .int .i64 x7_9 ∧ Aside0 (tensileref05_Lists.j0 kq l1 ([] : List (List Int)) x7_9 l0_0 ((rd_T54 l0_0 (l1.length : Int)).f0) ((rd_T54 l0_0 (l1.length : Int)).f1) = some r) ∧ Aside0 (kq ≤ k) ∧ Aside0 (Kd.V (Kd.int .i64) 3 wc w.heap.size (fun k_ => (P1_ k_ ∨ w.heap.size ≤ k_) ∧ some k_ ≠ ((.slice none 0 0) : Value).ownBlock ∧ k_ ≠ gb226 ∧ k_ ≠ gb231) (.slice A1 l1.length c1) l1) ∧ Aside0 (Kd.N (Kd.slice 3 (Kd.int .i64)) 31 wc w.heap.size (fun k_ => (P1_ k_ ∨ w.heap.size ≤ k_) ∧ k_ ≠ gb226 ∧ k_ ≠ gb231) (.slice none 0 0) ([] : List (List Int))) ∧ Aside0 (wc.heap[gb226]? = some (.cells #[(.slice (some ad230) l0_0.length c0_0)] 24 (0, 0))) ∧ Aside0 (wc.heap[gb231]? = some (.cells #[.int .i64 ((rd_T54 l0_0 (l1.length : Int)).f0), .int .i64 ((rd_T54 l0_0 (l1.length : Int)).f1)] 54 (0, 0))) ∧ Aside0 (Below w.heap.size w wc))
    case first =>
     have H := HC10.out
     clear HC10
     by_cases c16 : (l1.length : Int) > 0
     ·
      rw [if_pos c16] at H
      have c16b0 : decide (0 < (l1.length : Int)) = true := decide_eq_true c16
      have c16b1 : decide (0 < l1.length) = true := decide_eq_true (by omega)
      clear c16
      (first | rw [c16b0] | rw [c16b1] | (simp only [i64_w, i32_w]; rw [c16b0]) | skip)
      obtain ⟨ji17, hji17⟩ : ∃ j_ : Int, (wrap64 ((l1.length : Int) - 1)) = j_ := ⟨_, rfl⟩
      replace H : (if 0 ≤ (ji17) then (if (ji17) < (l1.length : Int) then (tensileref05_Lists.j0 k l1 ([] : List (List Int)) (mx ((rd_T54 l0_0 (l1.length : Int)).f0) (rd l1 (ji17))) l0_0 ((rd_T54 l0_0 (l1.length : Int)).f0) ((rd_T54 l0_0 (l1.length : Int)).f1)) else (none)) else (none)) = some r := by first | (rw [hji17] at H; exact H) | (simp only [hji17] at H ⊢; exact H)
      have hji17w : (IntKind.i64.wrap ((l1.length : Int) - 1)) = ji17 := (i64_w _).trans hji17
      by_cases c18 : 0 ≤ (ji17)
      ·
       rw [if_pos c18] at H
       have c18b0 : decide (0 ≤ (ji17)) = true := decide_eq_true c18
       clear c18
       by_cases c19 : (ji17) < (l1.length : Int)
       ·
        rw [if_pos c19] at H
        have c19b0 : decide ((ji17) < (l1.length : Int)) = true := decide_eq_true c19
        clear c19
        obtain ⟨ji20, hji20⟩ : ∃ j_ : Int, (mx ((rd_T54 l0_0 (l1.length : Int)).f0) (rd l1 (ji17))) = j_ := ⟨_, rfl⟩
        replace H : (tensileref05_Lists.j0 k l1 ([] : List (List Int)) ji20 l0_0 ((rd_T54 l0_0 (l1.length : Int)).f0) ((rd_T54 l0_0 (l1.length : Int)).f1)) = some r := by first | (rw [hji20] at H; exact H) | (simp only [hji20] at H ⊢; exact H)
        have hji20_ : (if ((rd_T54 l0_0 (l1.length : Int)).f0) < (rd l1 (ji17)) then (rd l1 (ji17)) else ((rd_T54 l0_0 (l1.length : Int)).f0)) = ji20 := hji20
        have H' := Aside0.mk H
        clear H
        have p232 : 0 ≤ ((ji17) : Int) := of_decide_eq_true (by first | (with_reducible assumption) | assumption)
        have q232 : (ji17) < (l1.length : Int) := of_decide_eq_true (by first | (with_reducible assumption) | assumption)
        obtain ⟨ad232, e232, hx232_0⟩ := Kd.at_int (Kd.V_reads' (Kd.V_far (p := ⟨gb231, 1, none⟩) (Kd.V_far (p := ⟨gb231, 0, none⟩) (Kd.V_mono HO1.out (fun k_ hk => (⟨hk, hk.2⟩ : _ ∧ k_ ≠ gb231))) (fun _ hk => hk.2) (.int .i64 ((rd_T54 l0_0 (l1.length : Int)).f0))) (fun _ hk => hk.2) (.int .i64 ((rd_T54 l0_0 (l1.length : Int)).f1)))).2.2 (ji17) p232 q232
        cases e232
        replace p232 := eq_true p232
        replace q232 := eq_true q232
        go_wp2
        go_meet
        case rel => exact ⟨_, (ji20), (by first | rfl | (simp; done) | (simp only [← hji20] <;> (first | rfl | simp)) | (simp [*]; done)), H', ⟨by first | omega | exact Nat.le_refl _⟩, ⟨by (with_reducible repeat (first | apply Kd.V_alloc | apply Kd.V_drewN | apply Kd.V_drew)); exact Kd.V_mono (Kd.V_far (p := ⟨gb231, 1, none⟩) (Kd.V_far (p := ⟨gb231, 0, none⟩) (Kd.V_mono HO1.out (fun k_ hk => (⟨hk, hk.2⟩ : _ ∧ k_ ≠ gb231))) (fun _ hk => hk.2) (.int .i64 ((rd_T54 l0_0 (l1.length : Int)).f0))) (fun _ hk => hk.2) (.int .i64 ((rd_T54 l0_0 (l1.length : Int)).f1))) (fun _ hk => ⟨hk.1.1.1, ⟨(by simp [Value.ownBlock]), ⟨hk.1.1.2, hk.1.2⟩⟩⟩)⟩, ⟨by first | exact Kd.S_nil _ _ _ _ _ | exact Kd.N_nil _ _ _ _ _ | exact Kd.V_nil _ _ _ _ _ | exact Kd.Q_nil _ _ _ _ _ | exact Kd.R_nil _ _ _ _ _⟩, ⟨by (with_reducible repeat (first | refine b0 ?_ _ | refine b1 ?_ | refine b2 ?_ _)); refine b11 ?_ NB226_231.out _; (with_reducible repeat (first | refine b0 ?_ _ | refine b1 ?_ | refine b2 ?_ _)); refine b11 ?_ NB226_231.out _; (with_reducible repeat (first | refine b0 ?_ _ | refine b1 ?_ | refine b2 ?_ _)); exact BK226.out⟩, ⟨by (with_reducible repeat (first | refine b0 ?_ _ | refine b1 ?_ | refine b2 ?_ _)); refine blk_put (cs := #[.int .i64 ((rd_T54 l0_0 (l1.length : Int)).f0), .int .i64 0]) ?_ 1 _ rfl; (with_reducible repeat (first | refine b0 ?_ _ | refine b1 ?_ | refine b2 ?_ _)); refine blk_put (cs := #[.int .i64 0, .int .i64 0]) ?_ 0 _ rfl; (with_reducible repeat (first | refine b0 ?_ _ | refine b1 ?_ | refine b2 ?_ _)); exact BK231.out⟩, ⟨by repeat (first | (with_reducible first | exact HB.out | apply b8 | apply b6 | apply b7 | refine b3 ?_ GE226.out | refine b3 ?_ GE231.out) | exact HB.out)⟩⟩
       ·
        rw [if_neg c19] at H
        exact absurd H (by simp)
      ·
       rw [if_neg c18] at H
       exact absurd H (by simp)
     ·
      rw [if_neg c16] at H
      have c16b0 : decide (0 < (l1.length : Int)) = false := decide_eq_false c16
      have c16b1 : decide (0 < l1.length) = false := decide_eq_false (by omega)
      clear c16
      (first | rw [c16b0] | rw [c16b1] | (simp only [i64_w, i32_w]; rw [c16b0]) | skip)
      have H' := Aside0.mk H
      clear H
      go_wp2
      go_meet
      case rel => exact ⟨_, ((rd_T54 l0_0 (l1.length : Int)).f0), (by first | rfl | (simp; done) | (simp [*]; done)), H', ⟨by first | omega | exact Nat.le_refl _⟩, ⟨by (with_reducible repeat (first | apply Kd.V_alloc | apply Kd.V_drewN | apply Kd.V_drew)); exact Kd.V_mono (Kd.V_far (p := ⟨gb231, 1, none⟩) (Kd.V_far (p := ⟨gb231, 0, none⟩) (Kd.V_mono HO1.out (fun k_ hk => (⟨hk, hk.2⟩ : _ ∧ k_ ≠ gb231))) (fun _ hk => hk.2) (.int .i64 ((rd_T54 l0_0 (l1.length : Int)).f0))) (fun _ hk => hk.2) (.int .i64 ((rd_T54 l0_0 (l1.length : Int)).f1))) (fun _ hk => ⟨hk.1.1.1, ⟨(by simp [Value.ownBlock]), ⟨hk.1.1.2, hk.1.2⟩⟩⟩)⟩, ⟨by first | exact Kd.S_nil _ _ _ _ _ | exact Kd.N_nil _ _ _ _ _ | exact Kd.V_nil _ _ _ _ _ | exact Kd.Q_nil _ _ _ _ _ | exact Kd.R_nil _ _ _ _ _⟩, ⟨by (with_reducible repeat (first | refine b0 ?_ _ | refine b1 ?_ | refine b2 ?_ _)); refine b11 ?_ NB226_231.out _; (with_reducible repeat (first | refine b0 ?_ _ | refine b1 ?_ | refine b2 ?_ _)); refine b11 ?_ NB226_231.out _; (with_reducible repeat (first | refine b0 ?_ _ | refine b1 ?_ | refine b2 ?_ _)); exact BK226.out⟩, ⟨by (with_reducible repeat (first | refine b0 ?_ _ | refine b1 ?_ | refine b2 ?_ _)); refine blk_put (cs := #[.int .i64 ((rd_T54 l0_0 (l1.length : Int)).f0), .int .i64 0]) ?_ 1 _ rfl; (with_reducible repeat (first | refine b0 ?_ _ | refine b1 ?_ | refine b2 ?_ _)); refine blk_put (cs := #[.int .i64 0, .int .i64 0]) ?_ 0 _ rfl; (with_reducible repeat (first | refine b0 ?_ _ | refine b1 ?_ | refine b2 ?_ _)); exact BK231.out⟩, ⟨by repeat (first | (with_reducible first | exact HB.out | apply b8 | apply b6 | apply b7 | refine b3 ?_ GE226.out | refine b3 ?_ GE231.out) | exact HB.out)⟩⟩
    case rest =>
     clear HC10
     try clear c1
     try clear p2
     try clear q2
     try clear hx2
     try clear c3
     try clear c3b0
     try clear c3b1
     try clear c3b2
     try clear c5
     try clear p6
     try clear c8
     try clear c8b0
     try clear c8b1
     try clear c9
     try clear c9b0
     try clear c9b1
     try clear c14
     try clear c16
     try clear c16b0
     try clear c16b1
     try clear c18
     try clear c18b0
     try clear c19
     try clear c19b0
     try clear hcz12_0
     try clear hcz15_0
     try clear hcz15_1
     try clear hcz5_0
     try clear hfz12_0
     try clear hfz15_0
     try clear hfz15_1
     try clear hfz5_0
     try clear hx230_0
     try clear hx230_1
     try clear hx232_0
     try clear p230
     try clear p232
     try clear q230
     try clear q232
     obtain ⟨kq, x7_9, rfl, HA, HJ9, HO_1, HO_5, BK226, BK231, HB⟩ := hcut
     cases kq with
     | zero => exact absurd HA.out (by simp [tensileref05_Lists.j0])
     | succ kj9 =>
      have H := HA.out
      clear HA
      simp only [tensileref05_Lists.j0] at H
      have H' := Aside0.mk H
      clear H
      go_wp2
      go_loopg [5, 9] kj9 (fun kq v5 v9 w' => ∃ (x5_2 : List (List Int)) (x9_2 : Int), v9 = .int .i64 x9_2 ∧ Aside0 (tensileref05_Lists.l0 kq l1 x5_2 x9_2 l0_0 ((rd_T54 l0_0 (l1.length : Int)).f0) ((rd_T54 l0_0 (l1.length : Int)).f1) = some r) ∧ Aside0 (kq ≤ kj9) ∧ Aside0 (Kd.V (Kd.int .i64) 3 w' w.heap.size (fun k_ => (P1_ k_ ∨ w.heap.size ≤ k_) ∧ some k_ ≠ (v5 : Value).ownBlock ∧ k_ ≠ gb226 ∧ k_ ≠ gb231) (.slice A1 l1.length c1) l1) ∧ Aside0 (Kd.N (Kd.slice 3 (Kd.int .i64)) 31 w' w.heap.size (fun k_ => (P1_ k_ ∨ w.heap.size ≤ k_) ∧ k_ ≠ gb226 ∧ k_ ≠ gb231) v5 x5_2) ∧ Aside0 (w'.heap[gb226]? = some (.cells #[(.slice (some ad230) l0_0.length c0_0)] 24 (0, 0))) ∧ Aside0 (w'.heap[gb231]? = some (.cells #[.int .i64 ((rd_T54 l0_0 (l1.length : Int)).f0), .int .i64 ((rd_T54 l0_0 (l1.length : Int)).f1)] 54 (0, 0))) ∧ Aside0 (Below w.heap.size w w'))
      case atStart => exact ⟨(([] : List (List Int))), (x7_9), (by first | rfl | (simp; done) | (simp [*]; done)), H', ⟨Nat.le_refl _⟩, ⟨by (with_reducible repeat (first | apply Kd.V_alloc | apply Kd.V_drewN | apply Kd.V_drew)); exact HO_1.out⟩, ⟨by (with_reducible repeat (first | apply Kd.N_alloc | apply Kd.N_drewN | apply Kd.N_drew)); exact HO_5.out⟩, ⟨by (with_reducible repeat (first | refine b0 ?_ _ | refine b1 ?_ | refine b2 ?_ _)); exact BK226.out⟩, ⟨by (with_reducible repeat (first | refine b0 ?_ _ | refine b1 ?_ | refine b2 ?_ _)); exact BK231.out⟩, ⟨by repeat (first | (with_reducible first | exact HB.out | apply b8 | apply b6 | apply b7 | refine b3 ?_ GE226.out | refine b3 ?_ GE231.out) | exact HB.out)⟩⟩
      case round =>
       clear H'
       try clear c1
       try clear p2
       try clear q2
       try clear hx2
       try clear c3
       try clear c3b0
       try clear c3b1
       try clear c3b2
       try clear c5
       try clear p6
       try clear c8
       try clear c8b0
       try clear c8b1
       try clear c9
       try clear c9b0
       try clear c9b1
       try clear c14
       try clear c16
       try clear c16b0
       try clear c16b1
       try clear c18
       try clear c18b0
       try clear c19
       try clear c19b0
       try clear hcz12_0
       try clear hcz15_0
       try clear hcz15_1
       try clear hcz5_0
       try clear hfz12_0
       try clear hfz15_0
       try clear hfz15_1
       try clear hfz5_0
       try clear hx230_0
       try clear hx230_1
       try clear hx232_0
       try clear p2
       try clear p230
       try clear p232
       try clear p6
       try clear q2
       try clear q230
       try clear q232
       obtain ⟨x5_2, x9_2, rfl, HA, HK2, HO_1, HO_5, BK226, BK231, HB⟩ := hrel
       cases gk with
       | zero => exact absurd HA.out (by simp [tensileref05_Lists.l0])
       | succ k2 =>
        have H := HA.out
        clear HA
        simp only [tensileref05_Lists.l0] at H
        by_cases c21 : x9_2 ≤ ((rd_T54 l0_0 (l1.length : Int)).f1)
        ·
         rw [if_pos c21] at H
         have c21b0 : decide (x9_2 ≤ ((rd_T54 l0_0 (l1.length : Int)).f1)) = true := decide_eq_true c21
         clear c21
         obtain ⟨y233, hy233⟩ : ∃ y_ : List Int, y_ = (([] : List Int)) := ⟨_, rfl⟩
         replace H : (if y233.length + l1.length < 17592186044416 then ((some (y233 ++ l1 : List Int)).bind fun y236 => ((some (([x9_2] : List Int) : List Int)).bind fun y239 => (if y236.length + y239.length < 17592186044416 then ((tensileref05_Lists.f k2 l0_0 (y236 ++ y239)).bind fun t245 => (if x5_2.length + t245.length < 5864062014805 then (tensileref05_Lists.l0 k2 l1 (x5_2 ++ t245) (wrap64 (x9_2 + 1)) l0_0 ((rd_T54 l0_0 (l1.length : Int)).f0) ((rd_T54 l0_0 (l1.length : Int)).f1)) else (none))) else (none)))) else (none)) = some r := by first | (rw [hy233]; with_reducible exact H) | (have H2_ := (Option.bind_some _ _).symm.trans H; rw [hy233]; with_reducible exact H2_) | (have H2_ := (Option.bind_some _ _).symm.trans H; with_reducible exact H2_) | with_reducible exact H | (rw [hy233]; exact H) | exact H
         have Ny233 := Aside0.mk hy233
         clear hy233
         by_cases c22 : y233.length + l1.length < 17592186044416
         ·
          rw [if_pos c22] at H
          have LMc22 := Aside0.mk c22
          clear c22
          obtain ⟨y236, hy236⟩ : ∃ y_ : List Int, y_ = (y233 ++ l1) := ⟨_, rfl⟩
          replace H : ((some (([x9_2] : List Int) : List Int)).bind fun y239 => (if y236.length + y239.length < 17592186044416 then ((tensileref05_Lists.f k2 l0_0 (y236 ++ y239)).bind fun t245 => (if x5_2.length + t245.length < 5864062014805 then (tensileref05_Lists.l0 k2 l1 (x5_2 ++ t245) (wrap64 (x9_2 + 1)) l0_0 ((rd_T54 l0_0 (l1.length : Int)).f0) ((rd_T54 l0_0 (l1.length : Int)).f1)) else (none))) else (none))) = some r := by first | (rw [hy236]; with_reducible exact H) | (have H2_ := (Option.bind_some _ _).symm.trans H; rw [hy236]; with_reducible exact H2_) | (have H2_ := (Option.bind_some _ _).symm.trans H; with_reducible exact H2_) | with_reducible exact H | (rw [hy236]; exact H) | exact H
          have Ny236 := Aside0.mk hy236
          clear hy236
          obtain ⟨y239, hy239⟩ : ∃ y_ : List Int, y_ = (([x9_2] : List Int)) := ⟨_, rfl⟩
          replace H : (if y236.length + y239.length < 17592186044416 then ((tensileref05_Lists.f k2 l0_0 (y236 ++ y239)).bind fun t245 => (if x5_2.length + t245.length < 5864062014805 then (tensileref05_Lists.l0 k2 l1 (x5_2 ++ t245) (wrap64 (x9_2 + 1)) l0_0 ((rd_T54 l0_0 (l1.length : Int)).f0) ((rd_T54 l0_0 (l1.length : Int)).f1)) else (none))) else (none)) = some r := by first | (rw [hy239]; with_reducible exact H) | (have H2_ := (Option.bind_some _ _).symm.trans H; rw [hy239]; with_reducible exact H2_) | (have H2_ := (Option.bind_some _ _).symm.trans H; with_reducible exact H2_) | with_reducible exact H | (rw [hy239]; exact H) | exact H
          have Ny239 := Aside0.mk hy239
          clear hy239
          by_cases c23 : y236.length + y239.length < 17592186044416
          ·
           rw [if_pos c23] at H
           have LMc23 := Aside0.mk c23
           clear c23
           obtain ⟨y242, hy242⟩ : ∃ y_ : List Int, y_ = (y236 ++ y239) := ⟨_, rfl⟩
           replace H : ((tensileref05_Lists.f k2 l0_0 y242).bind fun t245 => (if x5_2.length + t245.length < 5864062014805 then (tensileref05_Lists.l0 k2 l1 (x5_2 ++ t245) (wrap64 (x9_2 + 1)) l0_0 ((rd_T54 l0_0 (l1.length : Int)).f0) ((rd_T54 l0_0 (l1.length : Int)).f1)) else (none))) = some r := by first | (rw [hy242]; with_reducible exact H) | (have H2_ := (Option.bind_some _ _).symm.trans H; rw [hy242]; with_reducible exact H2_) | (have H2_ := (Option.bind_some _ _).symm.trans H; with_reducible exact H2_) | with_reducible exact H | (rw [hy242]; exact H) | exact H
           have Ny242 := Aside0.mk hy242
           clear hy242
           replace H := Option.bind_eq_some_iff.mp H
           obtain ⟨t245, A240, H⟩ := H
           replace H : (if x5_2.length + t245.length < 5864062014805 then (tensileref05_Lists.l0 k2 l1 (x5_2 ++ t245) (wrap64 (x9_2 + 1)) l0_0 ((rd_T54 l0_0 (l1.length : Int)).f0) ((rd_T54 l0_0 (l1.length : Int)).f1)) else (none)) = some r := H
           have A24 := Aside0.mk A240
           clear A240
           by_cases c25 : x5_2.length + t245.length < 5864062014805
           ·
            rw [if_pos c25] at H
            have LMc25 := Aside0.mk c25
            clear c25
            obtain ⟨y248, hy248⟩ : ∃ y_ : List (List Int), y_ = (x5_2 ++ t245) := ⟨_, rfl⟩
            replace H : (tensileref05_Lists.l0 k2 l1 y248 (wrap64 (x9_2 + 1)) l0_0 ((rd_T54 l0_0 (l1.length : Int)).f0) ((rd_T54 l0_0 (l1.length : Int)).f1)) = some r := by first | (rw [hy248]; with_reducible exact H) | (have H2_ := (Option.bind_some _ _).symm.trans H; rw [hy248]; with_reducible exact H2_) | (have H2_ := (Option.bind_some _ _).symm.trans H; with_reducible exact H2_) | with_reducible exact H | (rw [hy248]; exact H) | exact H
            have Ny248 := Aside0.mk hy248
            clear hy248
            have H' := Aside0.mk H
            clear H
            have hnb26 := NB231_226.out
            have hnc26 := NB226_231.out
            have hcz27_0 : wr.cell? ⟨gb231, 0, none⟩ = some (.int .i64 ((rd_T54 l0_0 (l1.length : Int)).f0)) := (b4 BK231.out 0).trans rfl
            have hcz27_1 : wr.cell? ⟨gb231, 1, none⟩ = some (.int .i64 ((rd_T54 l0_0 (l1.length : Int)).f1)) := (b4 BK231.out 1).trans rfl
            have hfz27_0 := b9 BK231.out 0
            have hfz27_1 := b9 BK231.out 1
            obtain ⟨Ao28, co28, eo28⟩ := Kd.N_slice HO_5.out
            subst eo28
            try go_wp2
            have n0_ := Aside0.mk (Kd.V_drew HO_1.out)
            have n1_ := Aside0.mk (Kd.N_drew HO_5.out)
            have n2_ := Aside0.mk (b1 BK226.out)
            have n3_ := Aside0.mk (b1 BK231.out)
            have n4_ := Aside0.mk (b7 HB.out)
            clear HO_1
            clear HO_5
            clear BK226
            clear BK231
            clear HB
            have HO_1 := n0_
            have HO_5 := n1_
            have BK226 := n2_
            have BK231 := n3_
            have HB := n4_
            clear n0_ n1_ n2_ n3_ n4_
            refine start_ (n := 11) (S := fun w' => w'.cell? ⟨gb226, 0, none⟩ = some (.slice (some ad230) l0_0.length c0_0)) (ds := []) #[ff,ff,ff,ff,ff,ff,ff,ff,ff,ff,ff] (by kernel_rfl) rfl rfl ((b4 BK226.out 0).trans rfl) (fun hHeld => ?_); refine with_tabW tensileref05_Lists.tab12 tensileref05_Lists.bits12 (fun HT_ HW_ => ?_)
            generalize wr.drew = w29 at HO_1 HO_5 BK226 BK231 HB hHeld ⊢
            refine pure_ (i := 0) (N := some 44) (v := ?_) (a' := ?_) #[tt,ff,ff,ff,ff,ff,ff,ff,ff,ff,ff] rfl rfl (any_of HT_.out (by kernel_rfl)) (fun _ _ _ h => h) (Or.inl ⟨by rfl, ?_⟩) ?_ ?_
            rotate_left
            ·
             intro w'
             go_simp
             with_reducible rfl
            rotate_left
            ·
             simp only [Act.put, l1, l2, l3, i64_w, i32_w]
             rfl
            refine pure_ (i := 3) (N := some 47) (v := ?_) (a' := ?_) #[tt,ff,ff,tt,ff,ff,ff,ff,ff,ff,ff] rfl rfl (any_of HT_.out (by kernel_rfl)) (fun _ _ _ h => h) (Or.inl ⟨by rfl, ?_⟩) ?_ ?_
            rotate_left
            ·
             intro w'
             go_simp
             with_reducible rfl
            rotate_left
            ·
             simp only [Act.put, l1, l2, l3, i64_w, i32_w]
             rfl
            refine pure_ (i := 5) (N := some 49) (v := ?_) (a' := ?_) #[tt,ff,ff,tt,ff,tt,ff,ff,ff,ff,ff] rfl rfl (any_of HT_.out (by kernel_rfl)) (fun _ _ _ h => h) (Or.inl ⟨by rfl, ?_⟩) ?_ ?_
            rotate_left
            ·
             intro w'
             go_simp
             with_reducible rfl
            rotate_left
            ·
             simp only [Act.put, l1, l2, l3, i64_w, i32_w]
             rfl
            refine take_ (i := 1) (N := some 45) (v := ?_) (a' := ?_) #[tt,tt,ff,tt,ff,tt,ff,ff,ff,ff,ff] rfl rfl (take_ofW HT_.out HW_.out (by kernel_rfl)) (fun _ _ _ h => h) (Or.inl ⟨by rfl, ?_⟩) hHeld ?_ ?_
            rotate_left
            ·
             intro w' s0
             go_simp
             with_reducible rfl
            rotate_left
            ·
             simp only [Act.put, l1, l2, l3, i64_w, i32_w]
             rfl
            refine join_ (σ := Value × Value × Value) 4 #[tt,tt,tt,tt,tt,tt,tt,ff,ff,ff,ff] (fun s_ => [(46, s_.1), (48, s_.2.1), (50, s_.2.2)]) (fun s_ w' => (w'.cell? ⟨gb226, 0, none⟩ = some (.slice (some ad230) l0_0.length c0_0)) ∧ (Kd.R (Kd.int .i64) 3 w' w.heap.size (fun k_ => (w.heap.size ≤ k_) ∧ some k_ ≠ (s_.2.2 : Value).ownBlock) s_.2.1 y236) ∧ (Kd.R (Kd.int .i64) 3 w' w.heap.size (fun k_ => (w.heap.size ≤ k_) ∧ some k_ ≠ (s_.2.1 : Value).ownBlock) s_.2.2 y239) ∧ (Kd.V (Kd.int .i64) 3 w' w.heap.size (fun k_ => (P1_ k_ ∨ w.heap.size ≤ k_) ∧ some k_ ≠ (s_.2.1 : Value).ownBlock ∧ some k_ ≠ (s_.2.2 : Value).ownBlock ∧ some k_ ≠ (.slice Ao28 x5_2.length co28 : Value).ownBlock ∧ k_ ≠ gb226 ∧ k_ ≠ gb231) (.slice A1 l1.length c1) l1) ∧ (Kd.N (Kd.slice 3 (Kd.int .i64)) 31 w' w.heap.size (fun k_ => (P1_ k_ ∨ w.heap.size ≤ k_) ∧ some k_ ≠ (s_.2.1 : Value).ownBlock ∧ some k_ ≠ (s_.2.2 : Value).ownBlock ∧ k_ ≠ gb226 ∧ k_ ≠ gb231) (.slice Ao28 x5_2.length co28) x5_2) ∧ (w'.heap[gb226]? = some (.cells #[.slice (some ad230) l0_0.length c0_0] 24 (0, 0))) ∧ (w'.heap[gb231]? = some (.cells #[.int .i64 ((rd_T54 l0_0 (l1.length : Int)).f0), .int .i64 ((rd_T54 l0_0 (l1.length : Int)).f1)] 54 (0, 0))) ∧ (Below w.heap.size w w')) ?_ ?_
            rotate_left
            ·
             intro hCont
             refine two_ (i := 2) (j := 6) (Ni := some 46) (Nj := some 50) #[tt,tt,tt,tt,ff,tt,ff,ff,ff,ff,ff] #[tt,tt,ff,tt,ff,tt,tt,ff,ff,ff,ff] rfl rfl rfl rfl (two_of HT_.out (by kernel_rfl)) (by decide) (by decide) (fun K hK => ?_) (fun K hK => ?_)
             ·
              skip
              refine Kd.R_lit_step (Kd.int .i64) _ 3 ?hg (N := 46) ?hd (xs := ([] : List Int)) (inner := []) (ok := fun _ => True) (okp := fun _ => True) ?hr ?hp (fun _ hk => hk) trivial (Below.refl _ _) (Nat.le_refl _) (by simp) ?_; (case hd => rfl); (case hg => rfl); (case hr => first | (go_simp; done) | (go_simp; rfl)); (case hp => exact (Reps.none _ _))
              intro v234 w30 ho31 hb hg_ hnew_
              clear hg_ hnew_
              (first | rw [← Ny233.out] at ho31 | (simp only [Int.reduceToNat] at ho31; rw [← Ny233.out] at ho31))
              have n0_ := Aside0.mk (Kd.V_elder' (by (with_reducible repeat (first | apply Kd.V_alloc | apply Kd.V_drewN | apply Kd.V_drew)); exact HO_1.out) (k7 ho31) hb)
              have n1_ := Aside0.mk (Kd.N_elder' (by (with_reducible repeat (first | apply Kd.N_alloc | apply Kd.N_drewN | apply Kd.N_drew)); exact HO_5.out) (k7 ho31) hb)
              have n2_ := Aside0.mk (k12 (Kd.R_newM (M := fun k_ => (w.heap.size ≤ k_)) ho31 (b12 (by repeat (first | (with_reducible first | exact HB.out | apply b8 | apply b6 | apply b7 | refine b3 ?_ GE226.out | refine b3 ?_ GE231.out) | exact HB.out))) (fun k_ h_ => h_)) (b12 (by repeat (first | (with_reducible first | exact HB.out | apply b8 | apply b6 | apply b7 | refine b3 ?_ GE226.out | refine b3 ?_ GE231.out) | exact HB.out))))
              have n3_ := Aside0.mk (b5 (g := gb226) (o := .cells #[.slice (some ad230) l0_0.length c0_0] 24 (0, 0)) (by (with_reducible repeat (first | refine b0 ?_ _ | refine b1 ?_ | refine b2 ?_ _)); exact BK226.out) hb)
              have n4_ := Aside0.mk (b5 (g := gb231) (o := .cells #[.int .i64 ((rd_T54 l0_0 (l1.length : Int)).f0), .int .i64 ((rd_T54 l0_0 (l1.length : Int)).f1)] 54 (0, 0)) (by (with_reducible repeat (first | refine b0 ?_ _ | refine b1 ?_ | refine b2 ?_ _)); exact BK231.out) hb)
              have n5_ := Aside0.mk (b13 (by repeat (first | (with_reducible first | exact HB.out | apply b8 | apply b6 | apply b7 | refine b3 ?_ GE226.out | refine b3 ?_ GE231.out) | exact HB.out)) hb)
              clear HO_1
              clear HO_5
              clear BK226
              clear BK231
              clear HB
              have HO_1 := n0_
              have HO_5 := n1_
              have HO235 := n2_
              have BK226 := n3_
              have BK231 := n4_
              have HB := n5_
              clear n0_ n1_ n2_ n3_ n4_ n5_
              clear hb ho31
              refine hK.out _ _ ((b4 BK226.out 0).trans rfl) (fun hHeld => ?_)
              clear hK K
              refine norm_ (a' := ?_) ?_ ?_
              rotate_left
              ·
               show Act.put _ (some 46) _ = _
               simp only [Act.put, l1, l2, l3, i64_w, i32_w]
               rfl
              refine two_ (i := 4) (j := 6) (Ni := some 48) (Nj := some 50) #[tt,tt,tt,tt,tt,tt,ff,ff,ff,ff,ff] #[tt,tt,tt,tt,ff,tt,tt,ff,ff,ff,ff] rfl rfl rfl rfl (two_of HT_.out (by kernel_rfl)) (by decide) (by decide) (fun K hK => ?_) (fun K hK => ?_)
              ·
               skip
               refine Kd.R_append_rows_step (Kd.int .i64) (w0 := w) w.heap.size (by rfl) (.tmp 46) (.tmp 47) 31 3 (.int .i64 0) 8 rfl Try.underlying31 info3 rfl (by decide) (by omega) v234 y233 l1 _ _ _ (fun k_ => (w.heap.size ≤ k_)) (fun _ => False) rfl rfl ?aO ?aR (fun _ _ h => h) (fun _ h => h.elim) ?aF ?aB ?aS ?aL ?_
               (case aR => repeat (first | exact (Kd.V_reads' HO_1.out).2.2 | (with_reducible refine k13 ?_ _) | (with_reducible refine k14 ?_ _) | (with_reducible refine k15 ?_)))
               (case aB => exact (by repeat (first | (with_reducible first | exact HB.out | apply b8 | apply b6 | apply b7 | refine b3 ?_ GE226.out | refine b3 ?_ GE231.out) | exact HB.out)))
               (case aF => exact (fun k_ hk => (Nat.le_trans (b12 (by repeat (first | (with_reducible first | exact HB.out | apply b8 | apply b6 | apply b7 | refine b3 ?_ GE226.out | refine b3 ?_ GE231.out) | exact HB.out))) hk)))
               (case aO => exact (by (with_reducible repeat (first | apply k0 | apply k1 | apply k2)); exact k10 HO235.out (fun _ hk => hk.1)))
               (case aS => exact (b12 (by repeat (first | (with_reducible first | exact HB.out | apply b8 | apply b6 | apply b7 | refine b3 ?_ GE226.out | refine b3 ?_ GE231.out) | exact HB.out))))
               (case aL => have := LMc22.out; omega)
               intro v237 w32 ho hb hg hat
               rw [← Ny236.out] at ho
               have n0_ := Aside0.mk (Kd.V_afterv (ok := (fun k_ => (P1_ k_ ∨ w.heap.size ≤ k_) ∧ some k_ ≠ (.slice Ao28 x5_2.length co28 : Value).ownBlock ∧ k_ ≠ gb226 ∧ k_ ≠ gb231)) (by (with_reducible repeat (first | apply Kd.V_alloc | apply Kd.V_drewN | apply Kd.V_drew)); exact HO_1.out) hg hat)
               have n1_ := Aside0.mk (Kd.N_afterv (ok := (fun k_ => (P1_ k_ ∨ w.heap.size ≤ k_) ∧ k_ ≠ gb226 ∧ k_ ≠ gb231)) (by (with_reducible repeat (first | apply Kd.N_alloc | apply Kd.N_drewN | apply Kd.N_drew)); exact HO_5.out) hg hat)
               have n2_ := Aside0.mk (blk_grown (g := gb226) (o := .cells #[.slice (some ad230) l0_0.length c0_0] 24 (0, 0)) (by (with_reducible repeat (first | refine b0 ?_ _ | refine b1 ?_ | refine b2 ?_ _)); exact BK226.out) hg (Kd.R_ne HO235.out BK226.out (by decide)))
               have n3_ := Aside0.mk (blk_grown (g := gb231) (o := .cells #[.int .i64 ((rd_T54 l0_0 (l1.length : Int)).f0), .int .i64 ((rd_T54 l0_0 (l1.length : Int)).f1)] 54 (0, 0)) (by (with_reducible repeat (first | refine b0 ?_ _ | refine b1 ?_ | refine b2 ?_ _)); exact BK231.out) hg (Kd.R_ne HO235.out BK231.out (by decide)))
               have n4_ := Aside0.mk (hb)
               have n5_ := Aside0.mk (ho)
               clear HO_1
               clear HO_5
               clear BK226
               clear BK231
               clear HB
               clear HO235
               have HO_1 := n0_
               have HO_5 := n1_
               have BK226 := n2_
               have BK231 := n3_
               have HB := n4_
               have HO238 := n5_
               clear n0_ n1_ n2_ n3_ n4_ n5_
               clear ho hb hg hat
               refine hK.out _ _ ((b4 BK226.out 0).trans rfl) (fun hHeld => ?_)
               clear hK K
               refine norm_ (a' := ?_) ?_ ?_
               rotate_left
               ·
                show Act.put _ (some 48) _ = _
                simp only [Act.put, l1, l2, l3, i64_w, i32_w]
                rfl
               refine one_ (i := 6) (N := some 50) #[tt,tt,tt,tt,tt,tt,tt,ff,ff,ff,ff] rfl rfl (one_of HT_.out (by kernel_rfl)) (by decide) (fun K hK => ?_)
               refine Kd.R_lit_step (Kd.int .i64) _ 3 ?hg (N := 50) ?hd (xs := ([x9_2] : List Int)) (inner := [.int .i64 x9_2]) (ok := fun _ => True) (okp := fun _ => True) ?hr ?hp (fun _ hk => hk) trivial (Below.refl _ _) (Nat.le_refl _) (by simp) ?_; (case hd => rfl); (case hg => rfl); (case hr => first | (go_simp; done) | (go_simp; rfl)); (case hp => exact (Reps.one (show Kd.M (Kd.int .i64) _ _ _ x9_2 [.int .i64 x9_2] from rfl) (Reps.none _ _)))
               intro v240 w33 ho34 hb hg_ hnew_
               clear hg_ hnew_
               (first | rw [← Ny239.out] at ho34 | (simp only [Int.reduceToNat] at ho34; rw [← Ny239.out] at ho34))
               have n0_ := Aside0.mk (Kd.V_elder' (by (with_reducible repeat (first | apply Kd.V_alloc | apply Kd.V_drewN | apply Kd.V_drew)); exact HO_1.out) (k7 ho34) hb)
               have n1_ := Aside0.mk (Kd.N_elder' (by (with_reducible repeat (first | apply Kd.N_alloc | apply Kd.N_drewN | apply Kd.N_drew)); exact HO_5.out) (k7 ho34) hb)
               have n2_ := Aside0.mk (k6 (by (with_reducible repeat (first | apply k0 | apply k1 | apply k2)); exact HO238.out) (k7 ho34) hb)
               have n3_ := Aside0.mk (k12 (k4 (Kd.R_newM (M := fun k_ => (w.heap.size ≤ k_)) ho34 (b12 (by repeat (first | (with_reducible first | exact HB.out | apply b8 | apply b6 | apply b7 | refine b3 ?_ GE226.out | refine b3 ?_ GE231.out) | exact HB.out))) (fun k_ h_ => h_)) (k5 (by (with_reducible repeat (first | apply k0 | apply k1 | apply k2)); exact HO238.out))) (b12 (by repeat (first | (with_reducible first | exact HB.out | apply b8 | apply b6 | apply b7 | refine b3 ?_ GE226.out | refine b3 ?_ GE231.out) | exact HB.out))))
               have n4_ := Aside0.mk (b5 (g := gb226) (o := .cells #[.slice (some ad230) l0_0.length c0_0] 24 (0, 0)) (by (with_reducible repeat (first | refine b0 ?_ _ | refine b1 ?_ | refine b2 ?_ _)); exact BK226.out) hb)
               have n5_ := Aside0.mk (b5 (g := gb231) (o := .cells #[.int .i64 ((rd_T54 l0_0 (l1.length : Int)).f0), .int .i64 ((rd_T54 l0_0 (l1.length : Int)).f1)] 54 (0, 0)) (by (with_reducible repeat (first | refine b0 ?_ _ | refine b1 ?_ | refine b2 ?_ _)); exact BK231.out) hb)
               have n6_ := Aside0.mk (b13 (by repeat (first | (with_reducible first | exact HB.out | apply b8 | apply b6 | apply b7 | refine b3 ?_ GE226.out | refine b3 ?_ GE231.out) | exact HB.out)) hb)
               clear HO_1
               clear HO_5
               clear HO238
               clear BK226
               clear BK231
               clear HB
               have HO_1 := n0_
               have HO_5 := n1_
               have HO238 := n2_
               have HO241 := n3_
               have BK226 := n4_
               have BK231 := n5_
               have HB := n6_
               clear n0_ n1_ n2_ n3_ n4_ n5_ n6_
               clear hb ho34
               refine hK.out _ _ ((b4 BK226.out 0).trans rfl) (fun hHeld => ?_)
               clear hK K
               refine norm_ (a' := ?_) ?_ ?_
               rotate_left
               ·
                show Act.put _ (some 50) _ = _
                simp only [Act.put, l1, l2, l3, i64_w, i32_w]
                rfl
               exact norm_ (by simp only [putAll, Act.put, l1, l2, l3]) (hCont (v234, v237, v240) _ ⟨hHeld, (by (with_reducible repeat (first | apply k0 | apply k1 | apply k2)); exact HO238.out), (by (with_reducible repeat (first | apply k0 | apply k1 | apply k2)); exact k10 HO241.out (fun _ hk => ⟨hk.1.1, hk.2⟩)), (by (with_reducible repeat (first | apply Kd.V_alloc | apply Kd.V_drewN | apply Kd.V_drew)); exact Kd.V_mono HO_1.out (fun _ hk => ⟨hk.1.1.1, ⟨hk.1.2, ⟨hk.2, ⟨hk.1.1.2.1, ⟨hk.1.1.2.2.1, hk.1.1.2.2.2⟩⟩⟩⟩⟩)), (by (with_reducible repeat (first | apply Kd.N_alloc | apply Kd.N_drewN | apply Kd.N_drew)); exact Kd.N_mono HO_5.out (fun _ hk => ⟨hk.1.1.1, ⟨hk.1.2, ⟨hk.2, ⟨hk.1.1.2.1, hk.1.1.2.2⟩⟩⟩⟩)), (by (with_reducible repeat (first | refine b0 ?_ _ | refine b1 ?_ | refine b2 ?_ _)); exact BK226.out), (by (with_reducible repeat (first | refine b0 ?_ _ | refine b1 ?_ | refine b2 ?_ _)); exact BK231.out), (by repeat (first | (with_reducible first | exact HB.out | apply b8 | apply b6 | apply b7 | refine b3 ?_ GE226.out | refine b3 ?_ GE231.out) | exact HB.out))⟩)
              ·
               skip
               refine Kd.R_lit_step (Kd.int .i64) _ 3 ?hg (N := 50) ?hd (xs := ([x9_2] : List Int)) (inner := [.int .i64 x9_2]) (ok := fun _ => True) (okp := fun _ => True) ?hr ?hp (fun _ hk => hk) trivial (Below.refl _ _) (Nat.le_refl _) (by simp) ?_; (case hd => rfl); (case hg => rfl); (case hr => first | (go_simp; done) | (go_simp; rfl)); (case hp => exact (Reps.one (show Kd.M (Kd.int .i64) _ _ _ x9_2 [.int .i64 x9_2] from rfl) (Reps.none _ _)))
               intro v240 w32 ho33 hb hg_ hnew_
               clear hg_ hnew_
               (first | rw [← Ny239.out] at ho33 | (simp only [Int.reduceToNat] at ho33; rw [← Ny239.out] at ho33))
               have n0_ := Aside0.mk (Kd.V_elder' (by (with_reducible repeat (first | apply Kd.V_alloc | apply Kd.V_drewN | apply Kd.V_drew)); exact HO_1.out) (k7 ho33) hb)
               have n1_ := Aside0.mk (Kd.N_elder' (by (with_reducible repeat (first | apply Kd.N_alloc | apply Kd.N_drewN | apply Kd.N_drew)); exact HO_5.out) (k7 ho33) hb)
               have n2_ := Aside0.mk (k6 (by (with_reducible repeat (first | apply k0 | apply k1 | apply k2)); exact HO235.out) (k7 ho33) hb)
               have n3_ := Aside0.mk (k12 (k4 (Kd.R_newM (M := fun k_ => (w.heap.size ≤ k_)) ho33 (b12 (by repeat (first | (with_reducible first | exact HB.out | apply b8 | apply b6 | apply b7 | refine b3 ?_ GE226.out | refine b3 ?_ GE231.out) | exact HB.out))) (fun k_ h_ => h_)) (k5 (by (with_reducible repeat (first | apply k0 | apply k1 | apply k2)); exact HO235.out))) (b12 (by repeat (first | (with_reducible first | exact HB.out | apply b8 | apply b6 | apply b7 | refine b3 ?_ GE226.out | refine b3 ?_ GE231.out) | exact HB.out))))
               have n4_ := Aside0.mk (b5 (g := gb226) (o := .cells #[.slice (some ad230) l0_0.length c0_0] 24 (0, 0)) (by (with_reducible repeat (first | refine b0 ?_ _ | refine b1 ?_ | refine b2 ?_ _)); exact BK226.out) hb)
               have n5_ := Aside0.mk (b5 (g := gb231) (o := .cells #[.int .i64 ((rd_T54 l0_0 (l1.length : Int)).f0), .int .i64 ((rd_T54 l0_0 (l1.length : Int)).f1)] 54 (0, 0)) (by (with_reducible repeat (first | refine b0 ?_ _ | refine b1 ?_ | refine b2 ?_ _)); exact BK231.out) hb)
               have n6_ := Aside0.mk (b13 (by repeat (first | (with_reducible first | exact HB.out | apply b8 | apply b6 | apply b7 | refine b3 ?_ GE226.out | refine b3 ?_ GE231.out) | exact HB.out)) hb)
               clear HO_1
               clear HO_5
               clear HO235
               clear BK226
               clear BK231
               clear HB
               have HO_1 := n0_
               have HO_5 := n1_
               have HO235 := n2_
               have HO241 := n3_
               have BK226 := n4_
               have BK231 := n5_
               have HB := n6_
               clear n0_ n1_ n2_ n3_ n4_ n5_ n6_
               clear hb ho33
               refine hK.out _ _ ((b4 BK226.out 0).trans rfl) (fun hHeld => ?_)
               clear hK K
               refine norm_ (a' := ?_) ?_ ?_
               rotate_left
               ·
                show Act.put _ (some 50) _ = _
                simp only [Act.put, l1, l2, l3, i64_w, i32_w]
                rfl
               refine one_ (i := 4) (N := some 48) #[tt,tt,tt,tt,tt,tt,tt,ff,ff,ff,ff] rfl rfl (one_of HT_.out (by kernel_rfl)) (by decide) (fun K hK => ?_)
               refine Kd.R_append_rows_step (Kd.int .i64) (w0 := w) w.heap.size (by rfl) (.tmp 46) (.tmp 47) 31 3 (.int .i64 0) 8 rfl Try.underlying31 info3 rfl (by decide) (by omega) v234 y233 l1 _ _ _ (fun k_ => (w.heap.size ≤ k_) ∧ some k_ ≠ (v240 : Value).ownBlock) (fun _ => False) rfl rfl ?aO ?aR (fun _ _ h => h) (fun _ h => h.elim) ?aF ?aB ?aS ?aL ?_
               (case aR => repeat (first | exact (Kd.V_reads' HO_1.out).2.2 | (with_reducible refine k13 ?_ _) | (with_reducible refine k14 ?_ _) | (with_reducible refine k15 ?_)))
               (case aB => exact (by repeat (first | (with_reducible first | exact HB.out | apply b8 | apply b6 | apply b7 | refine b3 ?_ GE226.out | refine b3 ?_ GE231.out) | exact HB.out)))
               (case aF => exact (fun k_ hk => ⟨(Nat.le_trans (b12 (by repeat (first | (with_reducible first | exact HB.out | apply b8 | apply b6 | apply b7 | refine b3 ?_ GE226.out | refine b3 ?_ GE231.out) | exact HB.out))) hk), Kd.fresh' (k5 (by (with_reducible repeat (first | apply k0 | apply k1 | apply k2)); exact HO241.out)) k_ hk⟩))
               (case aO => exact (by (with_reducible repeat (first | apply k0 | apply k1 | apply k2)); exact k10 HO235.out (fun _ hk => ⟨hk.1.1, hk.2⟩)))
               (case aS => exact (b12 (by repeat (first | (with_reducible first | exact HB.out | apply b8 | apply b6 | apply b7 | refine b3 ?_ GE226.out | refine b3 ?_ GE231.out) | exact HB.out))))
               (case aL => have := LMc22.out; omega)
               intro v237 w34 ho hb hg hat
               rw [← Ny236.out] at ho
               have n0_ := Aside0.mk (Kd.V_afterv (ok := (fun k_ => (P1_ k_ ∨ w.heap.size ≤ k_) ∧ some k_ ≠ (.slice Ao28 x5_2.length co28 : Value).ownBlock ∧ some k_ ≠ (v240 : Value).ownBlock ∧ k_ ≠ gb226 ∧ k_ ≠ gb231)) (by (with_reducible repeat (first | apply Kd.V_alloc | apply Kd.V_drewN | apply Kd.V_drew)); exact Kd.V_mono HO_1.out (fun _ hk => ⟨⟨hk.1.1.1, ⟨hk.1.1.2.1, ⟨hk.2, ⟨hk.1.1.2.2.1, hk.1.1.2.2.2⟩⟩⟩⟩, hk.1.2⟩)) hg hat)
               have n1_ := Aside0.mk (Kd.N_afterv (ok := (fun k_ => (P1_ k_ ∨ w.heap.size ≤ k_) ∧ some k_ ≠ (v240 : Value).ownBlock ∧ k_ ≠ gb226 ∧ k_ ≠ gb231)) (by (with_reducible repeat (first | apply Kd.N_alloc | apply Kd.N_drewN | apply Kd.N_drew)); exact Kd.N_mono HO_5.out (fun _ hk => ⟨⟨hk.1.1.1, ⟨hk.2, ⟨hk.1.1.2.1, hk.1.1.2.2⟩⟩⟩, hk.1.2⟩)) hg hat)
               have n2_ := Aside0.mk (blk_grown (g := gb226) (o := .cells #[.slice (some ad230) l0_0.length c0_0] 24 (0, 0)) (by (with_reducible repeat (first | refine b0 ?_ _ | refine b1 ?_ | refine b2 ?_ _)); exact BK226.out) hg (Kd.R_ne HO235.out BK226.out (by decide)))
               have n3_ := Aside0.mk (blk_grown (g := gb231) (o := .cells #[.int .i64 ((rd_T54 l0_0 (l1.length : Int)).f0), .int .i64 ((rd_T54 l0_0 (l1.length : Int)).f1)] 54 (0, 0)) (by (with_reducible repeat (first | refine b0 ?_ _ | refine b1 ?_ | refine b2 ?_ _)); exact BK231.out) hg (Kd.R_ne HO235.out BK231.out (by decide)))
               have n4_ := Aside0.mk (Kd.R_after (ok := (fun k_ => (w.heap.size ≤ k_))) (by (with_reducible repeat (first | apply k0 | apply k1 | apply k2)); exact k10 HO241.out (fun _ hk => ⟨hk.1.1, hk.2⟩)) hg hat)
               have n5_ := Aside0.mk (hb)
               have n6_ := Aside0.mk (ho)
               clear HO_1
               clear HO_5
               clear BK226
               clear BK231
               clear HO241
               clear HB
               clear HO235
               have HO_1 := n0_
               have HO_5 := n1_
               have BK226 := n2_
               have BK231 := n3_
               have HO241 := n4_
               have HB := n5_
               have HO238 := n6_
               clear n0_ n1_ n2_ n3_ n4_ n5_ n6_
               clear ho hb hg hat
               refine hK.out _ _ ((b4 BK226.out 0).trans rfl) (fun hHeld => ?_)
               clear hK K
               refine norm_ (a' := ?_) ?_ ?_
               rotate_left
               ·
                show Act.put _ (some 48) _ = _
                simp only [Act.put, l1, l2, l3, i64_w, i32_w]
                rfl
               exact norm_ (by simp only [putAll, Act.put, l1, l2, l3]) (hCont (v234, v237, v240) _ ⟨hHeld, (by (with_reducible repeat (first | apply k0 | apply k1 | apply k2)); exact HO238.out), (by (with_reducible repeat (first | apply k0 | apply k1 | apply k2)); exact HO241.out), (by (with_reducible repeat (first | apply Kd.V_alloc | apply Kd.V_drewN | apply Kd.V_drew)); exact Kd.V_mono HO_1.out (fun _ hk => ⟨hk.1.1, ⟨hk.2, ⟨hk.1.2.2.1, ⟨hk.1.2.1, ⟨hk.1.2.2.2.1, hk.1.2.2.2.2⟩⟩⟩⟩⟩)), (by (with_reducible repeat (first | apply Kd.N_alloc | apply Kd.N_drewN | apply Kd.N_drew)); exact Kd.N_mono HO_5.out (fun _ hk => ⟨hk.1.1, ⟨hk.2, ⟨hk.1.2.1, ⟨hk.1.2.2.1, hk.1.2.2.2⟩⟩⟩⟩)), (by (with_reducible repeat (first | refine b0 ?_ _ | refine b1 ?_ | refine b2 ?_ _)); exact BK226.out), (by (with_reducible repeat (first | refine b0 ?_ _ | refine b1 ?_ | refine b2 ?_ _)); exact BK231.out), (by repeat (first | (with_reducible first | exact HB.out | apply b8 | apply b6 | apply b7 | refine b3 ?_ GE226.out | refine b3 ?_ GE231.out) | exact HB.out))⟩)
             ·
              skip
              refine Kd.R_lit_step (Kd.int .i64) _ 3 ?hg (N := 50) ?hd (xs := ([x9_2] : List Int)) (inner := [.int .i64 x9_2]) (ok := fun _ => True) (okp := fun _ => True) ?hr ?hp (fun _ hk => hk) trivial (Below.refl _ _) (Nat.le_refl _) (by simp) ?_; (case hd => rfl); (case hg => rfl); (case hr => first | (go_simp; done) | (go_simp; rfl)); (case hp => exact (Reps.one (show Kd.M (Kd.int .i64) _ _ _ x9_2 [.int .i64 x9_2] from rfl) (Reps.none _ _)))
              intro v240 w30 ho31 hb hg_ hnew_
              clear hg_ hnew_
              (first | rw [← Ny239.out] at ho31 | (simp only [Int.reduceToNat] at ho31; rw [← Ny239.out] at ho31))
              have n0_ := Aside0.mk (Kd.V_elder' (by (with_reducible repeat (first | apply Kd.V_alloc | apply Kd.V_drewN | apply Kd.V_drew)); exact HO_1.out) (k7 ho31) hb)
              have n1_ := Aside0.mk (Kd.N_elder' (by (with_reducible repeat (first | apply Kd.N_alloc | apply Kd.N_drewN | apply Kd.N_drew)); exact HO_5.out) (k7 ho31) hb)
              have n2_ := Aside0.mk (k12 (Kd.R_newM (M := fun k_ => (w.heap.size ≤ k_)) ho31 (b12 (by repeat (first | (with_reducible first | exact HB.out | apply b8 | apply b6 | apply b7 | refine b3 ?_ GE226.out | refine b3 ?_ GE231.out) | exact HB.out))) (fun k_ h_ => h_)) (b12 (by repeat (first | (with_reducible first | exact HB.out | apply b8 | apply b6 | apply b7 | refine b3 ?_ GE226.out | refine b3 ?_ GE231.out) | exact HB.out))))
              have n3_ := Aside0.mk (b5 (g := gb226) (o := .cells #[.slice (some ad230) l0_0.length c0_0] 24 (0, 0)) (by (with_reducible repeat (first | refine b0 ?_ _ | refine b1 ?_ | refine b2 ?_ _)); exact BK226.out) hb)
              have n4_ := Aside0.mk (b5 (g := gb231) (o := .cells #[.int .i64 ((rd_T54 l0_0 (l1.length : Int)).f0), .int .i64 ((rd_T54 l0_0 (l1.length : Int)).f1)] 54 (0, 0)) (by (with_reducible repeat (first | refine b0 ?_ _ | refine b1 ?_ | refine b2 ?_ _)); exact BK231.out) hb)
              have n5_ := Aside0.mk (b13 (by repeat (first | (with_reducible first | exact HB.out | apply b8 | apply b6 | apply b7 | refine b3 ?_ GE226.out | refine b3 ?_ GE231.out) | exact HB.out)) hb)
              clear HO_1
              clear HO_5
              clear BK226
              clear BK231
              clear HB
              have HO_1 := n0_
              have HO_5 := n1_
              have HO241 := n2_
              have BK226 := n3_
              have BK231 := n4_
              have HB := n5_
              clear n0_ n1_ n2_ n3_ n4_ n5_
              clear hb ho31
              refine hK.out _ _ ((b4 BK226.out 0).trans rfl) (fun hHeld => ?_)
              clear hK K
              refine norm_ (a' := ?_) ?_ ?_
              rotate_left
              ·
               show Act.put _ (some 50) _ = _
               simp only [Act.put, l1, l2, l3, i64_w, i32_w]
               rfl
              refine one_ (i := 2) (N := some 46) #[tt,tt,tt,tt,ff,tt,tt,ff,ff,ff,ff] rfl rfl (one_of HT_.out (by kernel_rfl)) (by decide) (fun K hK => ?_)
              refine Kd.R_lit_step (Kd.int .i64) _ 3 ?hg (N := 46) ?hd (xs := ([] : List Int)) (inner := []) (ok := fun _ => True) (okp := fun _ => True) ?hr ?hp (fun _ hk => hk) trivial (Below.refl _ _) (Nat.le_refl _) (by simp) ?_; (case hd => rfl); (case hg => rfl); (case hr => first | (go_simp; done) | (go_simp; rfl)); (case hp => exact (Reps.none _ _))
              intro v234 w32 ho33 hb hg_ hnew_
              clear hg_ hnew_
              (first | rw [← Ny233.out] at ho33 | (simp only [Int.reduceToNat] at ho33; rw [← Ny233.out] at ho33))
              have n0_ := Aside0.mk (Kd.V_elder' (by (with_reducible repeat (first | apply Kd.V_alloc | apply Kd.V_drewN | apply Kd.V_drew)); exact HO_1.out) (k7 ho33) hb)
              have n1_ := Aside0.mk (Kd.N_elder' (by (with_reducible repeat (first | apply Kd.N_alloc | apply Kd.N_drewN | apply Kd.N_drew)); exact HO_5.out) (k7 ho33) hb)
              have n2_ := Aside0.mk (k6 (by (with_reducible repeat (first | apply k0 | apply k1 | apply k2)); exact HO241.out) (k7 ho33) hb)
              have n3_ := Aside0.mk (k12 (k4 (Kd.R_newM (M := fun k_ => (w.heap.size ≤ k_)) ho33 (b12 (by repeat (first | (with_reducible first | exact HB.out | apply b8 | apply b6 | apply b7 | refine b3 ?_ GE226.out | refine b3 ?_ GE231.out) | exact HB.out))) (fun k_ h_ => h_)) (k5 (by (with_reducible repeat (first | apply k0 | apply k1 | apply k2)); exact HO241.out))) (b12 (by repeat (first | (with_reducible first | exact HB.out | apply b8 | apply b6 | apply b7 | refine b3 ?_ GE226.out | refine b3 ?_ GE231.out) | exact HB.out))))
              have n4_ := Aside0.mk (b5 (g := gb226) (o := .cells #[.slice (some ad230) l0_0.length c0_0] 24 (0, 0)) (by (with_reducible repeat (first | refine b0 ?_ _ | refine b1 ?_ | refine b2 ?_ _)); exact BK226.out) hb)
              have n5_ := Aside0.mk (b5 (g := gb231) (o := .cells #[.int .i64 ((rd_T54 l0_0 (l1.length : Int)).f0), .int .i64 ((rd_T54 l0_0 (l1.length : Int)).f1)] 54 (0, 0)) (by (with_reducible repeat (first | refine b0 ?_ _ | refine b1 ?_ | refine b2 ?_ _)); exact BK231.out) hb)
              have n6_ := Aside0.mk (b13 (by repeat (first | (with_reducible first | exact HB.out | apply b8 | apply b6 | apply b7 | refine b3 ?_ GE226.out | refine b3 ?_ GE231.out) | exact HB.out)) hb)
              clear HO_1
              clear HO_5
              clear HO241
              clear BK226
              clear BK231
              clear HB
              have HO_1 := n0_
              have HO_5 := n1_
              have HO241 := n2_
              have HO235 := n3_
              have BK226 := n4_
              have BK231 := n5_
              have HB := n6_
              clear n0_ n1_ n2_ n3_ n4_ n5_ n6_
              clear hb ho33
              refine hK.out _ _ ((b4 BK226.out 0).trans rfl) (fun hHeld => ?_)
              clear hK K
              refine norm_ (a' := ?_) ?_ ?_
              rotate_left
              ·
               show Act.put _ (some 46) _ = _
               simp only [Act.put, l1, l2, l3, i64_w, i32_w]
               rfl
              refine one_ (i := 4) (N := some 48) #[tt,tt,tt,tt,tt,tt,tt,ff,ff,ff,ff] rfl rfl (one_of HT_.out (by kernel_rfl)) (by decide) (fun K hK => ?_)
              refine Kd.R_append_rows_step (Kd.int .i64) (w0 := w) w.heap.size (by rfl) (.tmp 46) (.tmp 47) 31 3 (.int .i64 0) 8 rfl Try.underlying31 info3 rfl (by decide) (by omega) v234 y233 l1 _ _ _ (fun k_ => (w.heap.size ≤ k_) ∧ some k_ ≠ (v240 : Value).ownBlock) (fun _ => False) rfl rfl ?aO ?aR (fun _ _ h => h) (fun _ h => h.elim) ?aF ?aB ?aS ?aL ?_
              (case aR => repeat (first | exact (Kd.V_reads' HO_1.out).2.2 | (with_reducible refine k13 ?_ _) | (with_reducible refine k14 ?_ _) | (with_reducible refine k15 ?_)))
              (case aB => exact (by repeat (first | (with_reducible first | exact HB.out | apply b8 | apply b6 | apply b7 | refine b3 ?_ GE226.out | refine b3 ?_ GE231.out) | exact HB.out)))
              (case aF => exact (fun k_ hk => ⟨(Nat.le_trans (b12 (by repeat (first | (with_reducible first | exact HB.out | apply b8 | apply b6 | apply b7 | refine b3 ?_ GE226.out | refine b3 ?_ GE231.out) | exact HB.out))) hk), Kd.fresh' (k5 (by (with_reducible repeat (first | apply k0 | apply k1 | apply k2)); exact HO241.out)) k_ hk⟩))
              (case aO => exact (by (with_reducible repeat (first | apply k0 | apply k1 | apply k2)); exact k10 HO235.out (fun _ hk => ⟨hk.1.1, hk.2⟩)))
              (case aS => exact (b12 (by repeat (first | (with_reducible first | exact HB.out | apply b8 | apply b6 | apply b7 | refine b3 ?_ GE226.out | refine b3 ?_ GE231.out) | exact HB.out))))
              (case aL => have := LMc22.out; omega)
              intro v237 w34 ho hb hg hat
              rw [← Ny236.out] at ho
              have n0_ := Aside0.mk (Kd.V_afterv (ok := (fun k_ => (P1_ k_ ∨ w.heap.size ≤ k_) ∧ some k_ ≠ (.slice Ao28 x5_2.length co28 : Value).ownBlock ∧ some k_ ≠ (v240 : Value).ownBlock ∧ k_ ≠ gb226 ∧ k_ ≠ gb231)) (by (with_reducible repeat (first | apply Kd.V_alloc | apply Kd.V_drewN | apply Kd.V_drew)); exact Kd.V_mono HO_1.out (fun _ hk => ⟨⟨hk.1.1.1, ⟨hk.1.1.2.1, ⟨hk.1.2, ⟨hk.1.1.2.2.1, hk.1.1.2.2.2⟩⟩⟩⟩, hk.2⟩)) hg hat)
              have n1_ := Aside0.mk (Kd.N_afterv (ok := (fun k_ => (P1_ k_ ∨ w.heap.size ≤ k_) ∧ some k_ ≠ (v240 : Value).ownBlock ∧ k_ ≠ gb226 ∧ k_ ≠ gb231)) (by (with_reducible repeat (first | apply Kd.N_alloc | apply Kd.N_drewN | apply Kd.N_drew)); exact Kd.N_mono HO_5.out (fun _ hk => ⟨⟨hk.1.1.1, ⟨hk.1.2, ⟨hk.1.1.2.1, hk.1.1.2.2⟩⟩⟩, hk.2⟩)) hg hat)
              have n2_ := Aside0.mk (blk_grown (g := gb226) (o := .cells #[.slice (some ad230) l0_0.length c0_0] 24 (0, 0)) (by (with_reducible repeat (first | refine b0 ?_ _ | refine b1 ?_ | refine b2 ?_ _)); exact BK226.out) hg (Kd.R_ne HO235.out BK226.out (by decide)))
              have n3_ := Aside0.mk (blk_grown (g := gb231) (o := .cells #[.int .i64 ((rd_T54 l0_0 (l1.length : Int)).f0), .int .i64 ((rd_T54 l0_0 (l1.length : Int)).f1)] 54 (0, 0)) (by (with_reducible repeat (first | refine b0 ?_ _ | refine b1 ?_ | refine b2 ?_ _)); exact BK231.out) hg (Kd.R_ne HO235.out BK231.out (by decide)))
              have n4_ := Aside0.mk (Kd.R_after (ok := (fun k_ => (w.heap.size ≤ k_))) (by (with_reducible repeat (first | apply k0 | apply k1 | apply k2)); exact k10 HO241.out (fun _ hk => ⟨hk.1.1, hk.2⟩)) hg hat)
              have n5_ := Aside0.mk (hb)
              have n6_ := Aside0.mk (ho)
              clear HO_1
              clear HO_5
              clear BK226
              clear BK231
              clear HO241
              clear HB
              clear HO235
              have HO_1 := n0_
              have HO_5 := n1_
              have BK226 := n2_
              have BK231 := n3_
              have HO241 := n4_
              have HB := n5_
              have HO238 := n6_
              clear n0_ n1_ n2_ n3_ n4_ n5_ n6_
              clear ho hb hg hat
              refine hK.out _ _ ((b4 BK226.out 0).trans rfl) (fun hHeld => ?_)
              clear hK K
              refine norm_ (a' := ?_) ?_ ?_
              rotate_left
              ·
               show Act.put _ (some 48) _ = _
               simp only [Act.put, l1, l2, l3, i64_w, i32_w]
               rfl
              exact norm_ (by simp only [putAll, Act.put, l1, l2, l3]) (hCont (v234, v237, v240) _ ⟨hHeld, (by (with_reducible repeat (first | apply k0 | apply k1 | apply k2)); exact HO238.out), (by (with_reducible repeat (first | apply k0 | apply k1 | apply k2)); exact HO241.out), (by (with_reducible repeat (first | apply Kd.V_alloc | apply Kd.V_drewN | apply Kd.V_drew)); exact Kd.V_mono HO_1.out (fun _ hk => ⟨hk.1.1, ⟨hk.2, ⟨hk.1.2.2.1, ⟨hk.1.2.1, ⟨hk.1.2.2.2.1, hk.1.2.2.2.2⟩⟩⟩⟩⟩)), (by (with_reducible repeat (first | apply Kd.N_alloc | apply Kd.N_drewN | apply Kd.N_drew)); exact Kd.N_mono HO_5.out (fun _ hk => ⟨hk.1.1, ⟨hk.2, ⟨hk.1.2.1, ⟨hk.1.2.2.1, hk.1.2.2.2⟩⟩⟩⟩)), (by (with_reducible repeat (first | refine b0 ?_ _ | refine b1 ?_ | refine b2 ?_ _)); exact BK226.out), (by (with_reducible repeat (first | refine b0 ?_ _ | refine b1 ?_ | refine b2 ?_ _)); exact BK231.out), (by repeat (first | (with_reducible first | exact HB.out | apply b8 | apply b6 | apply b7 | refine b3 ?_ GE226.out | refine b3 ?_ GE231.out) | exact HB.out))⟩)
            rintro ⟨v234, v237, v240⟩ w35 ⟨hS_, h0_, h1_, h2_, h3_, h4_, h5_, h6_⟩
            have n0_ : Aside0 (Kd.R (Kd.int .i64) 3 w35 w.heap.size (fun k_ => (w.heap.size ≤ k_) ∧ some k_ ≠ (v240 : Value).ownBlock) v237 y236) := ⟨h0_⟩
            have n1_ : Aside0 (Kd.R (Kd.int .i64) 3 w35 w.heap.size (fun k_ => (w.heap.size ≤ k_) ∧ some k_ ≠ (v237 : Value).ownBlock) v240 y239) := ⟨h1_⟩
            have n2_ : Aside0 (Kd.V (Kd.int .i64) 3 w35 w.heap.size (fun k_ => (P1_ k_ ∨ w.heap.size ≤ k_) ∧ some k_ ≠ (v237 : Value).ownBlock ∧ some k_ ≠ (v240 : Value).ownBlock ∧ some k_ ≠ (.slice Ao28 x5_2.length co28 : Value).ownBlock ∧ k_ ≠ gb226 ∧ k_ ≠ gb231) (.slice A1 l1.length c1) l1) := ⟨h2_⟩
            have n3_ : Aside0 (Kd.N (Kd.slice 3 (Kd.int .i64)) 31 w35 w.heap.size (fun k_ => (P1_ k_ ∨ w.heap.size ≤ k_) ∧ some k_ ≠ (v237 : Value).ownBlock ∧ some k_ ≠ (v240 : Value).ownBlock ∧ k_ ≠ gb226 ∧ k_ ≠ gb231) (.slice Ao28 x5_2.length co28) x5_2) := ⟨h3_⟩
            have n4_ : Aside0 (w35.heap[gb226]? = some (.cells #[.slice (some ad230) l0_0.length c0_0] 24 (0, 0))) := ⟨h4_⟩
            have n5_ : Aside0 (w35.heap[gb231]? = some (.cells #[.int .i64 ((rd_T54 l0_0 (l1.length : Int)).f0), .int .i64 ((rd_T54 l0_0 (l1.length : Int)).f1)] 54 (0, 0))) := ⟨h5_⟩
            have n6_ : Aside0 (Below w.heap.size w w35) := ⟨h6_⟩
            clear HO_1
            clear HO_5
            clear BK226
            clear BK231
            clear HB
            clear h0_ h1_ h2_ h3_ h4_ h5_ h6_
            have HO238 := n0_
            have HO241 := n1_
            have HO_1 := n2_
            have HO_5 := n3_
            have BK226 := n4_
            have BK231 := n5_
            have HB := n6_
            clear n0_ n1_ n2_ n3_ n4_ n5_ n6_
            have hHeld : w35.cell? ⟨gb226, 0, none⟩ = some (.slice (some ad230) l0_0.length c0_0) := hS_
            obtain ⟨Ao37, co37, eo37⟩ := Kd.R_slice HO241.out
            (first | subst eo37 | (injection eo37 with f1_ f2_ f3_; have f4_ := f1_.symm; have f5_ := f3_.symm; clear f1_ f2_ f3_; subst f4_; subst f5_))
            refine norm_ (a' := ?_) ?_ ?_
            rotate_left
            ·
             simp only [putAll, Act.put, l1, l2, l3]
             rfl
            refine one_ (i := 7) (N := some 51) #[tt,tt,tt,tt,tt,tt,tt,tt,ff,ff,ff] rfl rfl (one_of HT_.out (by kernel_rfl)) (by decide) (fun K hK => ?_)
            refine Kd.R_append_rows_step (Kd.int .i64) (w0 := w) w.heap.size (by rfl) (.tmp 48) (.tmp 50) 31 3 (.int .i64 0) 8 rfl Try.underlying31 info3 rfl (by decide) (by omega) v237 y236 y239 _ _ _ (fun k_ => (w.heap.size ≤ k_) ∧ some k_ ≠ (.slice Ao37 y239.length co37 : Value).ownBlock) (fun _ => False) rfl rfl ?aO ?aR (fun _ _ h => h) (fun _ h => h.elim) ?aF ?aB ?aS ?aL ?_
            (case aR => repeat (first | exact (k9 HO241.out).2.2 | (with_reducible refine k13 ?_ _) | (with_reducible refine k14 ?_ _) | (with_reducible refine k15 ?_)))
            (case aB => exact (by repeat (first | (with_reducible first | exact HB.out | apply b8 | apply b6 | apply b7 | refine b3 ?_ GE226.out | refine b3 ?_ GE231.out) | exact HB.out)))
            (case aF => exact (fun k_ hk => ⟨(Nat.le_trans (b12 (by repeat (first | (with_reducible first | exact HB.out | apply b8 | apply b6 | apply b7 | refine b3 ?_ GE226.out | refine b3 ?_ GE231.out) | exact HB.out))) hk), Kd.fresh' (k5 (by (with_reducible repeat (first | apply k0 | apply k1 | apply k2)); exact HO241.out)) k_ hk⟩))
            (case aO => exact (by (with_reducible repeat (first | apply k0 | apply k1 | apply k2)); exact HO238.out))
            (case aS => exact (b12 (by repeat (first | (with_reducible first | exact HB.out | apply b8 | apply b6 | apply b7 | refine b3 ?_ GE226.out | refine b3 ?_ GE231.out) | exact HB.out))))
            (case aL => have := LMc23.out; omega)
            intro v243 w36 ho hb hg hat
            rw [← Ny242.out] at ho
            have n0_ := Aside0.mk (Kd.V_afterv (ok := (fun k_ => (P1_ k_ ∨ w.heap.size ≤ k_) ∧ some k_ ≠ (.slice Ao28 x5_2.length co28 : Value).ownBlock ∧ some k_ ≠ (.slice Ao37 y239.length co37 : Value).ownBlock ∧ k_ ≠ gb226 ∧ k_ ≠ gb231)) (by (with_reducible repeat (first | apply Kd.V_alloc | apply Kd.V_drewN | apply Kd.V_drew)); exact Kd.V_mono HO_1.out (fun _ hk => ⟨⟨hk.1, ⟨hk.2.2.2.1, ⟨hk.2.2.1, ⟨hk.2.2.2.2.1, hk.2.2.2.2.2⟩⟩⟩⟩, hk.2.1⟩)) hg hat)
            have n1_ := Aside0.mk (Kd.N_afterv (ok := (fun k_ => (P1_ k_ ∨ w.heap.size ≤ k_) ∧ some k_ ≠ (.slice Ao37 y239.length co37 : Value).ownBlock ∧ k_ ≠ gb226 ∧ k_ ≠ gb231)) (by (with_reducible repeat (first | apply Kd.N_alloc | apply Kd.N_drewN | apply Kd.N_drew)); exact Kd.N_mono HO_5.out (fun _ hk => ⟨⟨hk.1, ⟨hk.2.2.1, ⟨hk.2.2.2.1, hk.2.2.2.2⟩⟩⟩, hk.2.1⟩)) hg hat)
            have n2_ := Aside0.mk (blk_grown (g := gb226) (o := .cells #[.slice (some ad230) l0_0.length c0_0] 24 (0, 0)) (by (with_reducible repeat (first | refine b0 ?_ _ | refine b1 ?_ | refine b2 ?_ _)); exact BK226.out) hg (Kd.R_ne HO238.out BK226.out (by decide)))
            have n3_ := Aside0.mk (blk_grown (g := gb231) (o := .cells #[.int .i64 ((rd_T54 l0_0 (l1.length : Int)).f0), .int .i64 ((rd_T54 l0_0 (l1.length : Int)).f1)] 54 (0, 0)) (by (with_reducible repeat (first | refine b0 ?_ _ | refine b1 ?_ | refine b2 ?_ _)); exact BK231.out) hg (Kd.R_ne HO238.out BK231.out (by decide)))
            have n4_ := Aside0.mk (Kd.R_after (ok := (fun k_ => (w.heap.size ≤ k_))) (by (with_reducible repeat (first | apply k0 | apply k1 | apply k2)); exact HO241.out) hg hat)
            have n5_ := Aside0.mk (hb)
            have n6_ := Aside0.mk (ho)
            clear HO_1
            clear HO_5
            clear BK226
            clear BK231
            clear HO241
            clear HB
            clear HO238
            have HO_1 := n0_
            have HO_5 := n1_
            have BK226 := n2_
            have BK231 := n3_
            have HO241 := n4_
            have HB := n5_
            have HO244 := n6_
            clear n0_ n1_ n2_ n3_ n4_ n5_ n6_
            clear ho hb hg hat
            obtain ⟨Ao38, co38, eo38⟩ := Kd.R_slice HO244.out
            (first | subst eo38 | (injection eo38 with f1_ f2_ f3_; have f4_ := f1_.symm; have f5_ := f3_.symm; clear f1_ f2_ f3_; subst f4_; subst f5_))
            refine hK.out _ _ ((b4 BK226.out 0).trans rfl) (fun hHeld => ?_)
            clear hK K
            refine norm_ (a' := ?_) ?_ ?_
            rotate_left
            ·
             show Act.put _ (some 51) _ = _
             simp only [Act.put, l1, l2, l3, i64_w, i32_w]
             rfl
            refine one_ (i := 8) (N := some 52) #[tt,tt,tt,tt,tt,tt,tt,tt,tt,ff,ff] rfl rfl (one_of HT_.out (by kernel_rfl)) (by decide) (fun K hK => ?_)
            refine goes_ Try.func50 (by kernel_rfl) rfl #[.agg #[.slice (some ad230) l0_0.length c0_0], .slice Ao38 y242.length co38] (by rfl) rfl rfl (by (try simp only [List.map_toArray, List.map_cons, List.map_nil]); first | done | rfl | (simp only [List.length_drop, List.length_take]; rfl)) ?_
            with_reducible refine (ih k2 (by have := HJ9.out; have := HK2.out; omega) _ _ l0_0 (fun k_ => some k_ = (.slice Ao38 y242.length co38 : Value).ownBlock) _ _ y242 t245 _ ?side1 ?side2 ?side3 A24.out).mono ?_
            (case side1 => repeat (first | exact (k16 HR0_0.out HB.out) | (with_reducible refine k13 ?_ _) | (with_reducible refine k14 ?_ _) | (with_reducible refine k15 ?_)))
            (case side2 => exact HC0_0.out)
            (case side3 => exact Kd.R_V (Kd.R_tight rfl (k11 (k11 (Kd.R_apart' (HO244.out) (Kd.N_typed HO_5.out) (by decide)) BK226.out (by decide)) BK231.out (by decide))))
            rintro e w39 ⟨v246, rfl, ho0, hb⟩
            refine ⟨_, rfl, ?_⟩
            have n0_ := Aside0.mk (Kd.V_elder' (by (with_reducible repeat (first | apply Kd.V_alloc | apply Kd.V_drewN | apply Kd.V_drew)); exact HO_1.out) (Kd.N_base ho0) hb)
            have n1_ := Aside0.mk (Kd.N_elder' (by (with_reducible repeat (first | apply Kd.N_alloc | apply Kd.N_drewN | apply Kd.N_drew)); exact HO_5.out) (Kd.N_base ho0) hb)
            have n2_ := Aside0.mk (k3 (by (with_reducible repeat (first | apply k0 | apply k1 | apply k2)); exact HO241.out) hb)
            have n3_ := Aside0.mk (k3 (by (with_reducible repeat (first | apply k0 | apply k1 | apply k2)); exact HO244.out) hb)
            have n4_ := Aside0.mk (Kd.N_lower (Kd.N_mono (ok' := fun k_ => (P1_ k_ ∨ w.heap.size ≤ k_) ∧ some k_ ≠ (.slice Ao28 x5_2.length co28 : Value).ownBlock ∧ some k_ ≠ (.slice Ao37 y239.length co37 : Value).ownBlock ∧ k_ ≠ gb226 ∧ k_ ≠ gb231) ho0 (fun k_ hk_ => ⟨Or.elim hk_ (fun hs_ => (.inr (((k11 (k11 (Kd.R_apart' (HO244.out) (Kd.N_typed HO_5.out) (by decide)) BK226.out (by decide)) BK231.out (by decide)).1 k_ hs_.symm).1.1.1.1))) (fun hn_ => (.inr (Nat.le_trans (b12 (by repeat (first | (with_reducible first | exact HB.out | apply b8 | apply b6 | apply b7 | refine b3 ?_ GE226.out | refine b3 ?_ GE231.out) | exact HB.out))) hn_))), Or.elim hk_ (fun hs_ => ((k11 (k11 (Kd.R_apart' (HO244.out) (Kd.N_typed HO_5.out) (by decide)) BK226.out (by decide)) BK231.out (by decide)).1 k_ hs_.symm).1.1.2) (fun hn_ => (Kd.fresh' (Kd.N_lt (by (with_reducible repeat (first | apply Kd.N_alloc | apply Kd.N_drewN | apply Kd.N_drew)); exact HO_5.out)) k_ hn_)), Or.elim hk_ (fun hs_ => ((k11 (k11 (Kd.R_apart' (HO244.out) (Kd.N_typed HO_5.out) (by decide)) BK226.out (by decide)) BK231.out (by decide)).1 k_ hs_.symm).1.1.1.2) (fun hn_ => (Kd.fresh' (k5 (by (with_reducible repeat (first | apply k0 | apply k1 | apply k2)); exact HO241.out)) k_ hn_)), Or.elim hk_ (fun hs_ => ((k11 (k11 (Kd.R_apart' (HO244.out) (Kd.N_typed HO_5.out) (by decide)) BK226.out (by decide)) BK231.out (by decide)).1 k_ hs_.symm).1.2) (fun hn_ => (Kd.freshB (g := gb226) (o := .cells #[.slice (some ad230) l0_0.length c0_0] 24 (0, 0)) (by (with_reducible repeat (first | refine b0 ?_ _ | refine b1 ?_ | refine b2 ?_ _)); exact BK226.out) k_ hn_)), Or.elim hk_ (fun hs_ => ((k11 (k11 (Kd.R_apart' (HO244.out) (Kd.N_typed HO_5.out) (by decide)) BK226.out (by decide)) BK231.out (by decide)).1 k_ hs_.symm).2) (fun hn_ => (Kd.freshB (g := gb231) (o := .cells #[.int .i64 ((rd_T54 l0_0 (l1.length : Int)).f0), .int .i64 ((rd_T54 l0_0 (l1.length : Int)).f1)] 54 (0, 0)) (by (with_reducible repeat (first | refine b0 ?_ _ | refine b1 ?_ | refine b2 ?_ _)); exact BK231.out) k_ hn_))⟩)) (b12 (by repeat (first | (with_reducible first | exact HB.out | apply b8 | apply b6 | apply b7 | refine b3 ?_ GE226.out | refine b3 ?_ GE231.out) | exact HB.out))))
            have n5_ := Aside0.mk (b5 (g := gb226) (o := .cells #[.slice (some ad230) l0_0.length c0_0] 24 (0, 0)) (by (with_reducible repeat (first | refine b0 ?_ _ | refine b1 ?_ | refine b2 ?_ _)); exact BK226.out) hb)
            have n6_ := Aside0.mk (b5 (g := gb231) (o := .cells #[.int .i64 ((rd_T54 l0_0 (l1.length : Int)).f0), .int .i64 ((rd_T54 l0_0 (l1.length : Int)).f1)] 54 (0, 0)) (by (with_reducible repeat (first | refine b0 ?_ _ | refine b1 ?_ | refine b2 ?_ _)); exact BK231.out) hb)
            have n7_ := Aside0.mk (b13 (by repeat (first | (with_reducible first | exact HB.out | apply b8 | apply b6 | apply b7 | refine b3 ?_ GE226.out | refine b3 ?_ GE231.out) | exact HB.out)) hb)
            clear HO_1
            clear HO_5
            clear HO241
            clear HO244
            clear BK226
            clear BK231
            clear HB
            have HO_1 := n0_
            have HO_5 := n1_
            have HO241 := n2_
            have HO244 := n3_
            have HO247 := n4_
            have BK226 := n5_
            have BK231 := n6_
            have HB := n7_
            clear n0_ n1_ n2_ n3_ n4_ n5_ n6_ n7_
            (try clear hb)
            (try clear hb2)
            (try clear hk)
            (try clear hi)
            (try clear ho0)
            obtain ⟨Ao41, co41, eo41⟩ := Kd.N_slice HO247.out
            (first | subst eo41 | (injection eo41 with f1_ f2_ f3_; have f4_ := f1_.symm; have f5_ := f3_.symm; clear f1_ f2_ f3_; subst f4_; subst f5_))
            refine hK.out _ _ ((b4 BK226.out 0).trans rfl) (fun hHeld => ?_)
            clear hK K
            refine norm_ (a' := ?_) ?_ ?_
            rotate_left
            ·
             show Act.put _ (some 52) _ = _
             simp only [Act.put, l1, l2, l3, i64_w, i32_w]
             rfl
            refine one_ (i := 9) (N := some 53) #[tt,tt,tt,tt,tt,tt,tt,tt,tt,tt,ff] rfl rfl (one_of HT_.out (by kernel_rfl)) (by decide) (fun K hK => ?_)
            refine Kd.N_append_rows_step (Kd.slice 3 (Kd.int .i64)) (w0 := w) w.heap.size (by rfl) (.tmp 44) (.tmp 52) 72 31 (.slice none 0 0) 24 rfl Try.underlying72 info31 rfl (by decide) (by omega) (.slice Ao28 x5_2.length co28) x5_2 t245 _ _ _ (fun k_ => (P1_ k_ ∨ w.heap.size ≤ k_) ∧ some k_ ≠ (.slice Ao37 y239.length co37 : Value).ownBlock ∧ k_ ≠ gb226 ∧ k_ ≠ gb231) (fun k_ => ((fun k_ => (P1_ k_ ∨ w.heap.size ≤ k_) ∧ some k_ ≠ (.slice Ao37 y239.length co37 : Value).ownBlock ∧ k_ ≠ gb226 ∧ k_ ≠ gb231)) k_ ∧ some k_ ≠ (.slice Ao28 x5_2.length co28 : Value).ownBlock) rfl rfl ?aO ?aR (fun _ hk => hk) ?aF ?aB ?aS ?aL ?_
            (case aR => exact (by skip; exact Kd.N_F (Kd.N_mono (ok' := (fun k_ => ((fun k_ => (P1_ k_ ∨ w.heap.size ≤ k_) ∧ some k_ ≠ (.slice Ao37 y239.length co37 : Value).ownBlock ∧ k_ ≠ gb226 ∧ k_ ≠ gb231)) k_ ∧ some k_ ≠ (.slice Ao28 x5_2.length co28 : Value).ownBlock)) (HO247.out) (fun k_ hk => ⟨⟨hk.1, ⟨hk.2.2.1, ⟨hk.2.2.2.1, hk.2.2.2.2⟩⟩⟩, hk.2.1⟩))))
            (case aB => exact (by repeat (first | (with_reducible first | exact HB.out | apply b8 | apply b6 | apply b7 | refine b3 ?_ GE226.out | refine b3 ?_ GE231.out) | exact HB.out)))
            (case aF => exact (fun k_ hk => ⟨(.inr (Nat.le_trans (b12 (by repeat (first | (with_reducible first | exact HB.out | apply b8 | apply b6 | apply b7 | refine b3 ?_ GE226.out | refine b3 ?_ GE231.out) | exact HB.out))) hk)), Kd.fresh' (k5 (by (with_reducible repeat (first | apply k0 | apply k1 | apply k2)); exact HO241.out)) k_ hk, Kd.freshB (g := gb226) (o := .cells #[.slice (some ad230) l0_0.length c0_0] 24 (0, 0)) (by (with_reducible repeat (first | refine b0 ?_ _ | refine b1 ?_ | refine b2 ?_ _)); exact BK226.out) k_ hk, Kd.freshB (g := gb231) (o := .cells #[.int .i64 ((rd_T54 l0_0 (l1.length : Int)).f0), .int .i64 ((rd_T54 l0_0 (l1.length : Int)).f1)] 54 (0, 0)) (by (with_reducible repeat (first | refine b0 ?_ _ | refine b1 ?_ | refine b2 ?_ _)); exact BK231.out) k_ hk⟩))
            (case aO => exact (by (with_reducible repeat (first | apply Kd.N_alloc | apply Kd.N_drewN | apply Kd.N_drew)); exact Kd.N_mono HO_5.out (fun _ hk => ⟨hk.1.1.1, ⟨hk.1.1.2.1, ⟨hk.1.1.2.2.1, hk.1.1.2.2.2⟩⟩⟩)))
            (case aS => exact (b12 (by repeat (first | (with_reducible first | exact HB.out | apply b8 | apply b6 | apply b7 | refine b3 ?_ GE226.out | refine b3 ?_ GE231.out) | exact HB.out))))
            (case aL => have := LMc25.out; omega)
            intro v249 w40 ho hb hg hat
            rw [← Ny248.out] at ho
            have n0_ := Aside0.mk (Kd.V_afterv (ok := (fun k_ => (P1_ k_ ∨ w.heap.size ≤ k_) ∧ some k_ ≠ (.slice Ao37 y239.length co37 : Value).ownBlock ∧ some k_ ≠ (.slice Ao38 y242.length co38 : Value).ownBlock ∧ some k_ ≠ (.slice Ao41 t245.length co41 : Value).ownBlock ∧ k_ ≠ gb226 ∧ k_ ≠ gb231)) (by (with_reducible repeat (first | apply Kd.V_alloc | apply Kd.V_drewN | apply Kd.V_drew)); exact Kd.V_mono HO_1.out (fun _ hk => ⟨⟨hk.1.1.1, ⟨hk.1.1.2.2.1, ⟨hk.1.2, ⟨hk.2, ⟨hk.1.1.2.2.2.1, hk.1.1.2.2.2.2⟩⟩⟩⟩⟩, hk.1.1.2.1⟩)) hg hat)
            have n1_ := Aside0.mk (blk_grown (g := gb226) (o := .cells #[.slice (some ad230) l0_0.length c0_0] 24 (0, 0)) (by (with_reducible repeat (first | refine b0 ?_ _ | refine b1 ?_ | refine b2 ?_ _)); exact BK226.out) hg (Kd.N_ne HO_5.out BK226.out (by decide)))
            have n2_ := Aside0.mk (blk_grown (g := gb231) (o := .cells #[.int .i64 ((rd_T54 l0_0 (l1.length : Int)).f0), .int .i64 ((rd_T54 l0_0 (l1.length : Int)).f1)] 54 (0, 0)) (by (with_reducible repeat (first | refine b0 ?_ _ | refine b1 ?_ | refine b2 ?_ _)); exact BK231.out) hg (Kd.N_ne HO_5.out BK231.out (by decide)))
            have n3_ := Aside0.mk (Kd.R_over' (by (with_reducible repeat (first | apply k0 | apply k1 | apply k2)); exact HO241.out) (Kd.N_typed (by (with_reducible repeat (first | apply Kd.N_alloc | apply Kd.N_drewN | apply Kd.N_drew)); exact HO_5.out)) (by decide) hg)
            have n4_ := Aside0.mk (Kd.R_over' (by (with_reducible repeat (first | apply k0 | apply k1 | apply k2)); exact HO244.out) (Kd.N_typed (by (with_reducible repeat (first | apply Kd.N_alloc | apply Kd.N_drewN | apply Kd.N_drew)); exact HO_5.out)) (by decide) hg)
            have n5_ := Aside0.mk (Kd.N_afterv (ok := (fun k_ => (P1_ k_ ∨ w.heap.size ≤ k_) ∧ some k_ ≠ (.slice Ao37 y239.length co37 : Value).ownBlock ∧ k_ ≠ gb226 ∧ k_ ≠ gb231)) (by (with_reducible repeat (first | apply Kd.N_alloc | apply Kd.N_drewN | apply Kd.N_drew)); exact Kd.N_mono HO247.out (fun _ hk => ⟨⟨hk.1, ⟨hk.2.2.1, ⟨hk.2.2.2.1, hk.2.2.2.2⟩⟩⟩, hk.2.1⟩)) hg hat)
            have n6_ := Aside0.mk (hb)
            have n7_ := Aside0.mk (ho)
            clear HO_1
            clear BK226
            clear BK231
            clear HO241
            clear HO244
            clear HO247
            clear HB
            clear HO_5
            have HO_1 := n0_
            have BK226 := n1_
            have BK231 := n2_
            have HO241 := n3_
            have HO244 := n4_
            have HO247 := n5_
            have HB := n6_
            have HO250 := n7_
            clear n0_ n1_ n2_ n3_ n4_ n5_ n6_ n7_
            clear ho hb hg hat
            refine hK.out _ _ ((b4 BK226.out 0).trans rfl) (fun hHeld => ?_)
            clear hK K
            refine norm_ (a' := ?_) ?_ ?_
            rotate_left
            ·
             show Act.put _ (some 53) _ = _
             simp only [Act.put, l1, l2, l3, i64_w, i32_w]
             rfl
            refine pure_ (i := 10) (N := some 5) (v := ?_) (a' := ?_) #[tt,tt,tt,tt,tt,tt,tt,tt,tt,tt,tt] rfl rfl (any_of HT_.out (by kernel_rfl)) (fun _ _ _ h => h) (Or.inl ⟨by rfl, ?_⟩) ?_ ?_
            rotate_left
            ·
             intro w'
             go_simp
             with_reducible rfl
            rotate_left
            ·
             simp only [Act.put, l1, l2, l3, i64_w, i32_w]
             rfl
            refine done_ (done_of HT_.out (by kernel_rfl)) ?_
            try go_wp2
            go_roundg k2
            case measure => have := HJ9.out; have := HK2.out; omega
            case rel => exact ⟨(y248), (wrap64 (x9_2 + 1)), (by first | rfl | (simp; done) | (simp [*]; done)), H', ⟨by have := HJ9.out; have := HK2.out; omega⟩, ⟨by (with_reducible repeat (first | apply Kd.V_alloc | apply Kd.V_drewN | apply Kd.V_drew)); exact Kd.V_mono HO_1.out (fun _ hk => ⟨hk.1.1, ⟨hk.2, ⟨hk.1.2.2.2.2.1, hk.1.2.2.2.2.2⟩⟩⟩)⟩, ⟨by (with_reducible repeat (first | apply Kd.N_alloc | apply Kd.N_drewN | apply Kd.N_drew)); exact Kd.N_mono HO250.out (fun _ hk => ⟨hk.1, ⟨hk.2.2.1, hk.2.2.2⟩⟩)⟩, ⟨by (with_reducible repeat (first | refine b0 ?_ _ | refine b1 ?_ | refine b2 ?_ _)); exact BK226.out⟩, ⟨by (with_reducible repeat (first | refine b0 ?_ _ | refine b1 ?_ | refine b2 ?_ _)); exact BK231.out⟩, ⟨by repeat (first | (with_reducible first | exact HB.out | apply b8 | apply b6 | apply b7 | refine b3 ?_ GE226.out | refine b3 ?_ GE231.out) | exact HB.out)⟩⟩
           ·
            rw [if_neg c25] at H
            exact absurd H (by simp)
          ·
           rw [if_neg c23] at H
           exact absurd H (by simp)
         ·
          rw [if_neg c22] at H
          exact absurd H (by simp)
        ·
         rw [if_neg c21] at H
         have c21b0 : decide (x9_2 ≤ ((rd_T54 l0_0 (l1.length : Int)).f1)) = false := decide_eq_false c21
         clear c21
         obtain rfl := Option.some.inj H
         have hnb42 := NB231_226.out
         have hnc42 := NB226_231.out
         have hcz43_0 : wr.cell? ⟨gb231, 0, none⟩ = some (.int .i64 ((rd_T54 l0_0 (l1.length : Int)).f0)) := (b4 BK231.out 0).trans rfl
         have hcz43_1 : wr.cell? ⟨gb231, 1, none⟩ = some (.int .i64 ((rd_T54 l0_0 (l1.length : Int)).f1)) := (b4 BK231.out 1).trans rfl
         have hfz43_0 := b9 BK231.out 0
         have hfz43_1 := b9 BK231.out 1
         go_wp2
         go_ret
         exact ⟨_, by first | rfl | (simp [errW_none, errW_some] <;> rfl) | (simp [*, errW_none, errW_some] <;> rfl), by (with_reducible repeat (first | apply Kd.N_alloc | apply Kd.N_drewN | apply Kd.N_drew)); exact Kd.N_mono HO_5.out (fun _ hk => hk.1), by repeat (first | (with_reducible first | exact HB.out | apply b8 | apply b6 | apply b7 | refine b3 ?_ GE226.out | refine b3 ?_ GE231.out) | exact HB.out)⟩
   ·
    rw [if_neg c9] at H
    exact absurd H (by simp)
  ·
   rw [if_neg c8] at H
   exact absurd H (by simp)
end Go.Proofs.Ytdagijgoegkphaa.P

namespace Go.Proofs.Ytdagijgoegkphaa.P
open Go.RowKit Go.Proofs.YtdagijgoegkphaaW.PrintWords Go.Proofs.YtdagijgoegkphaaW.PrintLast Go.Proofs.YtdagijgoegkphaaW.PrintMore
open Go.Proofs.YtdagijgoegkphaaW.PrintWords renaming blk_drewN → b0, blk_drew → b1, blk_alloc → b2, below_set → b3, blk_cell → b4, blk_below → b5, pw_below_drewN → b6, below_drew1 → b7, below_alloc → b8, blk_frozen → b9, below_size → b12, below_step → b13
open Go.Proofs.YtdagijgoegkphaaW.PrintWords.Kd renaming C_alloc → k13, C_drewN → k14, C_drew → k15, C_below → k16
attribute [local go_sem] max2_int min2_int max_two min_two max_three min_three max_four min_four   -- for this text's walks alone
def tensileref05_Allowed.l0 : Nat → List (S81) → List (List Int) → List (List Int) → Int → Option ((List (List Int)))
 | 0, _, _, _, _ => none
 | k + 1, x1, x5, x6, x7 => if x7 < (x6.length : Int) then (if 0 ≤ x7 then ((tensileref05_Allows.f k x1 (rd_L8 x6 x7)).bind fun t256 => (if t256 = true then (if x5.length < 5864062014805 then (tensileref05_Allowed.l0 k x1 (x5 ++ [rd_L8 x6 x7]) x6 (wrap64 (x7 + 1))) else (none)) else (tensileref05_Allowed.l0 k x1 x5 x6 (wrap64 (x7 + 1))))) else (none)) else (some x5)
def tensileref05_Allowed.f (k : Nat) (l0_0 : List (S54)) (l1 : List (S81)) : Option ((List (List Int))) := (tensileref05_Lists.f k l0_0 ([] : List Int)).bind fun t252 => (tensileref05_Allowed.l0 k l1 ([] : List (List Int)) t252 0)
set_option maxHeartbeats 8000000 in
set_option maxRecDepth 100000 in
theorem tensileref05_Allowed.calls (k : Nat) (A0_0 : Option Addr) (c0_0 : Nat) (l0_0 : List (S54)) (A1 : Option Addr) (c1 : Nat) (l1 : List (S81)) (r : List (List Int)) (w : World) (hr0_0 : Kd.C k54 w A0_0 l0_0.length l0_0) (hc0_0 : l0_0.length ≤ c0_0) (hr1 : Kd.C k81 w A1 l1.length l1) (hc1 : l1.length ≤ c1) (h : tensileref05_Allowed.f k l0_0 l1 = some r) :
  Calls Try.prog 39 #[.agg #[.slice A0_0 l0_0.length c0_0], .slice A1 l1.length c1] w fun e w' => ∃ v0_ : Value, e = .returned (v0_) ∧ Kd.N (Kd.slice 3 (Kd.int .i64)) 31 w' w.heap.size (fun k_ => (w.heap.size ≤ k_)) v0_ r ∧ Below w.heap.size w w' := by
 have hu24 := Try.underlying24
 have HR0_0 := Aside0.mk hr0_0
 have HC0_0 := Aside0.mk hc0_0
 clear hr0_0 hc0_0
 have HR1 := Aside0.mk hr1
 have HC1 := Aside0.mk hc1
 clear hr1 hc1
 have HB := Aside0.mk (Below.refl w.heap.size w)
 have H : ((tensileref05_Lists.f k l0_0 ([] : List Int)).bind fun t252 => (tensileref05_Allowed.l0 k l1 ([] : List (List Int)) t252 0)) = some r := h
 clear h
 replace H := Option.bind_eq_some_iff.mp H
 obtain ⟨t252, A30, H⟩ := H
 replace H : (tensileref05_Allowed.l0 k l1 ([] : List (List Int)) t252 0) = some r := H
 have A3 := Aside0.mk A30
 clear A30
 have H' := Aside0.mk H
 clear H
 go_enter Try.func39, Try.ntmps39
 go_wp2_with (first | ((with_reducible refine gate_dst (N := 2) rfl ?_); refine box_event ?hg (N := 2) ?hd (cs := #[.slice A0_0 l0_0.length c0_0]) (t := 24) ?hr ?_; (case hd => rfl); (case hg => rfl); (case hr => first | (go_simp; done) | (go_simp; rfl)); intro gb251 hg w4 hbox hb; have n0_ := Aside0.mk (b13 (by repeat (first | (with_reducible first | exact HB.out | apply b8 | apply b6 | apply b7) | exact HB.out)) hb); have n1_ := Aside0.mk (hbox); have n2_ := Aside0.mk ((by rw [hg]; exact (b12 (by repeat (first | (with_reducible first | exact HB.out | apply b8 | apply b6 | apply b7) | exact HB.out))) : w.heap.size ≤ gb251)); have n3_ := Aside0.mk ((by rw [hg]; exact (b12 (by repeat (first | (with_reducible first | exact HB.out | apply b8 | apply b6 | apply b7) | exact HB.out))) : w.heap.size ≤ gb251)); clear HB; have HB := n0_; have BK251 := n1_; have GW251 := n2_; have GE251 := n3_; clear n0_ n1_ n2_ n3_; clear hb hbox hg; have hcz5_0 : w4.cell? ⟨gb251, 0, none⟩ = some (.slice A0_0 l0_0.length c0_0) := (b4 BK251.out 0).trans rfl; have hfz5_0 := b9 BK251.out 0) | ((with_reducible refine gate_callee (f := 50) rfl ?_); refine goesL_ (some 9) rfl rfl Try.func50 (by kernel_rfl) rfl #[.agg #[.slice A0_0 l0_0.length c0_0], .slice none 0 0] rfl (by (try simp only [List.map_toArray, List.map_cons, List.map_nil]); first | done | rfl | (simp only [List.length_drop, List.length_take]; rfl)) ?_; (refine (tensileref05_Lists.calls k _ _ l0_0 (fun k_ => False) _ _ ([] : List Int) t252 _ ?side1 ?side2 ?side3 A3.out).mono ?_); (case side1 => repeat (first | exact (k16 HR0_0.out HB.out) | (with_reducible refine k13 ?_ _) | (with_reducible refine k14 ?_ _) | (with_reducible refine k15 ?_))); (case side2 => exact HC0_0.out); (case side3 => exact Kd.V_nil _ _ _ _ _); rintro e w6 ⟨v253, rfl, ho0, hb⟩; refine ⟨_, rfl, ?_⟩; have n0_ := Aside0.mk (Kd.N_lower (Kd.N_mono (ok' := fun k_ => (w.heap.size ≤ k_) ∧ k_ ≠ gb251) ho0 (fun k_ hk_ => ⟨Or.elim hk_ (fun hs_ => (hs_).elim) (fun hn_ => (Nat.le_trans (b12 (by repeat (first | (with_reducible first | exact HB.out | apply b8 | apply b6 | apply b7 | refine b3 ?_ GE251.out) | exact HB.out))) hn_)), Or.elim hk_ (fun hs_ => (hs_).elim) (fun hn_ => (Kd.freshB (g := gb251) (o := .cells #[.slice A0_0 l0_0.length c0_0] 24 (0, 0)) (by (with_reducible repeat (first | refine b0 ?_ _ | refine b1 ?_ | refine b2 ?_ _)); exact BK251.out) k_ hn_))⟩)) (b12 (by repeat (first | (with_reducible first | exact HB.out | apply b8 | apply b6 | apply b7 | refine b3 ?_ GE251.out) | exact HB.out)))); have n1_ := Aside0.mk (b5 (g := gb251) (o := .cells #[.slice A0_0 l0_0.length c0_0] 24 (0, 0)) (by (with_reducible repeat (first | refine b0 ?_ _ | refine b1 ?_ | refine b2 ?_ _)); exact BK251.out) hb); have n2_ := Aside0.mk (b13 (by repeat (first | (with_reducible first | exact HB.out | apply b8 | apply b6 | apply b7 | refine b3 ?_ GE251.out) | exact HB.out)) hb); clear BK251; clear HB; have HO254 := n0_; have BK251 := n1_; have HB := n2_; clear n0_ n1_ n2_; (try clear hb); (try clear hb2); (try clear hk); (try clear hi); (try clear ho0)))
 go_loopg [5, 7] k (fun kq v5 v7 w' => ∃ (x5_1 : List (List Int)) (x7_1 : Int), v7 = .int .i64 x7_1 ∧ Aside0 (tensileref05_Allowed.l0 kq l1 x5_1 t252 x7_1 = some r) ∧ Aside0 (kq ≤ k) ∧ Aside0 (Kd.N (Kd.slice 3 (Kd.int .i64)) 31 w' w.heap.size (fun k_ => (w.heap.size ≤ k_) ∧ some k_ ≠ (v253 : Value).ownBlock ∧ k_ ≠ gb251) v5 x5_1) ∧ Aside0 (Kd.N (Kd.slice 3 (Kd.int .i64)) 31 w' w.heap.size (fun k_ => (w.heap.size ≤ k_) ∧ some k_ ≠ (v5 : Value).ownBlock ∧ k_ ≠ gb251) v253 t252) ∧ Aside0 (w'.heap[gb251]? = some (.cells #[(.slice A0_0 l0_0.length c0_0)] 24 (0, 0))) ∧ Aside0 (Below w.heap.size w w'))
 case atStart => exact ⟨(([] : List (List Int))), (0), (by first | rfl | (simp; done) | (simp [*]; done)), H', ⟨Nat.le_refl _⟩, ⟨by first | exact Kd.S_nil _ _ _ _ _ | exact Kd.N_nil _ _ _ _ _ | exact Kd.V_nil _ _ _ _ _ | exact Kd.Q_nil _ _ _ _ _ | exact Kd.R_nil _ _ _ _ _⟩, ⟨by (with_reducible repeat (first | apply Kd.N_alloc | apply Kd.N_drewN | apply Kd.N_drew)); exact Kd.N_mono HO254.out (fun _ hk => ⟨hk.1, ⟨(by simp [Value.ownBlock]), hk.2⟩⟩)⟩, ⟨by (with_reducible repeat (first | refine b0 ?_ _ | refine b1 ?_ | refine b2 ?_ _)); exact BK251.out⟩, ⟨by repeat (first | (with_reducible first | exact HB.out | apply b8 | apply b6 | apply b7 | refine b3 ?_ GE251.out) | exact HB.out)⟩⟩
 case round =>
  clear H'
  try clear c1
  try clear p2
  try clear c3
  try clear c5
  try clear hcz5_0
  try clear hfz5_0
  obtain ⟨x5_1, x7_1, rfl, HA, HK1, HO_5, HO_6, BK251, HB⟩ := hrel
  cases gk with
  | zero => exact absurd HA.out (by simp [tensileref05_Allowed.l0])
  | succ k1 =>
   have H := HA.out
   clear HA
   simp only [tensileref05_Allowed.l0] at H
   by_cases c7 : x7_1 < (t252.length : Int)
   ·
    rw [if_pos c7] at H
    have c7b0 : decide (x7_1 < (t252.length : Int)) = true := decide_eq_true c7
    clear c7
    by_cases c8 : 0 ≤ x7_1
    ·
     rw [if_pos c8] at H
     have c8b0 : decide (0 ≤ x7_1) = true := decide_eq_true c8
     clear c8
     replace H := Option.bind_eq_some_iff.mp H
     obtain ⟨t256, A90, H⟩ := H
     replace H : (if t256 = true then (if x5_1.length < 5864062014805 then (tensileref05_Allowed.l0 k1 l1 (x5_1 ++ [rd_L8 t252 x7_1]) t252 (wrap64 (x7_1 + 1))) else (none)) else (tensileref05_Allowed.l0 k1 l1 x5_1 t252 (wrap64 (x7_1 + 1)))) = some r := H
     have A9 := Aside0.mk A90
     clear A90
     by_cases c10 : t256 = true
     ·
      subst c10
      have H1 : (if x5_1.length < 5864062014805 then (tensileref05_Allowed.l0 k1 l1 (x5_1 ++ [rd_L8 t252 x7_1]) t252 (wrap64 (x7_1 + 1))) else (none)) = some r := by rw [if_pos rfl] at H; exact H
      clear H
      have H := H1
      clear H1
      by_cases c11 : x5_1.length < 5864062014805
      ·
       rw [if_pos c11] at H
       have LMc11 := Aside0.mk c11
       clear c11
       obtain ⟨y258, hy258⟩ : ∃ y_ : List (List Int), y_ = (x5_1 ++ [rd_L8 t252 x7_1]) := ⟨_, rfl⟩
       replace H : (tensileref05_Allowed.l0 k1 l1 y258 t252 (wrap64 (x7_1 + 1))) = some r := by first | (rw [hy258]; with_reducible exact H) | (have H2_ := (Option.bind_some _ _).symm.trans H; rw [hy258]; with_reducible exact H2_) | (have H2_ := (Option.bind_some _ _).symm.trans H; with_reducible exact H2_) | with_reducible exact H | (rw [hy258]; exact H) | exact H
       have Ny258 := Aside0.mk hy258
       clear hy258
       have H' := Aside0.mk H
       clear H
       obtain ⟨Ao12, co12, eo12⟩ := Kd.N_slice HO_6.out
       subst eo12
       have p255 : 0 ≤ (x7_1 : Int) := of_decide_eq_true (by first | (with_reducible assumption) | assumption)
       have q255 : x7_1 < (t252.length : Int) := of_decide_eq_true (by first | (with_reducible assumption) | assumption)
       obtain ⟨ad255, A255_0, c255_0, e255, hx255_0, hl255_0, hi255_0⟩ := at_L8 (Kd.N_reads' HO_6.out).2.2 x7_1 p255 q255
       cases e255
       obtain ⟨ce255, hce255, hMe255, hcc255⟩ := Kd.N_get HO_6.out [] x7_1 p255 (by first | exact q255 | exact of_decide_eq_true (by first | (with_reducible assumption) | assumption) | (have e_ := (Kd.N_reads' HO_6.out).1; omega))
       obtain ⟨ua255_0, uc255_0, rfl, ul255_0, ge255_0⟩ := Kd.FK_slice_open hMe255
       have hv255_0 := hcc255 0 _ rfl
       rw [Nat.add_zero, show ((Kd.slice 3 (Kd.int .i64))).sz = 1 from rfl, Nat.mul_one] at hv255_0
       replace hv255_0 := Option.some.inj (hv255_0.symm.trans hx255_0)
       injection hv255_0 with hva_ hvn_ hvc_
       rw [hva_] at ge255_0
       rw [hvc_] at ul255_0
       have HL255_0 := Aside0.mk (show Kd.V (Kd.int .i64) 3 _ w.heap.size _ _ (rd_L8 t252 x7_1) from Kd.V_mk ul255_0 ge255_0)
       clear hva_ hvn_ hvc_ ge255_0 ul255_0
       clear hcc255 hce255
       have HR255_0 := Aside0.mk hi255_0
       have HC255_0 := Aside0.mk hl255_0
       clear hi255_0 hl255_0
       replace p255 := eq_true p255
       replace q255 := eq_true q255
       go_wp2_with (first | ((with_reducible refine gate_callee (f := 47) rfl ?_); refine goesL_ (some 21) rfl rfl Try.func47 (by kernel_rfl) rfl #[.slice A1 l1.length c1, .slice A255_0 (rd_L8 t252 x7_1).length c255_0] rfl (by (try simp only [List.map_toArray, List.map_cons, List.map_nil]); first | done | rfl | (simp only [List.length_drop, List.length_take]; rfl)) ?_; (with_reducible refine (tensileref05_Allows.calls k1 _ _ l1 _ _ (rd_L8 t252 x7_1) true _ ?side1 ?side2 ?side3 ?side4 A9.out).mono ?_); (case side1 => repeat (first | exact (k16 HR1.out HB.out) | (with_reducible refine k13 ?_ _) | (with_reducible refine k14 ?_ _) | (with_reducible refine k15 ?_))); (case side2 => exact HC1.out); (case side3 => repeat (first | exact (by repeat (first | (with_reducible exact HR255_0.out) | (with_reducible refine k13 ?_ _) | (with_reducible refine k14 ?_ _) | (with_reducible refine k15 ?_) | exact HR255_0.out)) | (with_reducible refine k13 ?_ _) | (with_reducible refine k14 ?_ _) | (with_reducible refine k15 ?_))); (case side4 => exact HC255_0.out); rintro e w13 ⟨rfl, hb⟩; refine ⟨_, rfl, ?_⟩; have n0_ := Aside0.mk (Kd.N_below (by (with_reducible repeat (first | apply Kd.N_alloc | apply Kd.N_drewN | apply Kd.N_drew)); exact HO_5.out) hb); have n1_ := Aside0.mk (Kd.N_below (by (with_reducible repeat (first | apply Kd.N_alloc | apply Kd.N_drewN | apply Kd.N_drew)); exact HO_6.out) hb); have n2_ := Aside0.mk (Kd.V_below (by (with_reducible repeat (first | apply Kd.V_alloc | apply Kd.V_drewN | apply Kd.V_drew)); exact HL255_0.out) hb); have n3_ := Aside0.mk (b5 (g := gb251) (o := .cells #[.slice A0_0 l0_0.length c0_0] 24 (0, 0)) (by (with_reducible repeat (first | refine b0 ?_ _ | refine b1 ?_ | refine b2 ?_ _)); exact BK251.out) hb); have n4_ := Aside0.mk (k16 (by repeat (first | (with_reducible exact HR255_0.out) | (with_reducible refine k13 ?_ _) | (with_reducible refine k14 ?_ _) | (with_reducible refine k15 ?_) | exact HR255_0.out)) hb); have n5_ := Aside0.mk (b13 (by repeat (first | (with_reducible first | exact HB.out | apply b8 | apply b6 | apply b7 | refine b3 ?_ GE251.out) | exact HB.out)) hb); clear HO_5; clear HO_6; clear HL255_0; clear BK251; clear HR255_0; clear HB; have HO_5 := n0_; have HO_6 := n1_; have HL255_0 := n2_; have BK251 := n3_; have HR255_0 := n4_; have HB := n5_; clear n0_ n1_ n2_ n3_ n4_ n5_; (try clear hb); (try clear hb2); (try clear hk); (try clear hi); have p257 : 0 ≤ (x7_1 : Int) := of_decide_eq_true (by first | (with_reducible assumption) | assumption); have q257 : x7_1 < (t252.length : Int) := of_decide_eq_true (by first | (with_reducible assumption) | assumption); obtain ⟨ad257, A257_0, c257_0, e257, hx257_0, hl257_0, hi257_0⟩ := at_L8 (Kd.N_reads' HO_6.out).2.2 x7_1 p257 q257; obtain rfl : ad255 = ad257 := (by injection e257); obtain ⟨ce257, hce257, hMe257, hcc257⟩ := Kd.N_get HO_6.out [] x7_1 p257 (by first | exact q257 | exact of_decide_eq_true (by first | (with_reducible assumption) | assumption) | (have e_ := (Kd.N_reads' HO_6.out).1; omega)); obtain ⟨ua257_0, uc257_0, rfl, ul257_0, ge257_0⟩ := Kd.FK_slice_open hMe257; have hv257_0 := hcc257 0 _ rfl; rw [Nat.add_zero, show ((Kd.slice 3 (Kd.int .i64))).sz = 1 from rfl, Nat.mul_one] at hv257_0; replace hv257_0 := Option.some.inj (hv257_0.symm.trans hx257_0); injection hv257_0 with hva_ hvn_ hvc_; rw [hva_] at ge257_0; rw [hvc_] at ul257_0; have HL257_0 := Aside0.mk (show Kd.V (Kd.int .i64) 3 _ w.heap.size _ _ (rd_L8 t252 x7_1) from Kd.V_mk ul257_0 ge257_0); clear hva_ hvn_ hvc_ ge257_0 ul257_0; clear hcc257 hce257; have HR257_0 := Aside0.mk hi257_0; have HC257_0 := Aside0.mk hl257_0; clear hi257_0 hl257_0; replace p257 := eq_true p257; replace q257 := eq_true q257) | ((with_reducible refine gate_builtin (b := .append) (xs := #[.tmp 22, .tmp 27]) rfl ?_); at_builtin; refine Kd.N_append (Kd.slice 3 (Kd.int .i64)) (w0 := w) w.heap.size rfl (.tmp 22) (.tmp 27) 72 31 (.slice none 0 0) 24 rfl Try.underlying72 info31 rfl (by decide) (by omega) u5 x5_1 (rd_L8 t252 x7_1) [.slice A257_0 (rd_L8 t252 x7_1).length c257_0] (fun k_ => (w.heap.size ≤ k_) ∧ some k_ ≠ (.slice (some ad255) t252.length co12 : Value).ownBlock ∧ k_ ≠ gb251) (fun k_ => ((fun k_ => (w.heap.size ≤ k_) ∧ some k_ ≠ (.slice (some ad255) t252.length co12 : Value).ownBlock ∧ k_ ≠ gb251)) k_ ∧ some k_ ≠ (u5 : Value).ownBlock) rfl rfl ?aP (fun _ hk => hk) ?aF ?aO ?aB ?aS ?aL ?_; (case aP => exact (Kd.FK_slice_mk (Kd.V_reads' (Kd.V_mono (ok' := (fun k_ => ((fun k_ => (w.heap.size ≤ k_) ∧ some k_ ≠ (.slice (some ad255) t252.length co12 : Value).ownBlock ∧ k_ ≠ gb251)) k_ ∧ some k_ ≠ (u5 : Value).ownBlock)) (HL257_0.out) (fun k_ hk => ⟨⟨hk.1.1, ⟨hk.2, hk.1.2.2⟩⟩, hk.1.2.1⟩))).2.1 (Kd.V_F (Kd.V_mono (ok' := (fun k_ => ((fun k_ => (w.heap.size ≤ k_) ∧ some k_ ≠ (.slice (some ad255) t252.length co12 : Value).ownBlock ∧ k_ ≠ gb251)) k_ ∧ some k_ ≠ (u5 : Value).ownBlock)) (HL257_0.out) (fun k_ hk => ⟨⟨hk.1.1, ⟨hk.2, hk.1.2.2⟩⟩, hk.1.2.1⟩))))); (case aB => exact (by repeat (first | (with_reducible first | exact HB.out | apply b8 | apply b6 | apply b7 | refine b3 ?_ GE251.out) | exact HB.out))); (case aF => exact (fun k_ hk => ⟨(Nat.le_trans (b12 (by repeat (first | (with_reducible first | exact HB.out | apply b8 | apply b6 | apply b7 | refine b3 ?_ GE251.out) | exact HB.out))) hk), Kd.fresh' (Kd.N_lt (by (with_reducible repeat (first | apply Kd.N_alloc | apply Kd.N_drewN | apply Kd.N_drew)); exact HO_6.out)) k_ hk, Kd.freshB (g := gb251) (o := .cells #[.slice A0_0 l0_0.length c0_0] 24 (0, 0)) (by (with_reducible repeat (first | refine b0 ?_ _ | refine b1 ?_ | refine b2 ?_ _)); exact BK251.out) k_ hk⟩)); (case aO => exact (by (with_reducible repeat (first | apply Kd.N_alloc | apply Kd.N_drewN | apply Kd.N_drew)); exact HO_5.out)); (case aS => exact (b12 (by repeat (first | (with_reducible first | exact HB.out | apply b8 | apply b6 | apply b7 | refine b3 ?_ GE251.out) | exact HB.out)))); (case aL => have := LMc11.out; omega); intro v259 w14 ho hb hg hat; rw [← Ny258.out] at ho; have n0_ := Aside0.mk (Kd.N_afterv (ok := (fun k_ => (w.heap.size ≤ k_) ∧ k_ ≠ gb251)) (by (with_reducible repeat (first | apply Kd.N_alloc | apply Kd.N_drewN | apply Kd.N_drew)); exact Kd.N_mono HO_6.out (fun _ hk => ⟨⟨hk.1, hk.2.2⟩, hk.2.1⟩)) hg hat); have n1_ := Aside0.mk (blk_grown (g := gb251) (o := .cells #[.slice A0_0 l0_0.length c0_0] 24 (0, 0)) (by (with_reducible repeat (first | refine b0 ?_ _ | refine b1 ?_ | refine b2 ?_ _)); exact BK251.out) hg (Kd.N_ne HO_5.out BK251.out (by decide))); have n2_ := Aside0.mk (Kd.V_afterv (ok := (fun k_ => (w.heap.size ≤ k_) ∧ some k_ ≠ (.slice (some ad255) t252.length co12 : Value).ownBlock ∧ k_ ≠ gb251)) (by (with_reducible repeat (first | apply Kd.V_alloc | apply Kd.V_drewN | apply Kd.V_drew)); exact Kd.V_mono HL255_0.out (fun _ hk => ⟨⟨hk.1.1, ⟨hk.2, hk.1.2.2⟩⟩, hk.1.2.1⟩)) hg hat); have n3_ := Aside0.mk (Kd.V_afterv (ok := (fun k_ => (w.heap.size ≤ k_) ∧ some k_ ≠ (.slice (some ad255) t252.length co12 : Value).ownBlock ∧ k_ ≠ gb251)) (by (with_reducible repeat (first | apply Kd.V_alloc | apply Kd.V_drewN | apply Kd.V_drew)); exact Kd.V_mono HL257_0.out (fun _ hk => ⟨⟨hk.1.1, ⟨hk.2, hk.1.2.2⟩⟩, hk.1.2.1⟩)) hg hat); have n4_ := Aside0.mk (hb); have n5_ := Aside0.mk (ho); clear HO_6; clear BK251; clear HL255_0; clear HL257_0; clear HB; clear HO_5; have HO_6 := n0_; have BK251 := n1_; have HL255_0 := n2_; have HL257_0 := n3_; have HB := n4_; have HO260 := n5_; clear n0_ n1_ n2_ n3_ n4_ n5_; clear ho hb hg hat))
       go_roundg k1
       case measure => have := HK1.out; omega
       case rel => exact ⟨(y258), (wrap64 (x7_1 + 1)), (by first | rfl | (simp; done) | (simp [*]; done)), H', ⟨by have := HK1.out; omega⟩, ⟨by (with_reducible repeat (first | apply Kd.N_alloc | apply Kd.N_drewN | apply Kd.N_drew)); exact HO260.out⟩, ⟨by (with_reducible repeat (first | apply Kd.N_alloc | apply Kd.N_drewN | apply Kd.N_drew)); exact Kd.N_mono HO_6.out (fun _ hk => ⟨hk.1.1, ⟨hk.2, hk.1.2⟩⟩)⟩, ⟨by (with_reducible repeat (first | refine b0 ?_ _ | refine b1 ?_ | refine b2 ?_ _)); exact BK251.out⟩, ⟨by repeat (first | (with_reducible first | exact HB.out | apply b8 | apply b6 | apply b7 | refine b3 ?_ GE251.out) | exact HB.out)⟩⟩
      ·
       rw [if_neg c11] at H
       exact absurd H (by simp)
     ·
      replace c10 := Bool.eq_false_iff.mpr c10
      subst c10
      have H1 : (tensileref05_Allowed.l0 k1 l1 x5_1 t252 (wrap64 (x7_1 + 1))) = some r := by rw [if_neg (show ¬ (false = true) by decide)] at H; exact H
      clear H
      have H := H1
      clear H1
      have H' := Aside0.mk H
      clear H
      obtain ⟨Ao15, co15, eo15⟩ := Kd.N_slice HO_6.out
      subst eo15
      have p255 : 0 ≤ (x7_1 : Int) := of_decide_eq_true (by first | (with_reducible assumption) | assumption)
      have q255 : x7_1 < (t252.length : Int) := of_decide_eq_true (by first | (with_reducible assumption) | assumption)
      obtain ⟨ad255, A255_0, c255_0, e255, hx255_0, hl255_0, hi255_0⟩ := at_L8 (Kd.N_reads' HO_6.out).2.2 x7_1 p255 q255
      cases e255
      obtain ⟨ce255, hce255, hMe255, hcc255⟩ := Kd.N_get HO_6.out [] x7_1 p255 (by first | exact q255 | exact of_decide_eq_true (by first | (with_reducible assumption) | assumption) | (have e_ := (Kd.N_reads' HO_6.out).1; omega))
      obtain ⟨ua255_0, uc255_0, rfl, ul255_0, ge255_0⟩ := Kd.FK_slice_open hMe255
      have hv255_0 := hcc255 0 _ rfl
      rw [Nat.add_zero, show ((Kd.slice 3 (Kd.int .i64))).sz = 1 from rfl, Nat.mul_one] at hv255_0
      replace hv255_0 := Option.some.inj (hv255_0.symm.trans hx255_0)
      injection hv255_0 with hva_ hvn_ hvc_
      rw [hva_] at ge255_0
      rw [hvc_] at ul255_0
      have HL255_0 := Aside0.mk (show Kd.V (Kd.int .i64) 3 _ w.heap.size _ _ (rd_L8 t252 x7_1) from Kd.V_mk ul255_0 ge255_0)
      clear hva_ hvn_ hvc_ ge255_0 ul255_0
      clear hcc255 hce255
      have HR255_0 := Aside0.mk hi255_0
      have HC255_0 := Aside0.mk hl255_0
      clear hi255_0 hl255_0
      replace p255 := eq_true p255
      replace q255 := eq_true q255
      go_wp2_with (first | ((with_reducible refine gate_callee (f := 47) rfl ?_); refine goesL_ (some 21) rfl rfl Try.func47 (by kernel_rfl) rfl #[.slice A1 l1.length c1, .slice A255_0 (rd_L8 t252 x7_1).length c255_0] rfl (by (try simp only [List.map_toArray, List.map_cons, List.map_nil]); first | done | rfl | (simp only [List.length_drop, List.length_take]; rfl)) ?_; (with_reducible refine (tensileref05_Allows.calls k1 _ _ l1 _ _ (rd_L8 t252 x7_1) false _ ?side1 ?side2 ?side3 ?side4 A9.out).mono ?_); (case side1 => repeat (first | exact (k16 HR1.out HB.out) | (with_reducible refine k13 ?_ _) | (with_reducible refine k14 ?_ _) | (with_reducible refine k15 ?_))); (case side2 => exact HC1.out); (case side3 => repeat (first | exact (by repeat (first | (with_reducible exact HR255_0.out) | (with_reducible refine k13 ?_ _) | (with_reducible refine k14 ?_ _) | (with_reducible refine k15 ?_) | exact HR255_0.out)) | (with_reducible refine k13 ?_ _) | (with_reducible refine k14 ?_ _) | (with_reducible refine k15 ?_))); (case side4 => exact HC255_0.out); rintro e w16 ⟨rfl, hb⟩; refine ⟨_, rfl, ?_⟩; have n0_ := Aside0.mk (Kd.N_below (by (with_reducible repeat (first | apply Kd.N_alloc | apply Kd.N_drewN | apply Kd.N_drew)); exact HO_5.out) hb); have n1_ := Aside0.mk (Kd.N_below (by (with_reducible repeat (first | apply Kd.N_alloc | apply Kd.N_drewN | apply Kd.N_drew)); exact HO_6.out) hb); have n2_ := Aside0.mk (Kd.V_below (by (with_reducible repeat (first | apply Kd.V_alloc | apply Kd.V_drewN | apply Kd.V_drew)); exact HL255_0.out) hb); have n3_ := Aside0.mk (b5 (g := gb251) (o := .cells #[.slice A0_0 l0_0.length c0_0] 24 (0, 0)) (by (with_reducible repeat (first | refine b0 ?_ _ | refine b1 ?_ | refine b2 ?_ _)); exact BK251.out) hb); have n4_ := Aside0.mk (k16 (by repeat (first | (with_reducible exact HR255_0.out) | (with_reducible refine k13 ?_ _) | (with_reducible refine k14 ?_ _) | (with_reducible refine k15 ?_) | exact HR255_0.out)) hb); have n5_ := Aside0.mk (b13 (by repeat (first | (with_reducible first | exact HB.out | apply b8 | apply b6 | apply b7 | refine b3 ?_ GE251.out) | exact HB.out)) hb); clear HO_5; clear HO_6; clear HL255_0; clear BK251; clear HR255_0; clear HB; have HO_5 := n0_; have HO_6 := n1_; have HL255_0 := n2_; have BK251 := n3_; have HR255_0 := n4_; have HB := n5_; clear n0_ n1_ n2_ n3_ n4_ n5_; (try clear hb); (try clear hb2); (try clear hk); (try clear hi)))
      go_roundg k1
      case measure => have := HK1.out; omega
      case rel => exact ⟨(x5_1), (wrap64 (x7_1 + 1)), (by first | rfl | (simp; done) | (simp [*]; done)), H', ⟨by have := HK1.out; omega⟩, ⟨by (with_reducible repeat (first | apply Kd.N_alloc | apply Kd.N_drewN | apply Kd.N_drew)); exact HO_5.out⟩, ⟨by (with_reducible repeat (first | apply Kd.N_alloc | apply Kd.N_drewN | apply Kd.N_drew)); exact HO_6.out⟩, ⟨by (with_reducible repeat (first | refine b0 ?_ _ | refine b1 ?_ | refine b2 ?_ _)); exact BK251.out⟩, ⟨by repeat (first | (with_reducible first | exact HB.out | apply b8 | apply b6 | apply b7 | refine b3 ?_ GE251.out) | exact HB.out)⟩⟩
    ·
     rw [if_neg c8] at H
     exact absurd H (by simp)
   ·
    rw [if_neg c7] at H
    have c7b0 : decide (x7_1 < (t252.length : Int)) = false := decide_eq_false c7
    clear c7
    obtain rfl := Option.some.inj H
    obtain ⟨Ao17, co17, eo17⟩ := Kd.N_slice HO_6.out
    subst eo17
    go_wp2
    go_ret
    exact ⟨_, by first | rfl | (simp [errW_none, errW_some] <;> rfl) | (simp [*, errW_none, errW_some] <;> rfl), by (with_reducible repeat (first | apply Kd.N_alloc | apply Kd.N_drewN | apply Kd.N_drew)); exact Kd.N_mono HO_5.out (fun _ hk => hk.1), by repeat (first | (with_reducible first | exact HB.out | apply b8 | apply b6 | apply b7 | refine b3 ?_ GE251.out) | exact HB.out)⟩
end Go.Proofs.Ytdagijgoegkphaa.P

namespace Go.Proofs.Ytdagijgoegkphaa.P
open Go.RowKit Go.Proofs.YtdagijgoegkphaaW.PrintWords Go.Proofs.YtdagijgoegkphaaW.PrintLast Go.Proofs.YtdagijgoegkphaaW.PrintMore
open Go.Proofs.YtdagijgoegkphaaW.PrintWords renaming blk_drewN → b0, blk_drew → b1, blk_alloc → b2, below_set → b3, blk_cell → b4, blk_below → b5, pw_below_drewN → b6, below_drew1 → b7, below_alloc → b8, blk_frozen → b9, below_size → b12, below_step → b13
open Go.Proofs.YtdagijgoegkphaaW.PrintWords.Kd renaming C_alloc → k13, C_drewN → k14, C_drew → k15, C_below → k16
attribute [local go_sem] max2_int min2_int max_two min_two max_three min_three max_four min_four   -- for this text's walks alone
def tensilelaw05_asked.f (k : Nat) (l0_0 : List (S54)) (l1 : List (S81)) : Option (Int) := (tensilelaw05_fault.f k l0_0 l1).bind fun t262 => (if t262 = 0 then ((tensileref05_Allowed.f k l0_0 l1).bind fun t263 => (if (t263.length : Int) = 0 then (some 9) else (some 0))) else (some t262))
set_option maxHeartbeats 8000000 in
set_option maxRecDepth 100000 in
theorem tensilelaw05_asked.calls (k : Nat) (A0_0 : Option Addr) (c0_0 : Nat) (l0_0 : List (S54)) (A1 : Option Addr) (c1 : Nat) (l1 : List (S81)) (r : Int) (w : World) (hr0_0 : Kd.C k54 w A0_0 l0_0.length l0_0) (hc0_0 : l0_0.length ≤ c0_0) (hr1 : Kd.C k81 w A1 l1.length l1) (hc1 : l1.length ≤ c1) (h : tensilelaw05_asked.f k l0_0 l1 = some r) :
  Calls Try.prog 38 #[.agg #[.slice A0_0 l0_0.length c0_0], .slice A1 l1.length c1] w fun e w' => e = .returned (.int .i64 r) ∧ Below w.heap.size w w' := by
 have hu24 := Try.underlying24
 have HR0_0 := Aside0.mk hr0_0
 have HC0_0 := Aside0.mk hc0_0
 clear hr0_0 hc0_0
 have HR1 := Aside0.mk hr1
 have HC1 := Aside0.mk hc1
 clear hr1 hc1
 have HB := Aside0.mk (Below.refl w.heap.size w)
 have H : ((tensilelaw05_fault.f k l0_0 l1).bind fun t262 => (if t262 = 0 then ((tensileref05_Allowed.f k l0_0 l1).bind fun t263 => (if (t263.length : Int) = 0 then (some 9) else (some 0))) else (some t262))) = some r := h
 clear h
 replace H := Option.bind_eq_some_iff.mp H
 obtain ⟨t262, A30, H⟩ := H
 replace H : (if t262 = 0 then ((tensileref05_Allowed.f k l0_0 l1).bind fun t263 => (if (t263.length : Int) = 0 then (some 9) else (some 0))) else (some t262)) = some r := H
 have A3 := Aside0.mk A30
 clear A30
 by_cases c4 : t262 = 0
 ·
  rw [if_pos c4] at H
  have c4b0 : (t262 == 0) = true := beq_iff_eq.mpr c4
  have c4b1 : (t262 != 0) = false := bne_eq_false_iff_eq.mpr c4
  clear c4
  replace H := Option.bind_eq_some_iff.mp H
  obtain ⟨t263, A50, H⟩ := H
  replace H : (if (t263.length : Int) = 0 then (some 9) else (some 0)) = some r := H
  have A5 := Aside0.mk A50
  clear A50
  by_cases c6 : (t263.length : Int) = 0
  ·
   rw [if_pos c6] at H
   have c6b0 : ((t263.length : Int) == 0) = true := beq_iff_eq.mpr c6
   have c6b1 : ((t263.length : Int) != 0) = false := bne_eq_false_iff_eq.mpr c6
   clear c6
   obtain rfl := Option.some.inj H
   go_enter Try.func38, Try.ntmps38
   go_wp2_with (first | ((with_reducible refine gate_dst (N := 2) rfl ?_); refine box_event ?hg (N := 2) ?hd (cs := #[.slice A0_0 l0_0.length c0_0]) (t := 24) ?hr ?_; (case hd => rfl); (case hg => rfl); (case hr => first | (go_simp; done) | (go_simp; rfl)); intro gb261 hg w7 hbox hb; have n0_ := Aside0.mk (b13 (by repeat (first | (with_reducible first | exact HB.out | apply b8 | apply b6 | apply b7) | exact HB.out)) hb); have n1_ := Aside0.mk (hbox); have n2_ := Aside0.mk ((by rw [hg]; exact (b12 (by repeat (first | (with_reducible first | exact HB.out | apply b8 | apply b6 | apply b7) | exact HB.out))) : w.heap.size ≤ gb261)); have n3_ := Aside0.mk ((by rw [hg]; exact (b12 (by repeat (first | (with_reducible first | exact HB.out | apply b8 | apply b6 | apply b7) | exact HB.out))) : w.heap.size ≤ gb261)); clear HB; have HB := n0_; have BK261 := n1_; have GW261 := n2_; have GE261 := n3_; clear n0_ n1_ n2_ n3_; clear hb hbox hg; have hcz8_0 : w7.cell? ⟨gb261, 0, none⟩ = some (.slice A0_0 l0_0.length c0_0) := (b4 BK261.out 0).trans rfl; have hfz8_0 := b9 BK261.out 0) | ((with_reducible refine gate_callee (f := 49) rfl ?_); refine goesL_ (some 8) rfl rfl Try.func49 (by kernel_rfl) rfl #[.agg #[.slice A0_0 l0_0.length c0_0], .slice A1 l1.length c1] rfl (by (try simp only [List.map_toArray, List.map_cons, List.map_nil]); first | done | rfl | (simp only [List.length_drop, List.length_take]; rfl)) ?_; (with_reducible refine (tensilelaw05_fault.calls k _ _ l0_0 _ _ l1 t262 _ ?side1 ?side2 ?side3 ?side4 A3.out).mono ?_); (case side1 => repeat (first | exact (k16 HR0_0.out HB.out) | (with_reducible refine k13 ?_ _) | (with_reducible refine k14 ?_ _) | (with_reducible refine k15 ?_))); (case side2 => exact HC0_0.out); (case side3 => repeat (first | exact (k16 HR1.out HB.out) | (with_reducible refine k13 ?_ _) | (with_reducible refine k14 ?_ _) | (with_reducible refine k15 ?_))); (case side4 => exact HC1.out); rintro e w9 ⟨rfl, hb⟩; refine ⟨_, rfl, ?_⟩; have n0_ := Aside0.mk (b5 (g := gb261) (o := .cells #[.slice A0_0 l0_0.length c0_0] 24 (0, 0)) (by (with_reducible repeat (first | refine b0 ?_ _ | refine b1 ?_ | refine b2 ?_ _)); exact BK261.out) hb); have n1_ := Aside0.mk (b13 (by repeat (first | (with_reducible first | exact HB.out | apply b8 | apply b6 | apply b7 | refine b3 ?_ GE261.out) | exact HB.out)) hb); clear BK261; clear HB; have BK261 := n0_; have HB := n1_; clear n0_ n1_; (try clear hb); (try clear hb2); (try clear hk); (try clear hi); have hcz10_0 : w9.cell? ⟨gb261, 0, none⟩ = some (.slice A0_0 l0_0.length c0_0) := (b4 BK261.out 0).trans rfl; have hfz10_0 := b9 BK261.out 0) | ((with_reducible refine gate_callee (f := 39) rfl ?_); refine goesL_ (some 14) rfl rfl Try.func39 (by kernel_rfl) rfl #[.agg #[.slice A0_0 l0_0.length c0_0], .slice A1 l1.length c1] rfl (by (try simp only [List.map_toArray, List.map_cons, List.map_nil]); first | done | rfl | (simp only [List.length_drop, List.length_take]; rfl)) ?_; (with_reducible refine (tensileref05_Allowed.calls k _ _ l0_0 _ _ l1 t263 _ ?side1 ?side2 ?side3 ?side4 A5.out).mono ?_); (case side1 => repeat (first | exact (k16 HR0_0.out HB.out) | (with_reducible refine k13 ?_ _) | (with_reducible refine k14 ?_ _) | (with_reducible refine k15 ?_))); (case side2 => exact HC0_0.out); (case side3 => repeat (first | exact (k16 HR1.out HB.out) | (with_reducible refine k13 ?_ _) | (with_reducible refine k14 ?_ _) | (with_reducible refine k15 ?_))); (case side4 => exact HC1.out); rintro e w11 ⟨v264, rfl, ho0, hb⟩; refine ⟨_, rfl, ?_⟩; have n0_ := Aside0.mk (Kd.N_lower (Kd.N_mono (ok' := fun k_ => k_ ≠ gb261) ho0 (fun k_ hk_ => (Kd.freshB (g := gb261) (o := .cells #[.slice A0_0 l0_0.length c0_0] 24 (0, 0)) (by (with_reducible repeat (first | refine b0 ?_ _ | refine b1 ?_ | refine b2 ?_ _)); exact BK261.out) k_ hk_))) (b12 (by repeat (first | (with_reducible first | exact HB.out | apply b8 | apply b6 | apply b7 | refine b3 ?_ GE261.out) | exact HB.out)))); have n1_ := Aside0.mk (b5 (g := gb261) (o := .cells #[.slice A0_0 l0_0.length c0_0] 24 (0, 0)) (by (with_reducible repeat (first | refine b0 ?_ _ | refine b1 ?_ | refine b2 ?_ _)); exact BK261.out) hb); have n2_ := Aside0.mk (b13 (by repeat (first | (with_reducible first | exact HB.out | apply b8 | apply b6 | apply b7 | refine b3 ?_ GE261.out) | exact HB.out)) hb); clear BK261; clear HB; have HO265 := n0_; have BK261 := n1_; have HB := n2_; clear n0_ n1_ n2_; (try clear hb); (try clear hb2); (try clear hk); (try clear hi); (try clear ho0); obtain ⟨Ao12, co12, eo12⟩ := Kd.N_slice HO265.out; subst eo12))
   go_ret
   exact ⟨by first | rfl | (simp [errW_none, errW_some] <;> rfl) | (simp [*, errW_none, errW_some] <;> rfl), by repeat (first | (with_reducible first | exact HB.out | apply b8 | apply b6 | apply b7 | refine b3 ?_ GE261.out) | exact HB.out)⟩
  ·
   rw [if_neg c6] at H
   have c6b0 : ((t263.length : Int) == 0) = false := beq_eq_false_iff_ne.mpr c6
   have c6b1 : ((t263.length : Int) != 0) = true := bne_iff_ne.mpr c6
   have c6b2 : ¬ (t263 = []) := fun h_ => c6 (by rw [h_]; rfl)
   obtain rfl := Option.some.inj H
   go_enter Try.func38, Try.ntmps38
   go_wp2_with (first | ((with_reducible refine gate_dst (N := 2) rfl ?_); refine box_event ?hg (N := 2) ?hd (cs := #[.slice A0_0 l0_0.length c0_0]) (t := 24) ?hr ?_; (case hd => rfl); (case hg => rfl); (case hr => first | (go_simp; done) | (go_simp; rfl)); intro gb261 hg w13 hbox hb; have n0_ := Aside0.mk (b13 (by repeat (first | (with_reducible first | exact HB.out | apply b8 | apply b6 | apply b7) | exact HB.out)) hb); have n1_ := Aside0.mk (hbox); have n2_ := Aside0.mk ((by rw [hg]; exact (b12 (by repeat (first | (with_reducible first | exact HB.out | apply b8 | apply b6 | apply b7) | exact HB.out))) : w.heap.size ≤ gb261)); have n3_ := Aside0.mk ((by rw [hg]; exact (b12 (by repeat (first | (with_reducible first | exact HB.out | apply b8 | apply b6 | apply b7) | exact HB.out))) : w.heap.size ≤ gb261)); clear HB; have HB := n0_; have BK261 := n1_; have GW261 := n2_; have GE261 := n3_; clear n0_ n1_ n2_ n3_; clear hb hbox hg; have hcz14_0 : w13.cell? ⟨gb261, 0, none⟩ = some (.slice A0_0 l0_0.length c0_0) := (b4 BK261.out 0).trans rfl; have hfz14_0 := b9 BK261.out 0) | ((with_reducible refine gate_callee (f := 49) rfl ?_); refine goesL_ (some 8) rfl rfl Try.func49 (by kernel_rfl) rfl #[.agg #[.slice A0_0 l0_0.length c0_0], .slice A1 l1.length c1] rfl (by (try simp only [List.map_toArray, List.map_cons, List.map_nil]); first | done | rfl | (simp only [List.length_drop, List.length_take]; rfl)) ?_; (with_reducible refine (tensilelaw05_fault.calls k _ _ l0_0 _ _ l1 t262 _ ?side1 ?side2 ?side3 ?side4 A3.out).mono ?_); (case side1 => repeat (first | exact (k16 HR0_0.out HB.out) | (with_reducible refine k13 ?_ _) | (with_reducible refine k14 ?_ _) | (with_reducible refine k15 ?_))); (case side2 => exact HC0_0.out); (case side3 => repeat (first | exact (k16 HR1.out HB.out) | (with_reducible refine k13 ?_ _) | (with_reducible refine k14 ?_ _) | (with_reducible refine k15 ?_))); (case side4 => exact HC1.out); rintro e w15 ⟨rfl, hb⟩; refine ⟨_, rfl, ?_⟩; have n0_ := Aside0.mk (b5 (g := gb261) (o := .cells #[.slice A0_0 l0_0.length c0_0] 24 (0, 0)) (by (with_reducible repeat (first | refine b0 ?_ _ | refine b1 ?_ | refine b2 ?_ _)); exact BK261.out) hb); have n1_ := Aside0.mk (b13 (by repeat (first | (with_reducible first | exact HB.out | apply b8 | apply b6 | apply b7 | refine b3 ?_ GE261.out) | exact HB.out)) hb); clear BK261; clear HB; have BK261 := n0_; have HB := n1_; clear n0_ n1_; (try clear hb); (try clear hb2); (try clear hk); (try clear hi); have hcz16_0 : w15.cell? ⟨gb261, 0, none⟩ = some (.slice A0_0 l0_0.length c0_0) := (b4 BK261.out 0).trans rfl; have hfz16_0 := b9 BK261.out 0) | ((with_reducible refine gate_callee (f := 39) rfl ?_); refine goesL_ (some 14) rfl rfl Try.func39 (by kernel_rfl) rfl #[.agg #[.slice A0_0 l0_0.length c0_0], .slice A1 l1.length c1] rfl (by (try simp only [List.map_toArray, List.map_cons, List.map_nil]); first | done | rfl | (simp only [List.length_drop, List.length_take]; rfl)) ?_; (with_reducible refine (tensileref05_Allowed.calls k _ _ l0_0 _ _ l1 t263 _ ?side1 ?side2 ?side3 ?side4 A5.out).mono ?_); (case side1 => repeat (first | exact (k16 HR0_0.out HB.out) | (with_reducible refine k13 ?_ _) | (with_reducible refine k14 ?_ _) | (with_reducible refine k15 ?_))); (case side2 => exact HC0_0.out); (case side3 => repeat (first | exact (k16 HR1.out HB.out) | (with_reducible refine k13 ?_ _) | (with_reducible refine k14 ?_ _) | (with_reducible refine k15 ?_))); (case side4 => exact HC1.out); rintro e w17 ⟨v264, rfl, ho0, hb⟩; refine ⟨_, rfl, ?_⟩; have n0_ := Aside0.mk (Kd.N_lower (Kd.N_mono (ok' := fun k_ => k_ ≠ gb261) ho0 (fun k_ hk_ => (Kd.freshB (g := gb261) (o := .cells #[.slice A0_0 l0_0.length c0_0] 24 (0, 0)) (by (with_reducible repeat (first | refine b0 ?_ _ | refine b1 ?_ | refine b2 ?_ _)); exact BK261.out) k_ hk_))) (b12 (by repeat (first | (with_reducible first | exact HB.out | apply b8 | apply b6 | apply b7 | refine b3 ?_ GE261.out) | exact HB.out)))); have n1_ := Aside0.mk (b5 (g := gb261) (o := .cells #[.slice A0_0 l0_0.length c0_0] 24 (0, 0)) (by (with_reducible repeat (first | refine b0 ?_ _ | refine b1 ?_ | refine b2 ?_ _)); exact BK261.out) hb); have n2_ := Aside0.mk (b13 (by repeat (first | (with_reducible first | exact HB.out | apply b8 | apply b6 | apply b7 | refine b3 ?_ GE261.out) | exact HB.out)) hb); clear BK261; clear HB; have HO265 := n0_; have BK261 := n1_; have HB := n2_; clear n0_ n1_ n2_; (try clear hb); (try clear hb2); (try clear hk); (try clear hi); (try clear ho0); obtain ⟨Ao18, co18, eo18⟩ := Kd.N_slice HO265.out; subst eo18))
   go_ret
   exact ⟨by first | rfl | (simp [errW_none, errW_some] <;> rfl) | (simp [*, errW_none, errW_some] <;> rfl), by repeat (first | (with_reducible first | exact HB.out | apply b8 | apply b6 | apply b7 | refine b3 ?_ GE261.out) | exact HB.out)⟩
 ·
  rw [if_neg c4] at H
  have c4b0 : (t262 == 0) = false := beq_eq_false_iff_ne.mpr c4
  have c4b1 : (t262 != 0) = true := bne_iff_ne.mpr c4
  obtain rfl := Option.some.inj H
  go_enter Try.func38, Try.ntmps38
  go_wp2_with (first | ((with_reducible refine gate_dst (N := 2) rfl ?_); refine box_event ?hg (N := 2) ?hd (cs := #[.slice A0_0 l0_0.length c0_0]) (t := 24) ?hr ?_; (case hd => rfl); (case hg => rfl); (case hr => first | (go_simp; done) | (go_simp; rfl)); intro gb261 hg w19 hbox hb; have n0_ := Aside0.mk (b13 (by repeat (first | (with_reducible first | exact HB.out | apply b8 | apply b6 | apply b7) | exact HB.out)) hb); have n1_ := Aside0.mk (hbox); have n2_ := Aside0.mk ((by rw [hg]; exact (b12 (by repeat (first | (with_reducible first | exact HB.out | apply b8 | apply b6 | apply b7) | exact HB.out))) : w.heap.size ≤ gb261)); have n3_ := Aside0.mk ((by rw [hg]; exact (b12 (by repeat (first | (with_reducible first | exact HB.out | apply b8 | apply b6 | apply b7) | exact HB.out))) : w.heap.size ≤ gb261)); clear HB; have HB := n0_; have BK261 := n1_; have GW261 := n2_; have GE261 := n3_; clear n0_ n1_ n2_ n3_; clear hb hbox hg; have hcz20_0 : w19.cell? ⟨gb261, 0, none⟩ = some (.slice A0_0 l0_0.length c0_0) := (b4 BK261.out 0).trans rfl; have hfz20_0 := b9 BK261.out 0) | ((with_reducible refine gate_callee (f := 49) rfl ?_); refine goesL_ (some 8) rfl rfl Try.func49 (by kernel_rfl) rfl #[.agg #[.slice A0_0 l0_0.length c0_0], .slice A1 l1.length c1] rfl (by (try simp only [List.map_toArray, List.map_cons, List.map_nil]); first | done | rfl | (simp only [List.length_drop, List.length_take]; rfl)) ?_; (with_reducible refine (tensilelaw05_fault.calls k _ _ l0_0 _ _ l1 t262 _ ?side1 ?side2 ?side3 ?side4 A3.out).mono ?_); (case side1 => repeat (first | exact (k16 HR0_0.out HB.out) | (with_reducible refine k13 ?_ _) | (with_reducible refine k14 ?_ _) | (with_reducible refine k15 ?_))); (case side2 => exact HC0_0.out); (case side3 => repeat (first | exact (k16 HR1.out HB.out) | (with_reducible refine k13 ?_ _) | (with_reducible refine k14 ?_ _) | (with_reducible refine k15 ?_))); (case side4 => exact HC1.out); rintro e w21 ⟨rfl, hb⟩; refine ⟨_, rfl, ?_⟩; have n0_ := Aside0.mk (b5 (g := gb261) (o := .cells #[.slice A0_0 l0_0.length c0_0] 24 (0, 0)) (by (with_reducible repeat (first | refine b0 ?_ _ | refine b1 ?_ | refine b2 ?_ _)); exact BK261.out) hb); have n1_ := Aside0.mk (b13 (by repeat (first | (with_reducible first | exact HB.out | apply b8 | apply b6 | apply b7 | refine b3 ?_ GE261.out) | exact HB.out)) hb); clear BK261; clear HB; have BK261 := n0_; have HB := n1_; clear n0_ n1_; (try clear hb); (try clear hb2); (try clear hk); (try clear hi)))
  go_ret
  exact ⟨by first | rfl | (simp [errW_none, errW_some] <;> rfl) | (simp [*, errW_none, errW_some] <;> rfl), by repeat (first | (with_reducible first | exact HB.out | apply b8 | apply b6 | apply b7 | refine b3 ?_ GE261.out) | exact HB.out)⟩
end Go.Proofs.Ytdagijgoegkphaa.P

namespace Go.Proofs.Ytdagijgoegkphaa.Pure
open Go.RowKit Go.Proofs.YtdagijgoegkphaaW.PrintWords Go.Proofs.YtdagijgoegkphaaW.PrintLast Go.Proofs.YtdagijgoegkphaaW.PrintMore Go.Proofs.Ytdagijgoegkphaa.P
open Hand (Rg Sg Rn Nm Rt)
theorem lists_l0 (m : List S54) (hv : Val m) (d band : Nat) (r : Rt) (hb : band + (d + 1) = m.length)
    (ih : ∀ (n : Int), 0 ≤ n → ∀ (k : Nat), need d ≤ k → tensileref05_Lists.f k m ((r.set band n).list (band + 1)) = some ((Hand.lsFrom (m.map cRg) d (band + 1) (r.set band n)).map fun q => q.list m.length)) (a b : Int) (hbb : b ≤ 1000) (ha : 0 ≤ a) :
    ∀ (j : Nat) (n : Int) (acc : List (List Int)) (k : Nat), (b + 1 - n).toNat = j → j ≤ 21 → 0 ≤ n → j + 1 + need d ≤ k → acc.length + j * 21 ^ d ≤ 1000000 →
      tensileref05_Lists.l0 k (r.list band) acc n m a b = some (acc ++ ((Hand.upFrom n j).flatMap fun x => Hand.lsFrom (m.map cRg) d (band + 1) (r.set band x)).map fun q => q.list m.length) := by
  have hv3 := hv.1
  intro j
  induction j with
  | zero =>
    intro n acc k hj _ _ hk _
    obtain ⟨k, rfl⟩ : ∃ q, k = q + 1 := ⟨k - 1, by omega⟩
    rw [tensileref05_Lists.l0, if_neg (by omega)]
    simp [Hand.upFrom]
  | succ j ihj =>
    intro n acc k hj hj21 hn hk hacc
    obtain ⟨k, rfl⟩ : ∃ q, k = q + 1 := ⟨k - 1, by omega⟩
    have hlen := lsFrom_len m hv d (band + 1) (r.set band n) (by omega)
    have htl := take_len r band (by omega)
    have hmul : (j + 1) * 21 ^ d = j * 21 ^ d + 21 ^ d := by rw [Nat.add_mul, Nat.one_mul]
    rw [tensileref05_Lists.l0, if_pos (by omega), Option.bind_some, if_pos (by rw [htl]; simp; omega), Option.bind_some, List.nil_append, Option.bind_some, if_pos (by rw [htl]; simp; omega), take_succ r band n (by omega), ih n hn k (by omega), Option.bind_some, if_pos (by rw [List.length_map]; omega), w_id (by omega) (by omega)]
    rw [ihj (n + 1) _ k (by omega) (by omega) (by omega) (by omega) (by rw [List.length_append, List.length_map]; omega)]
    rw [show Hand.upFrom n (j + 1) = n :: Hand.upFrom (n + 1) j from rfl, flat_cons, List.map_append, List.append_assoc]
theorem lists_from (m : List S54) (hv : Val m) : ∀ (d band : Nat) (r : Rt) (k : Nat), band + d = m.length → need d ≤ k → (∀ j, j < band → 0 ≤ r.get j) →
    tensileref05_Lists.f k m (r.list band) = some ((Hand.lsFrom (m.map cRg) d band r).map fun q => q.list m.length)
  | 0, band, r, k, hb, hk, _ => by
    obtain ⟨k, rfl⟩ : ∃ q, k = q + 1 := ⟨k - 1, by unfold need at hk; omega⟩
    have hv3 := hv.1
    rw [tensileref05_Lists.f, if_pos (by rw [take_len r band (by omega)]; omega)]
    have e : band = m.length := by omega
    rw [e]
    rfl
  | d + 1, band, r, k, hb, hk, hr => by
    have hv3 := hv.1
    have hk' : need d + 25 ≤ k := hk
    obtain ⟨k, rfl⟩ : ∃ q, k = q + 2 := ⟨k - 2, by omega⟩
    have hlt : band < m.length := by omega
    have hs := hv.2 _ (rd_mem m band hlt)
    have htl := take_len r band (by omega)
    have ih : ∀ (n : Int), 0 ≤ n → ∀ (k : Nat), need d ≤ k → tensileref05_Lists.f k m ((r.set band n).list (band + 1)) = some ((Hand.lsFrom (m.map cRg) d (band + 1) (r.set band n)).map fun q => q.list m.length) := fun n hn k h => by
      refine lists_from m hv d (band + 1) (r.set band n) k (by omega) h ?_
      intro j hj
      by_cases e : j = band
      · rw [e, get_set r band (by omega)]; exact hn
      · rw [get_set_lt r n band j (by omega) (by omega)]; exact hr j (by omega)
    have hfin : ∀ low, 0 ≤ low → (rd_T54 m (band : Int)).f0 ≤ low → tensileref05_Lists.j0 (k + 1) (r.list band) [] low m (rd_T54 m (band : Int)).f0 (rd_T54 m (band : Int)).f1 = some (((Hand.upFrom low ((rd_T54 m (band : Int)).f1 + 1 - low).toNat).flatMap fun x => Hand.lsFrom (m.map cRg) d (band + 1) (r.set band x)).map fun q => q.list m.length) := fun low h0 h1 => by
      have hp : 21 ^ d ≤ 21 ^ 2 := Nat.pow_le_pow_right (by omega) (by omega)
      have hj21 : ((rd_T54 m (band : Int)).f1 + 1 - low).toNat ≤ 21 := by omega
      have hmul : ((rd_T54 m (band : Int)).f1 + 1 - low).toNat * 21 ^ d ≤ 21 * 21 ^ 2 := Nat.mul_le_mul hj21 hp
      rw [tensileref05_Lists.j0, lists_l0 m hv d band r hb ih _ _ (by omega) hs.1 _ low [] k rfl hj21 h0 (by omega) (by simp; omega), List.nil_append]
    have hlf : Hand.lsFrom (m.map cRg) (d + 1) band r = (Hand.upFrom (Hand.lowAt (m.map cRg) r band) (Hand.hiAt (m.map cRg) band + 1 - Hand.lowAt (m.map cRg) r band).toNat).flatMap fun n => Hand.lsFrom (m.map cRg) d (band + 1) (r.set band n) := rfl
    rw [hlf, hiAt_eq m band hlt, lowAt_eq m r band hlt]
    rw [tensileref05_Lists.f, htl, if_neg (by omega), if_pos (by omega), if_pos (by omega)]
    by_cases h0 : 0 < band
    · have hrd : rd (r.list band) ((band : Int) - 1) = r.get (band - 1) := by
        rw [show ((band : Int) - 1) = ((band - 1 : Nat) : Int) by omega]
        exact take_rd r band (band - 1) (by omega) (by omega)
      have hmx : (rd_T54 m (band : Int)).f0 ≤ mx (rd_T54 m (band : Int)).f0 (r.get (band - 1)) := by unfold mx; split <;> omega
      rw [if_pos (by omega), w_id (by omega) (by omega), if_pos (by omega), if_pos (by omega), hrd, if_pos h0]
      exact hfin _ (by omega) hmx
    · rw [if_neg (by omega), if_neg h0]
      exact hfin _ (by omega) (Int.le_refl _)
theorem lists_f (m : List S54) (hv : Val m) (k : Nat) (hk : 80 ≤ k) : tensileref05_Lists.f k m [] = some ((Hand.lists (m.map cRg)).map fun q => q.list m.length) := by
  have hv3 := hv.1
  have hn : need m.length ≤ k := by
    have : ∀ d, need d = 25 * d + 1 := fun d => by
      induction d with
      | zero => rfl
      | succ d ih => unfold need; omega
    rw [this]; omega
  have := lists_from m hv m.length 0 ⟨0, 0, 0⟩ k (by omega) hn (fun j h => by omega)
  unfold Hand.lists
  rw [List.length_map]
  exact this
end Go.Proofs.Ytdagijgoegkphaa.Pure

namespace Go.Proofs.Ytdagijgoegkphaa.Pure
open Go.RowKit Go.Proofs.YtdagijgoegkphaaW.PrintWords Go.Proofs.YtdagijgoegkphaaW.PrintLast Go.Proofs.YtdagijgoegkphaaW.PrintMore Go.Proofs.Ytdagijgoegkphaa.P
open Hand (Rg Sg Rn Nm Rt)
theorem allowed_l0 {m : List S54} {r : List S81} (h : Hand.enterErr (m.map cRg) (r.map cRn) = 0) : ∀ (suf pre : List Rt) (acc : List (List Int)) (k : Nat), suf.length + 31 ≤ k → (pre ++ suf).length ≤ 1000000 → acc.length ≤ pre.length → (∀ q ∈ suf, q ∈ Hand.lists (m.map cRg)) →
    tensileref05_Allowed.l0 k r acc ((pre ++ suf).map fun q => q.list m.length) (pre.length : Int) = some (acc ++ (suf.filter (Hand.allowedB (r.map cRn))).map fun q => q.list m.length) := by
  have hv := val_of h
  have hv3 := hv.1
  intro suf
  induction suf with
  | nil =>
    intro pre acc k hk _ _ _
    obtain ⟨k, rfl⟩ : ∃ q, k = q + 1 := ⟨k - 1, by omega⟩
    rw [tensileref05_Allowed.l0, if_neg (by simp)]
    simp
  | cons q suf ih =>
    intro pre acc k hk hl hacc hq
    obtain ⟨k, rfl⟩ : ∃ q, k = q + 1 := ⟨k - 1, by omega⟩
    have hl2 : pre.length + suf.length + 1 ≤ 1000000 := by simpa [Nat.add_assoc] using hl
    have hqm := hq q (by simp)
    have hrt := rt_of_list (m.map cRg) (by rw [List.length_map]; exact hv3) q hqm
    rw [List.length_map] at hrt
    have hlen := take_len q m.length hv3
    have hrd : rd_L8 ((pre ++ q :: suf).map fun q => q.list m.length) (pre.length : Int) = q.list m.length := by
      rw [List.map_append, List.map_cons]
      have := rdL8 (pre.map fun q => q.list m.length) (q.list m.length) (suf.map fun q => q.list m.length)
      rw [List.length_map] at this
      exact this
    have hal := allows_f (l := q.list m.length) h hlen (by rw [hrt]; exact lists_rtok hv q hqm) k (by simp at hk; omega)
    rw [hrt] at hal
    rw [tensileref05_Allowed.l0, if_pos (by simp; omega), if_pos (by omega), hrd, hal, Option.bind_some, w_succ _ (by omega), List.filter_cons]
    have hrec := fun acc' ha => ih (pre ++ [q]) acc' k (by simp at hk; omega) (by simpa using hl) ha (fun x hx => hq x (by simp [hx]))
    simp only [snoc_len, List.append_assoc, List.singleton_append] at hrec
    cases hb : Hand.allowedB (r.map cRn) q with
    | true =>
      rw [if_pos rfl, if_pos (by omega), if_pos rfl, hrec _ (by simp; omega), List.map_cons, List.append_assoc]
      rfl
    | false =>
      rw [if_neg (by decide), if_neg (by decide), hrec _ (by simp; omega)]
theorem allowed_f {m : List S54} {r : List S81} (h : Hand.enterErr (m.map cRg) (r.map cRn) = 0) (k : Nat) (hk : 9300 ≤ k) :
    tensileref05_Allowed.f k m r = some ((Hand.good (m.map cRg) (r.map cRn)).map fun q => q.list m.length) := by
  have hv := val_of h
  have hlen := lists_len hv
  unfold tensileref05_Allowed.f
  rw [lists_f m hv k (by omega), Option.bind_some]
  have := allowed_l0 h (Hand.lists (m.map cRg)) [] [] k (by omega) (by simp; omega) (by simp) (fun q hq => hq)
  rw [List.nil_append, List.nil_append] at this
  exact this
theorem asked_f (m : List S54) (r : List S81) (p : List S56) (hs : Small m r p) (hf : ∀ s ∈ m, Fits54 s) (k : Nat) (hk : 9300 ≤ k) : tensilelaw05_asked.f k m r = some (Hand.possErr (m.map cRg) (r.map cRn)) := by
  unfold tensilelaw05_asked.f Hand.possErr
  rw [fault_f m r p hs hf k (by omega), Option.bind_some]
  by_cases h : Hand.enterErr (m.map cRg) (r.map cRn) = 0
  · rw [if_pos h, if_pos h, allowed_f h k hk, Option.bind_some, List.length_map]
    by_cases h2 : Hand.good (m.map cRg) (r.map cRn) = []
    · rw [if_pos h2, h2]; rfl
    · rw [if_neg h2, if_neg (by simpa using h2)]
  · rw [if_neg h, if_neg h]
end Go.Proofs.Ytdagijgoegkphaa.Pure

namespace Go.Proofs.Ytdagijgoegkphaa.P
open Go.RowKit Go.Proofs.YtdagijgoegkphaaW.PrintWords Go.Proofs.YtdagijgoegkphaaW.PrintLast Go.Proofs.YtdagijgoegkphaaW.PrintMore
open Go.Proofs.YtdagijgoegkphaaW.PrintWords renaming blk_drewN → b0, blk_drew → b1, blk_alloc → b2, below_set → b3, blk_cell → b4, blk_below → b5, pw_below_drewN → b6, below_drew1 → b7, below_alloc → b8, blk_frozen → b9, below_size → b12, below_step → b13
open Go.Proofs.YtdagijgoegkphaaW.PrintWords.Kd renaming C_alloc → k13, C_drewN → k14, C_drew → k15, C_below → k16
attribute [local go_sem] max2_int min2_int max_two min_two max_three min_three max_four min_four   -- for this text's walks alone
def tensilelaw05_ready.f (k : Nat) (l0_0 : List (S54)) (l1 : List (S81)) (l2 : List (S56)) : Option (Bool) := (tensilelaw05_Thin.f k l0_0 l1 l2).bind fun t300 => (if t300 = true then ((tensilelaw05_fault.f k l0_0 l1).bind fun t301 => (if t301 = 0 then ((tensileref05_IsPlan.f k l0_0 l2).bind fun t302 => (some t302)) else (some false))) else (some false))
set_option maxHeartbeats 8000000 in
set_option maxRecDepth 100000 in
theorem tensilelaw05_ready.calls (k : Nat) (A0_0 : Option Addr) (c0_0 : Nat) (l0_0 : List (S54)) (A1 : Option Addr) (c1 : Nat) (l1 : List (S81)) (A2 : Option Addr) (c2 : Nat) (l2 : List (S56)) (r : Bool) (w : World) (hr0_0 : Kd.C k54 w A0_0 l0_0.length l0_0) (hc0_0 : l0_0.length ≤ c0_0) (hr1 : Kd.C k81 w A1 l1.length l1) (hc1 : l1.length ≤ c1) (hr2 : Kd.C k56 w A2 l2.length l2) (hc2 : l2.length ≤ c2) (h : tensilelaw05_ready.f k l0_0 l1 l2 = some r) :
  Calls Try.prog 16 #[.agg #[.slice A0_0 l0_0.length c0_0], .slice A1 l1.length c1, .slice A2 l2.length c2] w fun e w' => e = .returned (.bool r) ∧ Below w.heap.size w w' := by
 have hu24 := Try.underlying24
 have HR0_0 := Aside0.mk hr0_0
 have HC0_0 := Aside0.mk hc0_0
 clear hr0_0 hc0_0
 have HR1 := Aside0.mk hr1
 have HC1 := Aside0.mk hc1
 clear hr1 hc1
 have HR2 := Aside0.mk hr2
 have HC2 := Aside0.mk hc2
 clear hr2 hc2
 have HB := Aside0.mk (Below.refl w.heap.size w)
 have H : ((tensilelaw05_Thin.f k l0_0 l1 l2).bind fun t300 => (if t300 = true then ((tensilelaw05_fault.f k l0_0 l1).bind fun t301 => (if t301 = 0 then ((tensileref05_IsPlan.f k l0_0 l2).bind fun t302 => (some t302)) else (some false))) else (some false))) = some r := h
 clear h
 replace H := Option.bind_eq_some_iff.mp H
 obtain ⟨t300, A40, H⟩ := H
 replace H : (if t300 = true then ((tensilelaw05_fault.f k l0_0 l1).bind fun t301 => (if t301 = 0 then ((tensileref05_IsPlan.f k l0_0 l2).bind fun t302 => (some t302)) else (some false))) else (some false)) = some r := H
 have A4 := Aside0.mk A40
 clear A40
 by_cases c5 : t300 = true
 ·
  subst c5
  have H1 : ((tensilelaw05_fault.f k l0_0 l1).bind fun t301 => (if t301 = 0 then ((tensileref05_IsPlan.f k l0_0 l2).bind fun t302 => (some t302)) else (some false))) = some r := by rw [if_pos rfl] at H; exact H
  clear H
  have H := H1
  clear H1
  replace H := Option.bind_eq_some_iff.mp H
  obtain ⟨t301, A60, H⟩ := H
  replace H : (if t301 = 0 then ((tensileref05_IsPlan.f k l0_0 l2).bind fun t302 => (some t302)) else (some false)) = some r := H
  have A6 := Aside0.mk A60
  clear A60
  by_cases c7 : t301 = 0
  ·
   rw [if_pos c7] at H
   have c7b0 : (t301 == 0) = true := beq_iff_eq.mpr c7
   have c7b1 : (t301 != 0) = false := bne_eq_false_iff_eq.mpr c7
   clear c7
   replace H := Option.bind_eq_some_iff.mp H
   obtain ⟨t302, A80, H⟩ := H
   replace H : (some t302) = some r := H
   have A8 := Aside0.mk A80
   clear A80
   obtain rfl := Option.some.inj H
   go_enter Try.func16, Try.ntmps16
   go_wp2_with (first | ((with_reducible refine gate_dst (N := 3) rfl ?_); refine box_event ?hg (N := 3) ?hd (cs := #[.slice A0_0 l0_0.length c0_0]) (t := 24) ?hr ?_; (case hd => rfl); (case hg => rfl); (case hr => first | (go_simp; done) | (go_simp; rfl)); intro gb299 hg w9 hbox hb; have n0_ := Aside0.mk (b13 (by repeat (first | (with_reducible first | exact HB.out | apply b8 | apply b6 | apply b7) | exact HB.out)) hb); have n1_ := Aside0.mk (hbox); have n2_ := Aside0.mk ((by rw [hg]; exact (b12 (by repeat (first | (with_reducible first | exact HB.out | apply b8 | apply b6 | apply b7) | exact HB.out))) : w.heap.size ≤ gb299)); have n3_ := Aside0.mk ((by rw [hg]; exact (b12 (by repeat (first | (with_reducible first | exact HB.out | apply b8 | apply b6 | apply b7) | exact HB.out))) : w.heap.size ≤ gb299)); clear HB; have HB := n0_; have BK299 := n1_; have GW299 := n2_; have GE299 := n3_; clear n0_ n1_ n2_ n3_; clear hb hbox hg; have hcz10_0 : w9.cell? ⟨gb299, 0, none⟩ = some (.slice A0_0 l0_0.length c0_0) := (b4 BK299.out 0).trans rfl; have hfz10_0 := b9 BK299.out 0) | ((with_reducible refine gate_callee (f := 37) rfl ?_); refine goesL_ (some 10) rfl rfl Try.func37 (by kernel_rfl) rfl #[.agg #[.slice A0_0 l0_0.length c0_0], .slice A1 l1.length c1, .slice A2 l2.length c2] rfl (by (try simp only [List.map_toArray, List.map_cons, List.map_nil]); first | done | rfl | (simp only [List.length_drop, List.length_take]; rfl)) ?_; (with_reducible refine (tensilelaw05_Thin.calls k _ _ l0_0 _ _ l1 _ _ l2 true _ ?side1 ?side2 ?side3 ?side4 ?side5 ?side6 A4.out).mono ?_); (case side1 => repeat (first | exact (k16 HR0_0.out HB.out) | (with_reducible refine k13 ?_ _) | (with_reducible refine k14 ?_ _) | (with_reducible refine k15 ?_))); (case side2 => exact HC0_0.out); (case side3 => repeat (first | exact (k16 HR1.out HB.out) | (with_reducible refine k13 ?_ _) | (with_reducible refine k14 ?_ _) | (with_reducible refine k15 ?_))); (case side4 => exact HC1.out); (case side5 => repeat (first | exact (k16 HR2.out HB.out) | (with_reducible refine k13 ?_ _) | (with_reducible refine k14 ?_ _) | (with_reducible refine k15 ?_))); (case side6 => exact HC2.out); rintro e w11 ⟨rfl, hb⟩; refine ⟨_, rfl, ?_⟩; have n0_ := Aside0.mk (b5 (g := gb299) (o := .cells #[.slice A0_0 l0_0.length c0_0] 24 (0, 0)) (by (with_reducible repeat (first | refine b0 ?_ _ | refine b1 ?_ | refine b2 ?_ _)); exact BK299.out) hb); have n1_ := Aside0.mk (b13 (by repeat (first | (with_reducible first | exact HB.out | apply b8 | apply b6 | apply b7 | refine b3 ?_ GE299.out) | exact HB.out)) hb); clear BK299; clear HB; have BK299 := n0_; have HB := n1_; clear n0_ n1_; (try clear hb); (try clear hb2); (try clear hk); (try clear hi); have hcz12_0 : w11.cell? ⟨gb299, 0, none⟩ = some (.slice A0_0 l0_0.length c0_0) := (b4 BK299.out 0).trans rfl; have hfz12_0 := b9 BK299.out 0) | (go_at_call 49; (with_reducible refine (tensilelaw05_fault.calls k _ _ l0_0 _ _ l1 t301 _ ?side1 ?side2 ?side3 ?side4 A6.out).mono ?_); (case side1 => repeat (first | exact (k16 HR0_0.out HB.out) | (with_reducible refine k13 ?_ _) | (with_reducible refine k14 ?_ _) | (with_reducible refine k15 ?_))); (case side2 => exact HC0_0.out); (case side3 => repeat (first | exact (k16 HR1.out HB.out) | (with_reducible refine k13 ?_ _) | (with_reducible refine k14 ?_ _) | (with_reducible refine k15 ?_))); (case side4 => exact HC1.out); rintro e w13 ⟨rfl, hb⟩; have n0_ := Aside0.mk (b5 (g := gb299) (o := .cells #[.slice A0_0 l0_0.length c0_0] 24 (0, 0)) (by (with_reducible repeat (first | refine b0 ?_ _ | refine b1 ?_ | refine b2 ?_ _)); exact BK299.out) hb); have n1_ := Aside0.mk (b13 (by repeat (first | (with_reducible first | exact HB.out | apply b8 | apply b6 | apply b7 | refine b3 ?_ GE299.out) | exact HB.out)) hb); clear BK299; clear HB; have BK299 := n0_; have HB := n1_; clear n0_ n1_; (try clear hb); (try clear hb2); (try clear hk); (try clear hi); have hcz14_0 : w13.cell? ⟨gb299, 0, none⟩ = some (.slice A0_0 l0_0.length c0_0) := (b4 BK299.out 0).trans rfl; have hfz14_0 := b9 BK299.out 0) | (go_at_call 44; (with_reducible refine (tensileref05_IsPlan.calls k _ _ l0_0 _ _ l2 t302 _ ?side1 ?side2 ?side3 ?side4 A8.out).mono ?_); (case side1 => repeat (first | exact (k16 HR0_0.out HB.out) | (with_reducible refine k13 ?_ _) | (with_reducible refine k14 ?_ _) | (with_reducible refine k15 ?_))); (case side2 => exact HC0_0.out); (case side3 => repeat (first | exact (k16 HR2.out HB.out) | (with_reducible refine k13 ?_ _) | (with_reducible refine k14 ?_ _) | (with_reducible refine k15 ?_))); (case side4 => exact HC2.out); rintro e w15 ⟨rfl, hb⟩; have n0_ := Aside0.mk (b5 (g := gb299) (o := .cells #[.slice A0_0 l0_0.length c0_0] 24 (0, 0)) (by (with_reducible repeat (first | refine b0 ?_ _ | refine b1 ?_ | refine b2 ?_ _)); exact BK299.out) hb); have n1_ := Aside0.mk (b13 (by repeat (first | (with_reducible first | exact HB.out | apply b8 | apply b6 | apply b7 | refine b3 ?_ GE299.out) | exact HB.out)) hb); clear BK299; clear HB; have BK299 := n0_; have HB := n1_; clear n0_ n1_; (try clear hb); (try clear hb2); (try clear hk); (try clear hi)))
   go_ret
   exact ⟨by first | rfl | (simp [errW_none, errW_some] <;> rfl) | (simp [*, errW_none, errW_some] <;> rfl), by repeat (first | (with_reducible first | exact HB.out | apply b8 | apply b6 | apply b7 | refine b3 ?_ GE299.out) | exact HB.out)⟩
  ·
   rw [if_neg c7] at H
   have c7b0 : (t301 == 0) = false := beq_eq_false_iff_ne.mpr c7
   have c7b1 : (t301 != 0) = true := bne_iff_ne.mpr c7
   obtain rfl := Option.some.inj H
   go_enter Try.func16, Try.ntmps16
   go_wp2_with (first | ((with_reducible refine gate_dst (N := 3) rfl ?_); refine box_event ?hg (N := 3) ?hd (cs := #[.slice A0_0 l0_0.length c0_0]) (t := 24) ?hr ?_; (case hd => rfl); (case hg => rfl); (case hr => first | (go_simp; done) | (go_simp; rfl)); intro gb299 hg w16 hbox hb; have n0_ := Aside0.mk (b13 (by repeat (first | (with_reducible first | exact HB.out | apply b8 | apply b6 | apply b7) | exact HB.out)) hb); have n1_ := Aside0.mk (hbox); have n2_ := Aside0.mk ((by rw [hg]; exact (b12 (by repeat (first | (with_reducible first | exact HB.out | apply b8 | apply b6 | apply b7) | exact HB.out))) : w.heap.size ≤ gb299)); have n3_ := Aside0.mk ((by rw [hg]; exact (b12 (by repeat (first | (with_reducible first | exact HB.out | apply b8 | apply b6 | apply b7) | exact HB.out))) : w.heap.size ≤ gb299)); clear HB; have HB := n0_; have BK299 := n1_; have GW299 := n2_; have GE299 := n3_; clear n0_ n1_ n2_ n3_; clear hb hbox hg; have hcz17_0 : w16.cell? ⟨gb299, 0, none⟩ = some (.slice A0_0 l0_0.length c0_0) := (b4 BK299.out 0).trans rfl; have hfz17_0 := b9 BK299.out 0) | ((with_reducible refine gate_callee (f := 37) rfl ?_); refine goesL_ (some 10) rfl rfl Try.func37 (by kernel_rfl) rfl #[.agg #[.slice A0_0 l0_0.length c0_0], .slice A1 l1.length c1, .slice A2 l2.length c2] rfl (by (try simp only [List.map_toArray, List.map_cons, List.map_nil]); first | done | rfl | (simp only [List.length_drop, List.length_take]; rfl)) ?_; (with_reducible refine (tensilelaw05_Thin.calls k _ _ l0_0 _ _ l1 _ _ l2 true _ ?side1 ?side2 ?side3 ?side4 ?side5 ?side6 A4.out).mono ?_); (case side1 => repeat (first | exact (k16 HR0_0.out HB.out) | (with_reducible refine k13 ?_ _) | (with_reducible refine k14 ?_ _) | (with_reducible refine k15 ?_))); (case side2 => exact HC0_0.out); (case side3 => repeat (first | exact (k16 HR1.out HB.out) | (with_reducible refine k13 ?_ _) | (with_reducible refine k14 ?_ _) | (with_reducible refine k15 ?_))); (case side4 => exact HC1.out); (case side5 => repeat (first | exact (k16 HR2.out HB.out) | (with_reducible refine k13 ?_ _) | (with_reducible refine k14 ?_ _) | (with_reducible refine k15 ?_))); (case side6 => exact HC2.out); rintro e w18 ⟨rfl, hb⟩; refine ⟨_, rfl, ?_⟩; have n0_ := Aside0.mk (b5 (g := gb299) (o := .cells #[.slice A0_0 l0_0.length c0_0] 24 (0, 0)) (by (with_reducible repeat (first | refine b0 ?_ _ | refine b1 ?_ | refine b2 ?_ _)); exact BK299.out) hb); have n1_ := Aside0.mk (b13 (by repeat (first | (with_reducible first | exact HB.out | apply b8 | apply b6 | apply b7 | refine b3 ?_ GE299.out) | exact HB.out)) hb); clear BK299; clear HB; have BK299 := n0_; have HB := n1_; clear n0_ n1_; (try clear hb); (try clear hb2); (try clear hk); (try clear hi); have hcz19_0 : w18.cell? ⟨gb299, 0, none⟩ = some (.slice A0_0 l0_0.length c0_0) := (b4 BK299.out 0).trans rfl; have hfz19_0 := b9 BK299.out 0) | (go_at_call 49; (with_reducible refine (tensilelaw05_fault.calls k _ _ l0_0 _ _ l1 t301 _ ?side1 ?side2 ?side3 ?side4 A6.out).mono ?_); (case side1 => repeat (first | exact (k16 HR0_0.out HB.out) | (with_reducible refine k13 ?_ _) | (with_reducible refine k14 ?_ _) | (with_reducible refine k15 ?_))); (case side2 => exact HC0_0.out); (case side3 => repeat (first | exact (k16 HR1.out HB.out) | (with_reducible refine k13 ?_ _) | (with_reducible refine k14 ?_ _) | (with_reducible refine k15 ?_))); (case side4 => exact HC1.out); rintro e w20 ⟨rfl, hb⟩; have n0_ := Aside0.mk (b5 (g := gb299) (o := .cells #[.slice A0_0 l0_0.length c0_0] 24 (0, 0)) (by (with_reducible repeat (first | refine b0 ?_ _ | refine b1 ?_ | refine b2 ?_ _)); exact BK299.out) hb); have n1_ := Aside0.mk (b13 (by repeat (first | (with_reducible first | exact HB.out | apply b8 | apply b6 | apply b7 | refine b3 ?_ GE299.out) | exact HB.out)) hb); clear BK299; clear HB; have BK299 := n0_; have HB := n1_; clear n0_ n1_; (try clear hb); (try clear hb2); (try clear hk); (try clear hi)))
   go_ret
   exact ⟨by first | rfl | (simp [errW_none, errW_some] <;> rfl) | (simp [*, errW_none, errW_some] <;> rfl), by repeat (first | (with_reducible first | exact HB.out | apply b8 | apply b6 | apply b7 | refine b3 ?_ GE299.out) | exact HB.out)⟩
 ·
  replace c5 := Bool.eq_false_iff.mpr c5
  subst c5
  have H1 : (some false) = some r := by rw [if_neg (show ¬ (false = true) by decide)] at H; exact H
  clear H
  have H := H1
  clear H1
  obtain rfl := Option.some.inj H
  go_enter Try.func16, Try.ntmps16
  go_wp2_with (first | ((with_reducible refine gate_dst (N := 3) rfl ?_); refine box_event ?hg (N := 3) ?hd (cs := #[.slice A0_0 l0_0.length c0_0]) (t := 24) ?hr ?_; (case hd => rfl); (case hg => rfl); (case hr => first | (go_simp; done) | (go_simp; rfl)); intro gb299 hg w21 hbox hb; have n0_ := Aside0.mk (b13 (by repeat (first | (with_reducible first | exact HB.out | apply b8 | apply b6 | apply b7) | exact HB.out)) hb); have n1_ := Aside0.mk (hbox); have n2_ := Aside0.mk ((by rw [hg]; exact (b12 (by repeat (first | (with_reducible first | exact HB.out | apply b8 | apply b6 | apply b7) | exact HB.out))) : w.heap.size ≤ gb299)); have n3_ := Aside0.mk ((by rw [hg]; exact (b12 (by repeat (first | (with_reducible first | exact HB.out | apply b8 | apply b6 | apply b7) | exact HB.out))) : w.heap.size ≤ gb299)); clear HB; have HB := n0_; have BK299 := n1_; have GW299 := n2_; have GE299 := n3_; clear n0_ n1_ n2_ n3_; clear hb hbox hg; have hcz22_0 : w21.cell? ⟨gb299, 0, none⟩ = some (.slice A0_0 l0_0.length c0_0) := (b4 BK299.out 0).trans rfl; have hfz22_0 := b9 BK299.out 0) | ((with_reducible refine gate_callee (f := 37) rfl ?_); refine goesL_ (some 10) rfl rfl Try.func37 (by kernel_rfl) rfl #[.agg #[.slice A0_0 l0_0.length c0_0], .slice A1 l1.length c1, .slice A2 l2.length c2] rfl (by (try simp only [List.map_toArray, List.map_cons, List.map_nil]); first | done | rfl | (simp only [List.length_drop, List.length_take]; rfl)) ?_; (with_reducible refine (tensilelaw05_Thin.calls k _ _ l0_0 _ _ l1 _ _ l2 false _ ?side1 ?side2 ?side3 ?side4 ?side5 ?side6 A4.out).mono ?_); (case side1 => repeat (first | exact (k16 HR0_0.out HB.out) | (with_reducible refine k13 ?_ _) | (with_reducible refine k14 ?_ _) | (with_reducible refine k15 ?_))); (case side2 => exact HC0_0.out); (case side3 => repeat (first | exact (k16 HR1.out HB.out) | (with_reducible refine k13 ?_ _) | (with_reducible refine k14 ?_ _) | (with_reducible refine k15 ?_))); (case side4 => exact HC1.out); (case side5 => repeat (first | exact (k16 HR2.out HB.out) | (with_reducible refine k13 ?_ _) | (with_reducible refine k14 ?_ _) | (with_reducible refine k15 ?_))); (case side6 => exact HC2.out); rintro e w23 ⟨rfl, hb⟩; refine ⟨_, rfl, ?_⟩; have n0_ := Aside0.mk (b5 (g := gb299) (o := .cells #[.slice A0_0 l0_0.length c0_0] 24 (0, 0)) (by (with_reducible repeat (first | refine b0 ?_ _ | refine b1 ?_ | refine b2 ?_ _)); exact BK299.out) hb); have n1_ := Aside0.mk (b13 (by repeat (first | (with_reducible first | exact HB.out | apply b8 | apply b6 | apply b7 | refine b3 ?_ GE299.out) | exact HB.out)) hb); clear BK299; clear HB; have BK299 := n0_; have HB := n1_; clear n0_ n1_; (try clear hb); (try clear hb2); (try clear hk); (try clear hi)))
  go_ret
  exact ⟨by first | rfl | (simp [errW_none, errW_some] <;> rfl) | (simp [*, errW_none, errW_some] <;> rfl), by repeat (first | (with_reducible first | exact HB.out | apply b8 | apply b6 | apply b7 | refine b3 ?_ GE299.out) | exact HB.out)⟩
end Go.Proofs.Ytdagijgoegkphaa.P

namespace Go.Proofs.Ytdagijgoegkphaa.Pure
open Go.RowKit Go.Proofs.YtdagijgoegkphaaW.PrintWords Go.Proofs.YtdagijgoegkphaaW.PrintLast Go.Proofs.YtdagijgoegkphaaW.PrintMore Go.Proofs.Ytdagijgoegkphaa.P
open Hand (Rg Sg Rn Nm Rt)
theorem ready_f (m : List S54) (r : List S81) (p : List S56) (hf : ∀ s ∈ m, Fits54 s) (k : Nat) (hk : 200 ≤ k) :
    ∃ b, tensilelaw05_ready.f k m r p = some b ∧ (b = true → Small m r p ∧ Hand.enterErr (m.map cRg) (r.map cRn) = 0 ∧ (p.map cSg).all (Hand.segB m.length) = true ∧ p.length ≤ 8) := by
  unfold tensilelaw05_ready.f
  obtain ⟨b, hb, hb2⟩ := thin_f m r p k (by omega)
  rw [hb, Option.bind_some]
  cases b with
  | false => rw [if_neg (by decide)]; exact ⟨false, rfl, fun h => by cases h⟩
  | true =>
    have hs := hb2 rfl
    rw [if_pos rfl, fault_f m r p hs hf k (by omega), Option.bind_some]
    by_cases he : Hand.enterErr (m.map cRg) (r.map cRn) = 0
    case neg => rw [if_neg he]; exact ⟨false, rfl, fun h => by cases h⟩
    have hp := hs.2.2.1
    rw [if_pos he, isPlan_f m hs.1 p (by omega) k (by omega), Option.bind_some]
    refine ⟨_, rfl, fun h => ?_⟩
    simp only [Bool.and_eq_true, decide_eq_true_eq] at h
    exact ⟨hs, he, h.1, h.2⟩
theorem lsFrom_keep (ms : List Rg) : ∀ (d band : Nat) (r q : Rt), band + d ≤ 3 → q ∈ Hand.lsFrom ms d band r → ∀ j, j < band → q.get j = r.get j
  | 0, _, r, q, _, h, j, _ => by rw [List.mem_singleton.1 h]
  | d + 1, band, r, q, hb, h, j, hj => by
    obtain ⟨n, _, hq⟩ := List.mem_flatMap.1 h
    rw [lsFrom_keep ms d (band + 1) (r.set band n) q (by omega) hq j (by omega), get_set_lt r n band j (by omega) (by omega)]
theorem lsFrom_in (ms : List Rg) : ∀ (d band : Nat) (r q : Rt), band + d ≤ 3 → band + d = ms.length → q ∈ Hand.lsFrom ms d band r → ∀ b, band ≤ b → b < ms.length →
    (ms.getD b ⟨0, 0⟩).lo ≤ q.get b ∧ q.get b ≤ (ms.getD b ⟨0, 0⟩).hi ∧ (0 < b → q.get (b - 1) ≤ q.get b)
  | 0, band, r, q, _, hl, h, b, h1, h2 => by omega
  | d + 1, band, r, q, h3, hl, h, b, h1, h2 => by
    obtain ⟨n, hn, hq⟩ := List.mem_flatMap.1 h
    by_cases e : b = band
    · have hqb : q.get b = n := by rw [lsFrom_keep ms d (band + 1) (r.set band n) q (by omega) hq b (by omega), e, get_set r band (by omega)]
      have hn2 := Hand.mem_upFrom _ _ _ hn
      have hg : ms.getD b ⟨0, 0⟩ = ms[b] := by rw [List.getD_eq_getElem?_getD, List.getElem?_eq_getElem h2]; rfl
      have hlow : (ms[b]).lo ≤ Hand.lowAt ms r band ∧ (0 < band → r.get (band - 1) ≤ Hand.lowAt ms r band) := by
        unfold Hand.lowAt
        rw [← e, List.getElem?_eq_getElem h2]
        dsimp only
        by_cases h0 : 0 < b
        · rw [if_pos h0, hmx]; exact ⟨by unfold mx; split <;> omega, fun _ => by unfold mx; split <;> omega⟩
        · rw [if_neg h0]; exact ⟨Int.le_refl _, fun h => absurd h h0⟩
      have hhi : Hand.hiAt ms band = (ms[b]).hi := by
        unfold Hand.hiAt
        rw [← e, List.getElem?_eq_getElem h2]
      rw [hg, hqb]
      refine ⟨by omega, by omega, fun h0 => ?_⟩
      rw [lsFrom_keep ms d (band + 1) (r.set band n) q (by omega) hq (b - 1) (by omega), get_set_lt r n band (b - 1) (by omega) (by omega), e]
      have := hlow.2 (by omega)
      omega
    · exact lsFrom_in ms d (band + 1) (r.set band n) q (by omega) (by omega) hq b (by omega) h2
theorem lists_in (ms : List Rg) (h3 : ms.length ≤ 3) (q : Rt) (h : q ∈ Hand.lists ms) (b : Nat) (hb : b < ms.length) :
    (ms.getD b ⟨0, 0⟩).lo ≤ q.get b ∧ q.get b ≤ (ms.getD b ⟨0, 0⟩).hi ∧ (0 < b → q.get (b - 1) ≤ q.get b) :=
  lsFrom_in ms ms.length 0 ⟨0, 0, 0⟩ q (by omega) (by omega) h b (Nat.zero_le _) hb
theorem lists_own (ms : List Rg) (h3 : ms.length ≤ 3) (q : Rt) (h : q ∈ Hand.lists ms) : Hand.ownB ms (toNm (q.list ms.length)) = true := by
  unfold Hand.ownB
  rw [toNm_length, take_len q _ h3, decide_eq_true rfl, Bool.true_and, List.all_eq_true]
  intro b hb
  have hb := List.mem_range.1 hb
  obtain ⟨h1, h2, h4⟩ := lists_in ms h3 q h b hb
  have e1 : ((toNm (q.list ms.length)).getD b ⟨0⟩).n = q.get b := by rw [nm_at, ← rd_nat, take_rd q _ b hb h3]
  unfold Hand.okAt
  rw [e1]
  have e2 : 0 < b → ((toNm (q.list ms.length)).getD (b - 1) ⟨0⟩).n = q.get (b - 1) := fun h0 => by rw [nm_at, ← rd_nat, take_rd q _ (b - 1) (by omega) h3]
  rw [decide_eq_true ⟨h1, h2⟩, Bool.true_and]
  by_cases h0 : 0 < b
  · rw [e2 h0, decide_eq_true h0, decide_eq_false (by have := h4 h0; omega)]; rfl
  · rw [decide_eq_false h0]; rfl
theorem ends_fold (ps : List Sg) : ∀ (l : List Rt) (a b : Rt), ((l.foldl (Hand.endStep ps) (a, b, false)).1 = a ∨ (l.foldl (Hand.endStep ps) (a, b, false)).1 ∈ l) ∧ ((l.foldl (Hand.endStep ps) (a, b, false)).2.1 = b ∨ (l.foldl (Hand.endStep ps) (a, b, false)).2.1 ∈ l) ∧
    (Hand.stLo (l.foldl (Hand.endStep ps) (a, b, false)).1 ps ≤ Hand.stLo a ps ∧ ∀ q ∈ l, Hand.stLo (l.foldl (Hand.endStep ps) (a, b, false)).1 ps ≤ Hand.stLo q ps) ∧
    (Hand.stHi b ps ≤ Hand.stHi (l.foldl (Hand.endStep ps) (a, b, false)).2.1 ps ∧ ∀ q ∈ l, Hand.stHi q ps ≤ Hand.stHi (l.foldl (Hand.endStep ps) (a, b, false)).2.1 ps)
  | [], a, b => ⟨.inl rfl, .inl rfl, ⟨Int.le_refl _, fun _ h => by cases h⟩, ⟨Int.le_refl _, fun _ h => by cases h⟩⟩
  | x :: l, a, b => by
    rw [List.foldl_cons]
    obtain ⟨a', ha'⟩ : ∃ a', a' = if Hand.stLo x ps < Hand.stLo a ps then x else a := ⟨_, rfl⟩
    obtain ⟨b', hb'⟩ : ∃ b', b' = if Hand.stHi b ps < Hand.stHi x ps then x else b := ⟨_, rfl⟩
    have he : Hand.endStep ps (a, b, false) x = (a', b', false) := by
      unfold Hand.endStep
      rw [ha', hb']
      simp
    rw [he]
    obtain ⟨h1, h2, ⟨h3, h4⟩, h5, h6⟩ := ends_fold ps l a' b'
    have ca : (a' = a ∨ a' = x) ∧ Hand.stLo a' ps ≤ Hand.stLo a ps ∧ Hand.stLo a' ps ≤ Hand.stLo x ps := by
      rw [ha']; split
      · exact ⟨.inr rfl, by omega, Int.le_refl _⟩
      · exact ⟨.inl rfl, Int.le_refl _, by omega⟩
    have cb : (b' = b ∨ b' = x) ∧ Hand.stHi b ps ≤ Hand.stHi b' ps ∧ Hand.stHi x ps ≤ Hand.stHi b' ps := by
      rw [hb']; split
      · exact ⟨.inr rfl, by omega, Int.le_refl _⟩
      · exact ⟨.inl rfl, Int.le_refl _, by omega⟩
    refine ⟨?_, ?_, ⟨by omega, fun q hq => ?_⟩, by omega, fun q hq => ?_⟩
    · rcases h1 with h | h
      · rw [h]; rcases ca.1 with e | e
        · exact .inl e
        · rw [e]; exact .inr (by simp)
      · exact .inr (by simp [h])
    · rcases h2 with h | h
      · rw [h]; rcases cb.1 with e | e
        · exact .inl e
        · rw [e]; exact .inr (by simp)
      · exact .inr (by simp [h])
    · rcases List.mem_cons.1 hq with rfl | hq
      · omega
      · exact h4 q hq
    · rcases List.mem_cons.1 hq with rfl | hq
      · omega
      · exact h6 q hq
theorem ends_spec (ps : List Sg) (l : List Rt) (hl : l ≠ []) : (Hand.endsA ps l).1 ∈ l ∧ (Hand.endsA ps l).2.1 ∈ l ∧ (∀ q ∈ l, Hand.stLo (Hand.endsA ps l).1 ps ≤ Hand.stLo q ps) ∧ ∀ q ∈ l, Hand.stHi q ps ≤ Hand.stHi (Hand.endsA ps l).2.1 ps := by
  cases l with
  | nil => exact absurd rfl hl
  | cons x l =>
    have he : Hand.endsA ps (x :: l) = l.foldl (Hand.endStep ps) (x, x, false) := by
      unfold Hand.endsA
      rw [List.foldl_cons]
      rfl
    rw [he]
    obtain ⟨h1, h2, ⟨h3, h4⟩, h5, h6⟩ := ends_fold ps l x x
    refine ⟨?_, ?_, fun q hq => ?_, fun q hq => ?_⟩
    · rcases h1 with h | h
      · rw [h]; simp
      · simp [h]
    · rcases h2 with h | h
      · rw [h]; simp
      · simp [h]
    · rcases List.mem_cons.1 hq with rfl | hq
      · exact h3
      · exact h4 q hq
    · rcases List.mem_cons.1 hq with rfl | hq
      · exact h5
      · exact h6 q hq
theorem plan_none {m : List S54} {r : List S81} {p : List S56} (hp : Hand.possErr (m.map cRg) (r.map cRn) = 0) (hs : (p.map cSg).all (Hand.segB m.length) = true) (h8 : p.length ≤ 8) : Hand.planErr (m.map cRg) (r.map cRn) (p.map cSg) = 0 := by
  unfold Hand.planErr
  rw [if_pos hp, List.length_map, List.length_map, if_pos ⟨h8, hs⟩]
theorem plan_some {ms : List Rg} {rs : List Rn} {ps : List Sg} (hp : Hand.possErr ms rs ≠ 0) : Hand.planErr ms rs ps = Hand.possErr ms rs := by
  unfold Hand.planErr
  rw [if_neg hp]
theorem poss_cases {ms : List Rg} {rs : List Rn} (he : Hand.enterErr ms rs = 0) : (Hand.possErr ms rs = 0 ∧ Hand.good ms rs ≠ []) ∨ (Hand.possErr ms rs = 9 ∧ Hand.good ms rs = []) := by
  unfold Hand.possErr
  rw [if_pos he]
  by_cases h : Hand.good ms rs = []
  · exact .inr ⟨by rw [if_pos h], h⟩
  · exact .inl ⟨by rw [if_neg h], h⟩
theorem good_allowed {m : List S54} {r : List S81} (he : Hand.enterErr (m.map cRg) (r.map cRn) = 0) {q : Rt} (hq : q ∈ Hand.good (m.map cRg) (r.map cRn)) : Hand.allowsV (m.map cRg) (r.map cRn) (toNm (q.list m.length)) = (true, 0) := by
  have hm := List.mem_filter.1 hq
  have h3 := (val_of he).1
  have h3' : (m.map cRg).length ≤ 3 := by rw [List.length_map]; exact h3
  have h1 := lists_own (m.map cRg) h3' q hm.1
  have h2 := rt_of_list (m.map cRg) h3' q hm.1
  rw [List.length_map] at h1 h2
  unfold Hand.allowsV
  rw [if_pos he, if_pos h1, h2, hm.2]
theorem good_stretch {m : List S54} {r : List S81} (he : Hand.enterErr (m.map cRg) (r.map cRn) = 0) {q : Rt} (hq : q ∈ Hand.good (m.map cRg) (r.map cRn)) (p : List S56) (hs : (p.map cSg).all (Hand.segB m.length) = true) (hp : p.length ≤ 12) (k : Nat) (hk : p.length + 1 ≤ k) :
    tensileref05_Stretch.f k p (q.list m.length) = some (Hand.stLo q (p.map cSg), Hand.stHi q (p.map cSg)) := by
  have hm := List.mem_filter.1 hq
  have h3 := (val_of he).1
  have h3' : (m.map cRg).length ≤ 3 := by rw [List.length_map]; exact h3
  have h2 := rt_of_list (m.map cRg) h3' q hm.1
  rw [List.length_map] at h2
  have hl := take_len q m.length h3
  have := stretch_f (q.list m.length) (by rw [hl]; exact h3) (by rw [h2]; exact lists_rtok (val_of he) q hm.1) p hp (fun s h => by rw [hl]; exact List.all_eq_true.1 hs (cSg s) (List.mem_map.2 ⟨s, h, rfl⟩)) k hk
  rw [h2] at this
  exact this
end Go.Proofs.Ytdagijgoegkphaa.Pure

namespace Go.Proofs.Ytdagijgoegkphaa.P
open Go.RowKit Go.Proofs.YtdagijgoegkphaaW.PrintWords Go.Proofs.YtdagijgoegkphaaW.PrintLast Go.Proofs.YtdagijgoegkphaaW.PrintMore
open Bool renaming true → tt, false → ff
open List renaming setIfInBounds_toArray → l1, set_cons_zero → l2, set_cons_succ → l3
open Go.Proofs.YtdagijgoegkphaaW.PrintWords renaming blk_drewN → b0, blk_drew → b1, blk_alloc → b2, below_set → b3, blk_cell → b4, pw_below_drewN → b6, below_drew1 → b7, below_alloc → b8, blk_frozen → b9, below_size → b12, below_step → b13
attribute [local go_sem] max2_int min2_int max_two min_two max_three min_three max_four min_four   -- for this text's walks alone
def tensileref05_AreRates.l0 : Nat → List Int → Int → List (S54) → Option (Bool)
 | 0, _, _, _ => none
 | k + 1, x1, x5, x163000 => if x5 < (x1.length : Int) then (if 0 ≤ x5 then (if x5 < (x163000.length : Int) then ((tensileref05_In.f (rd x1 x5) ((rd_T54 x163000 x5).f0) ((rd_T54 x163000 x5).f1)).bind fun t166 => (if t166 = true then (if x5 > 0 then (if 0 ≤ (wrap64 (x5 - 1)) then (if (wrap64 (x5 - 1)) < (x1.length : Int) then (if (rd x1 x5) < (rd x1 (wrap64 (x5 - 1))) then (some false) else (tensileref05_AreRates.l0 k x1 (wrap64 (x5 + 1)) x163000)) else (none)) else (none)) else (tensileref05_AreRates.l0 k x1 (wrap64 (x5 + 1)) x163000)) else (some false))) else (none)) else (none)) else (some true)
def tensileref05_AreRates.f (k : Nat) (l0_0 : List (S54)) (l1 : List Int) : Option (Bool) := if (l1.length : Int) = (l0_0.length : Int) then (tensileref05_AreRates.l0 k l1 0 l0_0) else (some false)
def tensileref05_AreRates.T6 : Bool × List (List Nat × List Nat) := (true, [([], []), ([], []), ([0, 1], [0, 1]), ([2], [2]), ([], []), ([4], [4]), ([], []), ([5, 6], [5, 6]), ([7], [7]), ([8], [8]), ([], []), ([10], [10]), ([], []), ([11, 12], [11, 12]), ([13], [13]), ([14], [14]), ([3, 9, 15], [3, 9, 15]), ([16], [16]), ([17, 16], [17]), ([18], [18]), ([19, 18], [18, 19]), ([20, 18, 18], [18, 20]), ([21], [21]), ([21], [21]), ([22, 23, 21], [21, 22, 23]), ([24, 21], [21, 24]), ([21], [21]), ([21], [21]), ([27, 21], [21, 27]), ([26, 28, 21], [21, 26, 28]), ([29, 21], [21, 29]), ([25, 30, 21], [21, 25, 30]), ([21, 31, 18], [18, 21, 31]), ([18, 32], [18, 32])])
def tensileref05_AreRates.B6 : List Nat := [0, 0, 3, 7, 0, 16, 0, 112, 240, 496, 0, 1024, 0, 7168, 15360, 31744, 65535, 131071, 262143, 524287, 1048575, 2097151, 4194303, 4194303, 16777215, 33554431, 4194303, 4194303, 138412031, 473956351, 1010827263, 2147483647, 4294967295, 8589934591]
theorem tensileref05_AreRates.tab6 : rtab .any (opsOf Try.f46 6) = tensileref05_AreRates.T6 := by kernel_rfl
theorem tensileref05_AreRates.bits6 : waitsOk tensileref05_AreRates.T6.2 tensileref05_AreRates.B6 = true := by kernel_rfl
set_option maxHeartbeats 8000000 in
set_option maxRecDepth 100000 in
theorem tensileref05_AreRates.calls (k : Nat) (A0_0 : Option Addr) (c0_0 : Nat) (l0_0 : List (S54)) (A1 : Option Addr) (c1 : Nat) (l1 : List Int) (r : Bool) (w : World) (hr0_0 : Kd.C k54 w A0_0 l0_0.length l0_0) (hc0_0 : l0_0.length ≤ c0_0) (hr1 : Kd.C (Kd.int .i64) w A1 l1.length l1) (hc1 : l1.length ≤ c1) (h : tensileref05_AreRates.f k l0_0 l1 = some r) :
  Calls Try.prog 46 #[.agg #[.slice A0_0 l0_0.length c0_0], .slice A1 l1.length c1] w fun e w' => e = .returned (.bool r) ∧ Below w.heap.size w w' := by
 have hu24 := Try.underlying24
 have HR0_0 := Aside0.mk hr0_0
 have HC0_0 := Aside0.mk hc0_0
 clear hr0_0 hc0_0
 have HR1 := Aside0.mk hr1
 have HC1 := Aside0.mk hc1
 clear hr1 hc1
 have HB := Aside0.mk (Below.refl w.heap.size w)
 have H : (if (l1.length : Int) = (l0_0.length : Int) then (tensileref05_AreRates.l0 k l1 0 l0_0) else (some false)) = some r := h
 clear h
 by_cases c3 : (l1.length : Int) = (l0_0.length : Int)
 ·
  rw [if_pos c3] at H
  have c3b0 : ((l1.length : Int) == (l0_0.length : Int)) = true := beq_iff_eq.mpr c3
  have c3b1 : ((l1.length : Int) != (l0_0.length : Int)) = false := bne_eq_false_iff_eq.mpr c3
  have c3b2 : (l1.length == l0_0.length) = true := by first | simpa using c3 | (simp at c3 ⊢; omega)
  clear c3
  have H' := Aside0.mk H
  clear H
  go_enter Try.func46, Try.ntmps46
  go_wp2_with (first | ((with_reducible refine gate_dst (N := 2) rfl ?_); refine box_event ?hg (N := 2) ?hd (cs := #[.slice A0_0 l0_0.length c0_0]) (t := 24) ?hr ?_; (case hd => rfl); (case hg => rfl); (case hr => first | (go_simp; done) | (go_simp; rfl)); intro gb162 hg w4 hbox hb; have n0_ := Aside0.mk (b13 (by repeat (first | (with_reducible first | exact HB.out | apply b8 | apply b6 | apply b7) | exact HB.out)) hb); have n1_ := Aside0.mk (hbox); have n2_ := Aside0.mk ((by rw [hg]; exact (b12 (by repeat (first | (with_reducible first | exact HB.out | apply b8 | apply b6 | apply b7) | exact HB.out))) : w.heap.size ≤ gb162)); have n3_ := Aside0.mk ((by rw [hg]; exact (b12 (by repeat (first | (with_reducible first | exact HB.out | apply b8 | apply b6 | apply b7) | exact HB.out))) : w.heap.size ≤ gb162)); clear HB; have HB := n0_; have BK162 := n1_; have GW162 := n2_; have GE162 := n3_; clear n0_ n1_ n2_ n3_; clear hb hbox hg; have hcz5_0 : w4.cell? ⟨gb162, 0, none⟩ = some (.slice A0_0 l0_0.length c0_0) := (b4 BK162.out 0).trans rfl; have hfz5_0 := b9 BK162.out 0))
  go_loopg [5] k (fun kq v5 w' => ∃ (x5_1 : Int), v5 = .int .i64 x5_1 ∧ Aside0 (tensileref05_AreRates.l0 kq l1 x5_1 l0_0 = some r) ∧ Aside0 (kq ≤ k) ∧ Aside0 (w'.heap[gb162]? = some (.cells #[(.slice A0_0 l0_0.length c0_0)] 24 (0, 0))) ∧ Aside0 (Below w.heap.size w w'))
  case atStart => exact ⟨(0), (by first | rfl | (simp; done) | (simp [*]; done)), H', ⟨Nat.le_refl _⟩, ⟨by (with_reducible repeat (first | refine b0 ?_ _ | refine b1 ?_ | refine b2 ?_ _)); exact BK162.out⟩, ⟨by repeat (first | (with_reducible first | exact HB.out | apply b8 | apply b6 | apply b7 | refine b3 ?_ GE162.out) | exact HB.out)⟩⟩
  case round =>
   clear H'
   try clear c1
   try clear p2
   try clear c3
   try clear c3b0
   try clear c3b1
   try clear c3b2
   try clear c4
   try clear hcz5_0
   try clear hfz5_0
   obtain ⟨x5_1, rfl, HA, HK1, BK162, HB⟩ := hrel
   cases gk with
   | zero => exact absurd HA.out (by simp [tensileref05_AreRates.l0])
   | succ k1 =>
    have H := HA.out
    clear HA
    simp only [tensileref05_AreRates.l0] at H
    by_cases c6 : x5_1 < (l1.length : Int)
    ·
     rw [if_pos c6] at H
     have c6b0 : decide (x5_1 < (l1.length : Int)) = true := decide_eq_true c6
     clear c6
     by_cases c7 : 0 ≤ x5_1
     ·
      rw [if_pos c7] at H
      have c7b0 : decide (0 ≤ x5_1) = true := decide_eq_true c7
      clear c7
      by_cases c8 : x5_1 < (l0_0.length : Int)
      ·
       rw [if_pos c8] at H
       have c8b0 : decide (x5_1 < (l0_0.length : Int)) = true := decide_eq_true c8
       clear c8
       replace H := Option.bind_eq_some_iff.mp H
       obtain ⟨t166, A90, H⟩ := H
       replace H : (if t166 = true then (if x5_1 > 0 then (if 0 ≤ (wrap64 (x5_1 - 1)) then (if (wrap64 (x5_1 - 1)) < (l1.length : Int) then (if (rd l1 x5_1) < (rd l1 (wrap64 (x5_1 - 1))) then (some false) else (tensileref05_AreRates.l0 k1 l1 (wrap64 (x5_1 + 1)) l0_0)) else (none)) else (none)) else (tensileref05_AreRates.l0 k1 l1 (wrap64 (x5_1 + 1)) l0_0)) else (some false)) = some r := H
       have A9 := Aside0.mk A90
       clear A90
       by_cases c10 : t166 = true
       ·
        subst c10
        have H1 : (if x5_1 > 0 then (if 0 ≤ (wrap64 (x5_1 - 1)) then (if (wrap64 (x5_1 - 1)) < (l1.length : Int) then (if (rd l1 x5_1) < (rd l1 (wrap64 (x5_1 - 1))) then (some false) else (tensileref05_AreRates.l0 k1 l1 (wrap64 (x5_1 + 1)) l0_0)) else (none)) else (none)) else (tensileref05_AreRates.l0 k1 l1 (wrap64 (x5_1 + 1)) l0_0)) = some r := by rw [if_pos rfl] at H; exact H
        clear H
        have H := H1
        clear H1
        by_cases c11 : x5_1 > 0
        ·
         rw [if_pos c11] at H
         have c11b0 : decide (0 < x5_1) = true := decide_eq_true c11
         clear c11
         obtain ⟨ji12, hji12⟩ : ∃ j_ : Int, (wrap64 (x5_1 - 1)) = j_ := ⟨_, rfl⟩
         replace H : (if 0 ≤ (ji12) then (if (ji12) < (l1.length : Int) then (if (rd l1 x5_1) < (rd l1 (ji12)) then (some false) else (tensileref05_AreRates.l0 k1 l1 (wrap64 (x5_1 + 1)) l0_0)) else (none)) else (none)) = some r := by first | (rw [hji12] at H; exact H) | (simp only [hji12] at H ⊢; exact H)
         (try rw [hji12] at A9)
         have hji12w : (IntKind.i64.wrap (x5_1 - 1)) = ji12 := (i64_w _).trans hji12
         by_cases c13 : 0 ≤ (ji12)
         ·
          rw [if_pos c13] at H
          have c13b0 : decide (0 ≤ (ji12)) = true := decide_eq_true c13
          clear c13
          by_cases c14 : (ji12) < (l1.length : Int)
          ·
           rw [if_pos c14] at H
           have c14b0 : decide ((ji12) < (l1.length : Int)) = true := decide_eq_true c14
           clear c14
           by_cases c15 : (rd l1 x5_1) < (rd l1 (ji12))
           ·
            rw [if_pos c15] at H
            have c15b0 : decide ((rd l1 x5_1) < (rd l1 (ji12))) = true := decide_eq_true c15
            clear c15
            obtain rfl := Option.some.inj H
            try go_wp2
            have n0_ := Aside0.mk (b1 BK162.out)
            have n1_ := Aside0.mk (b7 HB.out)
            clear BK162
            clear HB
            have BK162 := n0_
            have HB := n1_
            clear n0_ n1_
            have p163 : 0 ≤ (x5_1 : Int) := of_decide_eq_true (by first | (with_reducible assumption) | assumption)
            have q163 : x5_1 < (l1.length : Int) := of_decide_eq_true (by first | (with_reducible assumption) | assumption)
            obtain ⟨ad163, e163, hx163_0⟩ := Kd.at_int HR1.out x5_1 p163 q163
            have hw163_0 := hx163_0
            cases e163
            replace hx163_0 := (HB.out.cell (World.block_lt_of_cell? w _ hx163_0)).trans hx163_0
            replace p163 := eq_true p163
            replace q163 := eq_true q163
            have p164 : 0 ≤ (x5_1 : Int) := of_decide_eq_true (by first | (with_reducible assumption) | assumption)
            have q164 : x5_1 < (l0_0.length : Int) := of_decide_eq_true (by first | (with_reducible assumption) | assumption)
            obtain ⟨ad164, e164, hx164_0, hx164_1⟩ := at_T54 HR0_0.out x5_1 p164 q164
            have hw164_1 := hx164_1
            have hw164_0 := hx164_0
            cases e164
            replace hx164_0 := (HB.out.cell (World.block_lt_of_cell? w _ hx164_0)).trans hx164_0
            replace hx164_1 := (HB.out.cell (World.block_lt_of_cell? w _ hx164_1)).trans hx164_1
            replace p164 := eq_true p164
            replace q164 := eq_true q164
            have p165 : 0 ≤ (x5_1 : Int) := of_decide_eq_true (by first | (with_reducible assumption) | assumption)
            have q165 : x5_1 < (l0_0.length : Int) := of_decide_eq_true (by first | (with_reducible assumption) | assumption)
            obtain ⟨ad165, e165, hx165_0, hx165_1⟩ := at_T54 HR0_0.out x5_1 p165 q165
            have hw165_1 := hx165_1
            have hw165_0 := hx165_0
            obtain rfl : ad164 = ad165 := (by injection e165)
            replace hx165_0 := (HB.out.cell (World.block_lt_of_cell? w _ hx165_0)).trans hx165_0
            replace hx165_1 := (HB.out.cell (World.block_lt_of_cell? w _ hx165_1)).trans hx165_1
            replace p165 := eq_true p165
            replace q165 := eq_true q165
            have p167 : 0 ≤ (x5_1 : Int) := of_decide_eq_true (by first | (with_reducible assumption) | assumption)
            have q167 : x5_1 < (l1.length : Int) := of_decide_eq_true (by first | (with_reducible assumption) | assumption)
            obtain ⟨ad167, e167, hx167_0⟩ := Kd.at_int HR1.out x5_1 p167 q167
            have hw167_0 := hx167_0
            obtain rfl : ad163 = ad167 := (by injection e167)
            replace hx167_0 := (HB.out.cell (World.block_lt_of_cell? w _ hx167_0)).trans hx167_0
            replace p167 := eq_true p167
            replace q167 := eq_true q167
            have p168 : 0 ≤ ((ji12) : Int) := of_decide_eq_true (by first | (with_reducible assumption) | assumption)
            have q168 : (ji12) < (l1.length : Int) := of_decide_eq_true (by first | (with_reducible assumption) | assumption)
            obtain ⟨ad168, e168, hx168_0⟩ := Kd.at_int HR1.out (ji12) p168 q168
            have hw168_0 := hx168_0
            obtain rfl : ad163 = ad168 := (by injection e168)
            replace hx168_0 := (HB.out.cell (World.block_lt_of_cell? w _ hx168_0)).trans hx168_0
            replace p168 := eq_true p168
            replace q168 := eq_true q168
            refine start_ (n := 34) (S := fun w' => w'.cell? ⟨gb162, 0, none⟩ = some (.slice (some ad164) l0_0.length c0_0) ∧ w'.cell? (ad163.add (x5_1).toNat) = some (.int .i64 (rd l1 x5_1)) ∧ w'.cell? (ad164.add ((x5_1).toNat * 2)) = some (.int .i64 ((rd_T54 l0_0 x5_1).f0)) ∧ w'.cell? ⟨(ad164.add ((x5_1).toNat * 2)).block, (ad164.add ((x5_1).toNat * 2)).off + 1, none⟩ = some (.int .i64 ((rd_T54 l0_0 x5_1).f1)) ∧ w'.cell? (ad164.add ((x5_1).toNat * 2)) = some (.int .i64 ((rd_T54 l0_0 x5_1).f0)) ∧ w'.cell? ⟨(ad164.add ((x5_1).toNat * 2)).block, (ad164.add ((x5_1).toNat * 2)).off + 1, none⟩ = some (.int .i64 ((rd_T54 l0_0 x5_1).f1)) ∧ w'.cell? (ad163.add (x5_1).toNat) = some (.int .i64 (rd l1 x5_1)) ∧ w'.cell? (ad163.add ((ji12)).toNat) = some (.int .i64 (rd l1 (ji12)))) (ds := []) #[ff,ff,ff,ff,ff,ff,ff,ff,ff,ff,ff,ff,ff,ff,ff,ff,ff,ff,ff,ff,ff,ff,ff,ff,ff,ff,ff,ff,ff,ff,ff,ff,ff,ff] (by kernel_rfl) rfl rfl ⟨(b4 BK162.out 0).trans rfl, ((HB.out.cell (World.block_lt_of_cell? w _ hw163_0)).trans hw163_0), ((HB.out.cell (World.block_lt_of_cell? w _ hw164_0)).trans hw164_0), ((HB.out.cell (World.block_lt_of_cell? w _ hw164_1)).trans hw164_1), ((HB.out.cell (World.block_lt_of_cell? w _ hw165_0)).trans hw165_0), ((HB.out.cell (World.block_lt_of_cell? w _ hw165_1)).trans hw165_1), ((HB.out.cell (World.block_lt_of_cell? w _ hw167_0)).trans hw167_0), ((HB.out.cell (World.block_lt_of_cell? w _ hw168_0)).trans hw168_0)⟩ (fun hHeld => ?_); refine with_tabW tensileref05_AreRates.tab6 tensileref05_AreRates.bits6 (fun HT_ HW_ => ?_)
            generalize wr.drew = w16 at BK162 HB hx163_0 hx164_0 hx164_1 hx165_0 hx165_1 hx167_0 hx168_0 hHeld ⊢
            refine pure_ (i := 0) (N := some 18) (v := ?_) (a' := ?_) #[tt,ff,ff,ff,ff,ff,ff,ff,ff,ff,ff,ff,ff,ff,ff,ff,ff,ff,ff,ff,ff,ff,ff,ff,ff,ff,ff,ff,ff,ff,ff,ff,ff,ff] rfl rfl (any_of HT_.out (by kernel_rfl)) (fun _ _ _ h => h) (Or.inl ⟨by rfl, ?_⟩) ?_ ?_
            rotate_left
            ·
             intro w'
             go_simp
             with_reducible rfl
            rotate_left
            ·
             simp only [Act.put, l1, l2, l3, i64_w, i32_w]
             rfl
            refine pure_ (i := 1) (N := some 19) (v := ?_) (a' := ?_) #[tt,tt,ff,ff,ff,ff,ff,ff,ff,ff,ff,ff,ff,ff,ff,ff,ff,ff,ff,ff,ff,ff,ff,ff,ff,ff,ff,ff,ff,ff,ff,ff,ff,ff] rfl rfl (any_of HT_.out (by kernel_rfl)) (fun _ _ _ h => h) (Or.inl ⟨by rfl, ?_⟩) ?_ ?_
            rotate_left
            ·
             intro w'
             go_simp
             with_reducible rfl
            rotate_left
            ·
             simp only [Act.put, l1, l2, l3, i64_w, i32_w]
             rfl
            refine pure_ (i := 2) (N := some 20) (v := ?_) (a' := ?_) #[tt,tt,tt,ff,ff,ff,ff,ff,ff,ff,ff,ff,ff,ff,ff,ff,ff,ff,ff,ff,ff,ff,ff,ff,ff,ff,ff,ff,ff,ff,ff,ff,ff,ff] rfl rfl (any_of HT_.out (by kernel_rfl)) (fun _ _ _ h => h) (Or.inl ⟨by rfl, ?_⟩) ?_ ?_
            rotate_left
            ·
             intro w'
             go_simp
             with_reducible rfl
            rotate_left
            ·
             simp only [Act.put, l1, l2, l3, i64_w, i32_w]
             rfl
            refine pure_ (i := 4) (N := some 22) (v := ?_) (a' := ?_) #[tt,tt,tt,ff,tt,ff,ff,ff,ff,ff,ff,ff,ff,ff,ff,ff,ff,ff,ff,ff,ff,ff,ff,ff,ff,ff,ff,ff,ff,ff,ff,ff,ff,ff] rfl rfl (any_of HT_.out (by kernel_rfl)) (fun _ _ _ h => h) (Or.inl ⟨by rfl, ?_⟩) ?_ ?_
            rotate_left
            ·
             intro w'
             go_simp
             with_reducible rfl
            rotate_left
            ·
             simp only [Act.put, l1, l2, l3, i64_w, i32_w]
             rfl
            refine pure_ (i := 6) (N := some 24) (v := ?_) (a' := ?_) #[tt,tt,tt,ff,tt,ff,tt,ff,ff,ff,ff,ff,ff,ff,ff,ff,ff,ff,ff,ff,ff,ff,ff,ff,ff,ff,ff,ff,ff,ff,ff,ff,ff,ff] rfl rfl (any_of HT_.out (by kernel_rfl)) (fun _ _ _ h => h) (Or.inl ⟨by rfl, ?_⟩) ?_ ?_
            rotate_left
            ·
             intro w'
             go_simp
             with_reducible rfl
            rotate_left
            ·
             simp only [Act.put, l1, l2, l3, i64_w, i32_w]
             rfl
            refine pure_ (i := 10) (N := some 28) (v := ?_) (a' := ?_) #[tt,tt,tt,ff,tt,ff,tt,ff,ff,ff,tt,ff,ff,ff,ff,ff,ff,ff,ff,ff,ff,ff,ff,ff,ff,ff,ff,ff,ff,ff,ff,ff,ff,ff] rfl rfl (any_of HT_.out (by kernel_rfl)) (fun _ _ _ h => h) (Or.inl ⟨by rfl, ?_⟩) ?_ ?_
            rotate_left
            ·
             intro w'
             go_simp
             with_reducible rfl
            rotate_left
            ·
             simp only [Act.put, l1, l2, l3, i64_w, i32_w]
             rfl
            refine pure_ (i := 12) (N := some 30) (v := ?_) (a' := ?_) #[tt,tt,tt,ff,tt,ff,tt,ff,ff,ff,tt,ff,tt,ff,ff,ff,ff,ff,ff,ff,ff,ff,ff,ff,ff,ff,ff,ff,ff,ff,ff,ff,ff,ff] rfl rfl (any_of HT_.out (by kernel_rfl)) (fun _ _ _ h => h) (Or.inl ⟨by rfl, ?_⟩) ?_ ?_
            rotate_left
            ·
             intro w'
             go_simp
             with_reducible rfl
            rotate_left
            ·
             simp only [Act.put, l1, l2, l3, i64_w, i32_w]
             rfl
            refine take_ (i := 3) (N := some 21) (v := ?_) (a' := ?_) #[tt,tt,tt,tt,tt,ff,tt,ff,ff,ff,tt,ff,tt,ff,ff,ff,ff,ff,ff,ff,ff,ff,ff,ff,ff,ff,ff,ff,ff,ff,ff,ff,ff,ff] rfl rfl (take_ofW HT_.out HW_.out (by kernel_rfl)) (fun _ _ _ h => h) (Or.inl ⟨by rfl, ?_⟩) hHeld ?_ ?_
            rotate_left
            ·
             rintro w' ⟨s0, s1, s2, s3, s4, s5, s6, s7⟩
             go_simp
             with_reducible rfl
            rotate_left
            ·
             simp only [Act.put, l1, l2, l3, i64_w, i32_w]
             rfl
            refine take_ (i := 5) (N := some 23) (v := ?_) (a' := ?_) #[tt,tt,tt,tt,tt,tt,tt,ff,ff,ff,tt,ff,tt,ff,ff,ff,ff,ff,ff,ff,ff,ff,ff,ff,ff,ff,ff,ff,ff,ff,ff,ff,ff,ff] rfl rfl (take_ofW HT_.out HW_.out (by kernel_rfl)) (fun _ _ _ h => h) (Or.inl ⟨by rfl, ?_⟩) hHeld ?_ ?_
            rotate_left
            ·
             rintro w' ⟨s0, s1, s2, s3, s4, s5, s6, s7⟩
             go_simp
             with_reducible rfl
            rotate_left
            ·
             simp only [Act.put, l1, l2, l3, i64_w, i32_w]
             rfl
            refine pure_ (i := 7) (N := some 25) (v := ?_) (a' := ?_) #[tt,tt,tt,tt,tt,tt,tt,tt,ff,ff,tt,ff,tt,ff,ff,ff,ff,ff,ff,ff,ff,ff,ff,ff,ff,ff,ff,ff,ff,ff,ff,ff,ff,ff] rfl rfl (any_of HT_.out (by kernel_rfl)) (fun _ _ _ h => h) (Or.inl ⟨by rfl, ?_⟩) ?_ ?_
            rotate_left
            ·
             intro w'
             go_simp
             with_reducible rfl
            rotate_left
            ·
             simp only [Act.put, l1, l2, l3, i64_w, i32_w]
             rfl
            refine pure_ (i := 8) (N := some 26) (v := ?_) (a' := ?_) #[tt,tt,tt,tt,tt,tt,tt,tt,tt,ff,tt,ff,tt,ff,ff,ff,ff,ff,ff,ff,ff,ff,ff,ff,ff,ff,ff,ff,ff,ff,ff,ff,ff,ff] rfl rfl (any_of HT_.out (by kernel_rfl)) (fun _ _ _ h => h) (Or.inl ⟨by rfl, ?_⟩) ?_ ?_
            rotate_left
            ·
             intro w'
             go_simp
             with_reducible rfl
            rotate_left
            ·
             simp only [Act.put, l1, l2, l3, i64_w, i32_w]
             rfl
            refine take_ (i := 9) (N := some 27) (v := ?_) (a' := ?_) #[tt,tt,tt,tt,tt,tt,tt,tt,tt,tt,tt,ff,tt,ff,ff,ff,ff,ff,ff,ff,ff,ff,ff,ff,ff,ff,ff,ff,ff,ff,ff,ff,ff,ff] rfl rfl (take_ofW HT_.out HW_.out (by kernel_rfl)) (fun _ _ _ h => h) (Or.inl ⟨by rfl, ?_⟩) hHeld ?_ ?_
            rotate_left
            ·
             rintro w' ⟨s0, s1, s2, s3, s4, s5, s6, s7⟩
             go_simp
             with_reducible rfl
            rotate_left
            ·
             simp only [Act.put, l1, l2, l3, i64_w, i32_w]
             rfl
            refine take_ (i := 11) (N := some 29) (v := ?_) (a' := ?_) #[tt,tt,tt,tt,tt,tt,tt,tt,tt,tt,tt,tt,tt,ff,ff,ff,ff,ff,ff,ff,ff,ff,ff,ff,ff,ff,ff,ff,ff,ff,ff,ff,ff,ff] rfl rfl (take_ofW HT_.out HW_.out (by kernel_rfl)) (fun _ _ _ h => h) (Or.inl ⟨by rfl, ?_⟩) hHeld ?_ ?_
            rotate_left
            ·
             rintro w' ⟨s0, s1, s2, s3, s4, s5, s6, s7⟩
             go_simp
             with_reducible rfl
            rotate_left
            ·
             simp only [Act.put, l1, l2, l3, i64_w, i32_w]
             rfl
            refine pure_ (i := 13) (N := some 31) (v := ?_) (a' := ?_) #[tt,tt,tt,tt,tt,tt,tt,tt,tt,tt,tt,tt,tt,tt,ff,ff,ff,ff,ff,ff,ff,ff,ff,ff,ff,ff,ff,ff,ff,ff,ff,ff,ff,ff] rfl rfl (any_of HT_.out (by kernel_rfl)) (fun _ _ _ h => h) (Or.inl ⟨by rfl, ?_⟩) ?_ ?_
            rotate_left
            ·
             intro w'
             go_simp
             with_reducible rfl
            rotate_left
            ·
             simp only [Act.put, l1, l2, l3, i64_w, i32_w]
             rfl
            refine pure_ (i := 14) (N := some 32) (v := ?_) (a' := ?_) #[tt,tt,tt,tt,tt,tt,tt,tt,tt,tt,tt,tt,tt,tt,tt,ff,ff,ff,ff,ff,ff,ff,ff,ff,ff,ff,ff,ff,ff,ff,ff,ff,ff,ff] rfl rfl (any_of HT_.out (by kernel_rfl)) (fun _ _ _ h => h) (Or.inl ⟨by rfl, ?_⟩) ?_ ?_
            rotate_left
            ·
             intro w'
             go_simp
             with_reducible rfl
            rotate_left
            ·
             simp only [Act.put, l1, l2, l3, i64_w, i32_w]
             rfl
            refine take_ (i := 15) (N := some 33) (v := ?_) (a' := ?_) #[tt,tt,tt,tt,tt,tt,tt,tt,tt,tt,tt,tt,tt,tt,tt,tt,ff,ff,ff,ff,ff,ff,ff,ff,ff,ff,ff,ff,ff,ff,ff,ff,ff,ff] rfl rfl (take_ofW HT_.out HW_.out (by kernel_rfl)) (fun _ _ _ h => h) (Or.inl ⟨by rfl, ?_⟩) hHeld ?_ ?_
            rotate_left
            ·
             rintro w' ⟨s0, s1, s2, s3, s4, s5, s6, s7⟩
             go_simp
             with_reducible rfl
            rotate_left
            ·
             simp only [Act.put, l1, l2, l3, i64_w, i32_w]
             rfl
            refine one_ (i := 16) (N := some 34) #[tt,tt,tt,tt,tt,tt,tt,tt,tt,tt,tt,tt,tt,tt,tt,tt,tt,ff,ff,ff,ff,ff,ff,ff,ff,ff,ff,ff,ff,ff,ff,ff,ff,ff] rfl rfl (one_of HT_.out (by kernel_rfl)) (by decide) (fun K hK => ?_)
            refine goes_ Try.func40 (by kernel_rfl) rfl #[.int .i64 (rd l1 x5_1), .int .i64 ((rd_T54 l0_0 x5_1).f0), .int .i64 ((rd_T54 l0_0 x5_1).f1)] (by rfl) rfl rfl (by (try simp only [List.map_toArray, List.map_cons, List.map_nil]); first | done | rfl | (simp only [List.length_drop, List.length_take]; rfl)) ?_
            with_reducible refine (tensileref05_In.calls (rd l1 x5_1) ((rd_T54 l0_0 x5_1).f0) ((rd_T54 l0_0 x5_1).f1) true _ A9.out).mono ?_
            rintro e w' ⟨rfl, ⟨nd, rfl⟩⟩
            refine ⟨_, rfl, ?_⟩
            refine hK.out _ _ ⟨(b4 BK162.out 0).trans rfl, ((HB.out.cell (World.block_lt_of_cell? w _ hw163_0)).trans hw163_0), ((HB.out.cell (World.block_lt_of_cell? w _ hw164_0)).trans hw164_0), ((HB.out.cell (World.block_lt_of_cell? w _ hw164_1)).trans hw164_1), ((HB.out.cell (World.block_lt_of_cell? w _ hw165_0)).trans hw165_0), ((HB.out.cell (World.block_lt_of_cell? w _ hw165_1)).trans hw165_1), ((HB.out.cell (World.block_lt_of_cell? w _ hw167_0)).trans hw167_0), ((HB.out.cell (World.block_lt_of_cell? w _ hw168_0)).trans hw168_0)⟩ (fun hHeld => ?_)
            clear hK K
            refine norm_ (a' := ?_) ?_ ?_
            rotate_left
            ·
             show Act.put _ (some 34) _ = _
             simp only [Act.put, l1, l2, l3, i64_w, i32_w]
             rfl
            refine pure_ (i := 17) (N := some 35) (v := ?_) (a' := ?_) #[tt,tt,tt,tt,tt,tt,tt,tt,tt,tt,tt,tt,tt,tt,tt,tt,tt,tt,ff,ff,ff,ff,ff,ff,ff,ff,ff,ff,ff,ff,ff,ff,ff,ff] rfl rfl (any_of HT_.out (by kernel_rfl)) (fun _ _ _ h => h) (Or.inl ⟨by rfl, ?_⟩) ?_ ?_
            rotate_left
            ·
             intro w'
             go_simp
             with_reducible rfl
            rotate_left
            ·
             simp only [Act.put, l1, l2, l3, i64_w, i32_w]
             rfl
            refine pure_ (i := 18) (N := some 36) (v := ?_) (a' := ?_) #[tt,tt,tt,tt,tt,tt,tt,tt,tt,tt,tt,tt,tt,tt,tt,tt,tt,tt,tt,ff,ff,ff,ff,ff,ff,ff,ff,ff,ff,ff,ff,ff,ff,ff] rfl rfl (any_of HT_.out (by kernel_rfl)) (fun _ _ _ h => h) (Or.inl ⟨by rfl, ?_⟩) ?_ ?_
            rotate_left
            ·
             intro w'
             go_simp
             with_reducible rfl
            rotate_left
            ·
             simp only [Act.put, l1, l2, l3, i64_w, i32_w]
             rfl
            refine pure_ (i := 19) (N := some 37) (v := ?_) (a' := ?_) #[tt,tt,tt,tt,tt,tt,tt,tt,tt,tt,tt,tt,tt,tt,tt,tt,tt,tt,tt,tt,ff,ff,ff,ff,ff,ff,ff,ff,ff,ff,ff,ff,ff,ff] rfl rfl (any_of HT_.out (by kernel_rfl)) (fun _ _ _ h => h) (Or.inl ⟨by rfl, ?_⟩) ?_ ?_
            rotate_left
            ·
             intro w'
             go_simp
             with_reducible rfl
            rotate_left
            ·
             simp only [Act.put, l1, l2, l3, i64_w, i32_w]
             rfl
            refine pure_ (i := 20) (N := some 38) (v := ?_) (a' := ?_) #[tt,tt,tt,tt,tt,tt,tt,tt,tt,tt,tt,tt,tt,tt,tt,tt,tt,tt,tt,tt,tt,ff,ff,ff,ff,ff,ff,ff,ff,ff,ff,ff,ff,ff] rfl rfl (any_of HT_.out (by kernel_rfl)) (fun _ _ _ h => h) (Or.inl ⟨by rfl, ?_⟩) ?_ ?_
            rotate_left
            ·
             intro w'
             go_simp
             with_reducible rfl
            rotate_left
            ·
             simp only [Act.put, l1, l2, l3, i64_w, i32_w]
             rfl
            refine pure_ (i := 21) (N := some 39) (v := ?_) (a' := ?_) #[tt,tt,tt,tt,tt,tt,tt,tt,tt,tt,tt,tt,tt,tt,tt,tt,tt,tt,tt,tt,tt,tt,ff,ff,ff,ff,ff,ff,ff,ff,ff,ff,ff,ff] rfl rfl (any_of HT_.out (by kernel_rfl)) (fun _ _ _ h => h) (Or.inl ⟨by rfl, ?_⟩) ?_ ?_
            rotate_left
            ·
             intro w'
             go_simp
             with_reducible rfl
            rotate_left
            ·
             simp only [Act.put, l1, l2, l3, i64_w, i32_w]
             rfl
            refine pure_ (i := 22) (N := some 40) (v := ?_) (a' := ?_) #[tt,tt,tt,tt,tt,tt,tt,tt,tt,tt,tt,tt,tt,tt,tt,tt,tt,tt,tt,tt,tt,tt,tt,ff,ff,ff,ff,ff,ff,ff,ff,ff,ff,ff] rfl rfl (any_of HT_.out (by kernel_rfl)) (fun _ _ _ h => h) (Or.inl ⟨by rfl, ?_⟩) ?_ ?_
            rotate_left
            ·
             intro w'
             go_simp
             with_reducible rfl
            rotate_left
            ·
             simp only [Act.put, l1, l2, l3, i64_w, i32_w]
             rfl
            refine pure_ (i := 23) (N := some 41) (v := ?_) (a' := ?_) #[tt,tt,tt,tt,tt,tt,tt,tt,tt,tt,tt,tt,tt,tt,tt,tt,tt,tt,tt,tt,tt,tt,tt,tt,ff,ff,ff,ff,ff,ff,ff,ff,ff,ff] rfl rfl (any_of HT_.out (by kernel_rfl)) (fun _ _ _ h => h) (Or.inl ⟨by rfl, ?_⟩) ?_ ?_
            rotate_left
            ·
             intro w'
             go_simp
             with_reducible rfl
            rotate_left
            ·
             simp only [Act.put, l1, l2, l3, i64_w, i32_w]
             rfl
            refine pure_ (i := 24) (N := some 42) (v := ?_) (a' := ?_) #[tt,tt,tt,tt,tt,tt,tt,tt,tt,tt,tt,tt,tt,tt,tt,tt,tt,tt,tt,tt,tt,tt,tt,tt,tt,ff,ff,ff,ff,ff,ff,ff,ff,ff] rfl rfl (any_of HT_.out (by kernel_rfl)) (fun _ _ _ h => h) (Or.inl ⟨by rfl, ?_⟩) ?_ ?_
            rotate_left
            ·
             intro w'
             go_simp
             with_reducible rfl
            rotate_left
            ·
             simp only [Act.put, l1, l2, l3, i64_w, i32_w]
             rfl
            refine pure_ (i := 26) (N := some 44) (v := ?_) (a' := ?_) #[tt,tt,tt,tt,tt,tt,tt,tt,tt,tt,tt,tt,tt,tt,tt,tt,tt,tt,tt,tt,tt,tt,tt,tt,tt,ff,tt,ff,ff,ff,ff,ff,ff,ff] rfl rfl (any_of HT_.out (by kernel_rfl)) (fun _ _ _ h => h) (Or.inl ⟨by rfl, ?_⟩) ?_ ?_
            rotate_left
            ·
             intro w'
             go_simp
             with_reducible rfl
            rotate_left
            ·
             simp only [Act.put, l1, l2, l3, i64_w, i32_w]
             rfl
            refine pure_ (i := 27) (N := some 45) (v := ?_) (a' := ?_) #[tt,tt,tt,tt,tt,tt,tt,tt,tt,tt,tt,tt,tt,tt,tt,tt,tt,tt,tt,tt,tt,tt,tt,tt,tt,ff,tt,tt,ff,ff,ff,ff,ff,ff] rfl rfl (any_of HT_.out (by kernel_rfl)) (fun _ _ _ h => h) (Or.inl ⟨by rfl, ?_⟩) ?_ ?_
            rotate_left
            ·
             intro w'
             go_simp
             with_reducible rfl
            rotate_left
            ·
             simp only [Act.put, l1, l2, l3, i64_w, i32_w]
             rfl
            refine pure_ (i := 28) (N := some 46) (v := ?_) (a' := ?_) #[tt,tt,tt,tt,tt,tt,tt,tt,tt,tt,tt,tt,tt,tt,tt,tt,tt,tt,tt,tt,tt,tt,tt,tt,tt,ff,tt,tt,tt,ff,ff,ff,ff,ff] rfl rfl (any_of HT_.out (by kernel_rfl)) (fun _ _ _ h => h) (Or.inl ⟨by rfl, ?_⟩) ?_ ?_
            rotate_left
            ·
             intro w'
             go_simp
             with_reducible rfl
            rotate_left
            ·
             simp only [Act.put, l1, l2, l3, i64_w, i32_w]
             rfl
            refine pure_ (i := 29) (N := some 47) (v := ?_) (a' := ?_) #[tt,tt,tt,tt,tt,tt,tt,tt,tt,tt,tt,tt,tt,tt,tt,tt,tt,tt,tt,tt,tt,tt,tt,tt,tt,ff,tt,tt,tt,tt,ff,ff,ff,ff] rfl rfl (any_of HT_.out (by kernel_rfl)) (fun _ _ _ h => h) (Or.inl ⟨by rfl, ?_⟩) ?_ ?_
            rotate_left
            ·
             intro w'
             go_simp
             with_reducible rfl
            rotate_left
            ·
             simp only [Act.put, l1, l2, l3, i64_w, i32_w]
             rfl
            refine take_ (i := 25) (N := some 43) (v := ?_) (a' := ?_) #[tt,tt,tt,tt,tt,tt,tt,tt,tt,tt,tt,tt,tt,tt,tt,tt,tt,tt,tt,tt,tt,tt,tt,tt,tt,tt,tt,tt,tt,tt,ff,ff,ff,ff] rfl rfl (take_ofW HT_.out HW_.out (by kernel_rfl)) (fun _ _ _ h => h) (Or.inl ⟨by rfl, ?_⟩) hHeld ?_ ?_
            rotate_left
            ·
             rintro w' ⟨s0, s1, s2, s3, s4, s5, s6, s7⟩
             go_simp
             with_reducible rfl
            rotate_left
            ·
             simp only [Act.put, l1, l2, l3, i64_w, i32_w]
             rfl
            refine take_ (i := 30) (N := some 48) (v := ?_) (a' := ?_) #[tt,tt,tt,tt,tt,tt,tt,tt,tt,tt,tt,tt,tt,tt,tt,tt,tt,tt,tt,tt,tt,tt,tt,tt,tt,tt,tt,tt,tt,tt,tt,ff,ff,ff] rfl rfl (take_ofW HT_.out HW_.out (by kernel_rfl)) (fun _ _ _ h => h) (Or.inl ⟨by rfl, ?_⟩) hHeld ?_ ?_
            rotate_left
            ·
             rintro w' ⟨s0, s1, s2, s3, s4, s5, s6, s7⟩
             go_simp
             with_reducible rfl
            rotate_left
            ·
             simp only [Act.put, l1, l2, l3, i64_w, i32_w]
             rfl
            refine pure_ (i := 31) (N := some 49) (v := ?_) (a' := ?_) #[tt,tt,tt,tt,tt,tt,tt,tt,tt,tt,tt,tt,tt,tt,tt,tt,tt,tt,tt,tt,tt,tt,tt,tt,tt,tt,tt,tt,tt,tt,tt,tt,ff,ff] rfl rfl (any_of HT_.out (by kernel_rfl)) (fun _ _ _ h => h) (Or.inl ⟨by rfl, ?_⟩) ?_ ?_
            rotate_left
            ·
             intro w'
             go_simp
             with_reducible rfl
            rotate_left
            ·
             simp only [Act.put, l1, l2, l3, i64_w, i32_w]
             rfl
            refine pure_ (i := 32) (N := some 50) (v := ?_) (a' := ?_) #[tt,tt,tt,tt,tt,tt,tt,tt,tt,tt,tt,tt,tt,tt,tt,tt,tt,tt,tt,tt,tt,tt,tt,tt,tt,tt,tt,tt,tt,tt,tt,tt,tt,ff] rfl rfl (any_of HT_.out (by kernel_rfl)) (fun _ _ _ h => h) (Or.inl ⟨by rfl, ?_⟩) ?_ ?_
            rotate_left
            ·
             intro w'
             go_simp
             with_reducible rfl
            rotate_left
            ·
             simp only [Act.put, l1, l2, l3, i64_w, i32_w]
             rfl
            refine pure_ (i := 33) (N := some 51) (v := ?_) (a' := ?_) #[tt,tt,tt,tt,tt,tt,tt,tt,tt,tt,tt,tt,tt,tt,tt,tt,tt,tt,tt,tt,tt,tt,tt,tt,tt,tt,tt,tt,tt,tt,tt,tt,tt,tt] rfl rfl (any_of HT_.out (by kernel_rfl)) (fun _ _ _ h => h) (Or.inl ⟨by rfl, ?_⟩) ?_ ?_
            rotate_left
            ·
             intro w'
             go_simp
             with_reducible rfl
            rotate_left
            ·
             simp only [Act.put, l1, l2, l3, i64_w, i32_w]
             rfl
            refine done_ (done_of HT_.out (by kernel_rfl)) ?_
            try go_wp2
            go_ret
            exact ⟨by first | rfl | (simp [errW_none, errW_some] <;> rfl) | (simp only [← hji12]; first | rfl | (simp [errW_none, errW_some] <;> rfl)) | (simp [*, errW_none, errW_some] <;> rfl), by repeat (first | (with_reducible first | exact HB.out | apply b8 | apply b6 | apply b7 | refine b3 ?_ GE162.out) | exact HB.out)⟩
           ·
            rw [if_neg c15] at H
            have c15b0 : decide ((rd l1 x5_1) < (rd l1 (ji12))) = false := decide_eq_false c15
            clear c15
            have H' := Aside0.mk H
            clear H
            try go_wp2
            have n0_ := Aside0.mk (b1 BK162.out)
            have n1_ := Aside0.mk (b7 HB.out)
            clear BK162
            clear HB
            have BK162 := n0_
            have HB := n1_
            clear n0_ n1_
            have p163 : 0 ≤ (x5_1 : Int) := of_decide_eq_true (by first | (with_reducible assumption) | assumption)
            have q163 : x5_1 < (l1.length : Int) := of_decide_eq_true (by first | (with_reducible assumption) | assumption)
            obtain ⟨ad163, e163, hx163_0⟩ := Kd.at_int HR1.out x5_1 p163 q163
            have hw163_0 := hx163_0
            cases e163
            replace hx163_0 := (HB.out.cell (World.block_lt_of_cell? w _ hx163_0)).trans hx163_0
            replace p163 := eq_true p163
            replace q163 := eq_true q163
            have p164 : 0 ≤ (x5_1 : Int) := of_decide_eq_true (by first | (with_reducible assumption) | assumption)
            have q164 : x5_1 < (l0_0.length : Int) := of_decide_eq_true (by first | (with_reducible assumption) | assumption)
            obtain ⟨ad164, e164, hx164_0, hx164_1⟩ := at_T54 HR0_0.out x5_1 p164 q164
            have hw164_1 := hx164_1
            have hw164_0 := hx164_0
            cases e164
            replace hx164_0 := (HB.out.cell (World.block_lt_of_cell? w _ hx164_0)).trans hx164_0
            replace hx164_1 := (HB.out.cell (World.block_lt_of_cell? w _ hx164_1)).trans hx164_1
            replace p164 := eq_true p164
            replace q164 := eq_true q164
            have p165 : 0 ≤ (x5_1 : Int) := of_decide_eq_true (by first | (with_reducible assumption) | assumption)
            have q165 : x5_1 < (l0_0.length : Int) := of_decide_eq_true (by first | (with_reducible assumption) | assumption)
            obtain ⟨ad165, e165, hx165_0, hx165_1⟩ := at_T54 HR0_0.out x5_1 p165 q165
            have hw165_1 := hx165_1
            have hw165_0 := hx165_0
            obtain rfl : ad164 = ad165 := (by injection e165)
            replace hx165_0 := (HB.out.cell (World.block_lt_of_cell? w _ hx165_0)).trans hx165_0
            replace hx165_1 := (HB.out.cell (World.block_lt_of_cell? w _ hx165_1)).trans hx165_1
            replace p165 := eq_true p165
            replace q165 := eq_true q165
            have p167 : 0 ≤ (x5_1 : Int) := of_decide_eq_true (by first | (with_reducible assumption) | assumption)
            have q167 : x5_1 < (l1.length : Int) := of_decide_eq_true (by first | (with_reducible assumption) | assumption)
            obtain ⟨ad167, e167, hx167_0⟩ := Kd.at_int HR1.out x5_1 p167 q167
            have hw167_0 := hx167_0
            obtain rfl : ad163 = ad167 := (by injection e167)
            replace hx167_0 := (HB.out.cell (World.block_lt_of_cell? w _ hx167_0)).trans hx167_0
            replace p167 := eq_true p167
            replace q167 := eq_true q167
            have p168 : 0 ≤ ((ji12) : Int) := of_decide_eq_true (by first | (with_reducible assumption) | assumption)
            have q168 : (ji12) < (l1.length : Int) := of_decide_eq_true (by first | (with_reducible assumption) | assumption)
            obtain ⟨ad168, e168, hx168_0⟩ := Kd.at_int HR1.out (ji12) p168 q168
            have hw168_0 := hx168_0
            obtain rfl : ad163 = ad168 := (by injection e168)
            replace hx168_0 := (HB.out.cell (World.block_lt_of_cell? w _ hx168_0)).trans hx168_0
            replace p168 := eq_true p168
            replace q168 := eq_true q168
            refine start_ (n := 34) (S := fun w' => w'.cell? ⟨gb162, 0, none⟩ = some (.slice (some ad164) l0_0.length c0_0) ∧ w'.cell? (ad163.add (x5_1).toNat) = some (.int .i64 (rd l1 x5_1)) ∧ w'.cell? (ad164.add ((x5_1).toNat * 2)) = some (.int .i64 ((rd_T54 l0_0 x5_1).f0)) ∧ w'.cell? ⟨(ad164.add ((x5_1).toNat * 2)).block, (ad164.add ((x5_1).toNat * 2)).off + 1, none⟩ = some (.int .i64 ((rd_T54 l0_0 x5_1).f1)) ∧ w'.cell? (ad164.add ((x5_1).toNat * 2)) = some (.int .i64 ((rd_T54 l0_0 x5_1).f0)) ∧ w'.cell? ⟨(ad164.add ((x5_1).toNat * 2)).block, (ad164.add ((x5_1).toNat * 2)).off + 1, none⟩ = some (.int .i64 ((rd_T54 l0_0 x5_1).f1)) ∧ w'.cell? (ad163.add (x5_1).toNat) = some (.int .i64 (rd l1 x5_1)) ∧ w'.cell? (ad163.add ((ji12)).toNat) = some (.int .i64 (rd l1 (ji12)))) (ds := []) #[ff,ff,ff,ff,ff,ff,ff,ff,ff,ff,ff,ff,ff,ff,ff,ff,ff,ff,ff,ff,ff,ff,ff,ff,ff,ff,ff,ff,ff,ff,ff,ff,ff,ff] (by kernel_rfl) rfl rfl ⟨(b4 BK162.out 0).trans rfl, ((HB.out.cell (World.block_lt_of_cell? w _ hw163_0)).trans hw163_0), ((HB.out.cell (World.block_lt_of_cell? w _ hw164_0)).trans hw164_0), ((HB.out.cell (World.block_lt_of_cell? w _ hw164_1)).trans hw164_1), ((HB.out.cell (World.block_lt_of_cell? w _ hw165_0)).trans hw165_0), ((HB.out.cell (World.block_lt_of_cell? w _ hw165_1)).trans hw165_1), ((HB.out.cell (World.block_lt_of_cell? w _ hw167_0)).trans hw167_0), ((HB.out.cell (World.block_lt_of_cell? w _ hw168_0)).trans hw168_0)⟩ (fun hHeld => ?_); refine with_tabW tensileref05_AreRates.tab6 tensileref05_AreRates.bits6 (fun HT_ HW_ => ?_)
            generalize wr.drew = w17 at BK162 HB hx163_0 hx164_0 hx164_1 hx165_0 hx165_1 hx167_0 hx168_0 hHeld ⊢
            refine pure_ (i := 0) (N := some 18) (v := ?_) (a' := ?_) #[tt,ff,ff,ff,ff,ff,ff,ff,ff,ff,ff,ff,ff,ff,ff,ff,ff,ff,ff,ff,ff,ff,ff,ff,ff,ff,ff,ff,ff,ff,ff,ff,ff,ff] rfl rfl (any_of HT_.out (by kernel_rfl)) (fun _ _ _ h => h) (Or.inl ⟨by rfl, ?_⟩) ?_ ?_
            rotate_left
            ·
             intro w'
             go_simp
             with_reducible rfl
            rotate_left
            ·
             simp only [Act.put, l1, l2, l3, i64_w, i32_w]
             rfl
            refine pure_ (i := 1) (N := some 19) (v := ?_) (a' := ?_) #[tt,tt,ff,ff,ff,ff,ff,ff,ff,ff,ff,ff,ff,ff,ff,ff,ff,ff,ff,ff,ff,ff,ff,ff,ff,ff,ff,ff,ff,ff,ff,ff,ff,ff] rfl rfl (any_of HT_.out (by kernel_rfl)) (fun _ _ _ h => h) (Or.inl ⟨by rfl, ?_⟩) ?_ ?_
            rotate_left
            ·
             intro w'
             go_simp
             with_reducible rfl
            rotate_left
            ·
             simp only [Act.put, l1, l2, l3, i64_w, i32_w]
             rfl
            refine pure_ (i := 2) (N := some 20) (v := ?_) (a' := ?_) #[tt,tt,tt,ff,ff,ff,ff,ff,ff,ff,ff,ff,ff,ff,ff,ff,ff,ff,ff,ff,ff,ff,ff,ff,ff,ff,ff,ff,ff,ff,ff,ff,ff,ff] rfl rfl (any_of HT_.out (by kernel_rfl)) (fun _ _ _ h => h) (Or.inl ⟨by rfl, ?_⟩) ?_ ?_
            rotate_left
            ·
             intro w'
             go_simp
             with_reducible rfl
            rotate_left
            ·
             simp only [Act.put, l1, l2, l3, i64_w, i32_w]
             rfl
            refine pure_ (i := 4) (N := some 22) (v := ?_) (a' := ?_) #[tt,tt,tt,ff,tt,ff,ff,ff,ff,ff,ff,ff,ff,ff,ff,ff,ff,ff,ff,ff,ff,ff,ff,ff,ff,ff,ff,ff,ff,ff,ff,ff,ff,ff] rfl rfl (any_of HT_.out (by kernel_rfl)) (fun _ _ _ h => h) (Or.inl ⟨by rfl, ?_⟩) ?_ ?_
            rotate_left
            ·
             intro w'
             go_simp
             with_reducible rfl
            rotate_left
            ·
             simp only [Act.put, l1, l2, l3, i64_w, i32_w]
             rfl
            refine pure_ (i := 6) (N := some 24) (v := ?_) (a' := ?_) #[tt,tt,tt,ff,tt,ff,tt,ff,ff,ff,ff,ff,ff,ff,ff,ff,ff,ff,ff,ff,ff,ff,ff,ff,ff,ff,ff,ff,ff,ff,ff,ff,ff,ff] rfl rfl (any_of HT_.out (by kernel_rfl)) (fun _ _ _ h => h) (Or.inl ⟨by rfl, ?_⟩) ?_ ?_
            rotate_left
            ·
             intro w'
             go_simp
             with_reducible rfl
            rotate_left
            ·
             simp only [Act.put, l1, l2, l3, i64_w, i32_w]
             rfl
            refine pure_ (i := 10) (N := some 28) (v := ?_) (a' := ?_) #[tt,tt,tt,ff,tt,ff,tt,ff,ff,ff,tt,ff,ff,ff,ff,ff,ff,ff,ff,ff,ff,ff,ff,ff,ff,ff,ff,ff,ff,ff,ff,ff,ff,ff] rfl rfl (any_of HT_.out (by kernel_rfl)) (fun _ _ _ h => h) (Or.inl ⟨by rfl, ?_⟩) ?_ ?_
            rotate_left
            ·
             intro w'
             go_simp
             with_reducible rfl
            rotate_left
            ·
             simp only [Act.put, l1, l2, l3, i64_w, i32_w]
             rfl
            refine pure_ (i := 12) (N := some 30) (v := ?_) (a' := ?_) #[tt,tt,tt,ff,tt,ff,tt,ff,ff,ff,tt,ff,tt,ff,ff,ff,ff,ff,ff,ff,ff,ff,ff,ff,ff,ff,ff,ff,ff,ff,ff,ff,ff,ff] rfl rfl (any_of HT_.out (by kernel_rfl)) (fun _ _ _ h => h) (Or.inl ⟨by rfl, ?_⟩) ?_ ?_
            rotate_left
            ·
             intro w'
             go_simp
             with_reducible rfl
            rotate_left
            ·
             simp only [Act.put, l1, l2, l3, i64_w, i32_w]
             rfl
            refine take_ (i := 3) (N := some 21) (v := ?_) (a' := ?_) #[tt,tt,tt,tt,tt,ff,tt,ff,ff,ff,tt,ff,tt,ff,ff,ff,ff,ff,ff,ff,ff,ff,ff,ff,ff,ff,ff,ff,ff,ff,ff,ff,ff,ff] rfl rfl (take_ofW HT_.out HW_.out (by kernel_rfl)) (fun _ _ _ h => h) (Or.inl ⟨by rfl, ?_⟩) hHeld ?_ ?_
            rotate_left
            ·
             rintro w' ⟨s0, s1, s2, s3, s4, s5, s6, s7⟩
             go_simp
             with_reducible rfl
            rotate_left
            ·
             simp only [Act.put, l1, l2, l3, i64_w, i32_w]
             rfl
            refine take_ (i := 5) (N := some 23) (v := ?_) (a' := ?_) #[tt,tt,tt,tt,tt,tt,tt,ff,ff,ff,tt,ff,tt,ff,ff,ff,ff,ff,ff,ff,ff,ff,ff,ff,ff,ff,ff,ff,ff,ff,ff,ff,ff,ff] rfl rfl (take_ofW HT_.out HW_.out (by kernel_rfl)) (fun _ _ _ h => h) (Or.inl ⟨by rfl, ?_⟩) hHeld ?_ ?_
            rotate_left
            ·
             rintro w' ⟨s0, s1, s2, s3, s4, s5, s6, s7⟩
             go_simp
             with_reducible rfl
            rotate_left
            ·
             simp only [Act.put, l1, l2, l3, i64_w, i32_w]
             rfl
            refine pure_ (i := 7) (N := some 25) (v := ?_) (a' := ?_) #[tt,tt,tt,tt,tt,tt,tt,tt,ff,ff,tt,ff,tt,ff,ff,ff,ff,ff,ff,ff,ff,ff,ff,ff,ff,ff,ff,ff,ff,ff,ff,ff,ff,ff] rfl rfl (any_of HT_.out (by kernel_rfl)) (fun _ _ _ h => h) (Or.inl ⟨by rfl, ?_⟩) ?_ ?_
            rotate_left
            ·
             intro w'
             go_simp
             with_reducible rfl
            rotate_left
            ·
             simp only [Act.put, l1, l2, l3, i64_w, i32_w]
             rfl
            refine pure_ (i := 8) (N := some 26) (v := ?_) (a' := ?_) #[tt,tt,tt,tt,tt,tt,tt,tt,tt,ff,tt,ff,tt,ff,ff,ff,ff,ff,ff,ff,ff,ff,ff,ff,ff,ff,ff,ff,ff,ff,ff,ff,ff,ff] rfl rfl (any_of HT_.out (by kernel_rfl)) (fun _ _ _ h => h) (Or.inl ⟨by rfl, ?_⟩) ?_ ?_
            rotate_left
            ·
             intro w'
             go_simp
             with_reducible rfl
            rotate_left
            ·
             simp only [Act.put, l1, l2, l3, i64_w, i32_w]
             rfl
            refine take_ (i := 9) (N := some 27) (v := ?_) (a' := ?_) #[tt,tt,tt,tt,tt,tt,tt,tt,tt,tt,tt,ff,tt,ff,ff,ff,ff,ff,ff,ff,ff,ff,ff,ff,ff,ff,ff,ff,ff,ff,ff,ff,ff,ff] rfl rfl (take_ofW HT_.out HW_.out (by kernel_rfl)) (fun _ _ _ h => h) (Or.inl ⟨by rfl, ?_⟩) hHeld ?_ ?_
            rotate_left
            ·
             rintro w' ⟨s0, s1, s2, s3, s4, s5, s6, s7⟩
             go_simp
             with_reducible rfl
            rotate_left
            ·
             simp only [Act.put, l1, l2, l3, i64_w, i32_w]
             rfl
            refine take_ (i := 11) (N := some 29) (v := ?_) (a' := ?_) #[tt,tt,tt,tt,tt,tt,tt,tt,tt,tt,tt,tt,tt,ff,ff,ff,ff,ff,ff,ff,ff,ff,ff,ff,ff,ff,ff,ff,ff,ff,ff,ff,ff,ff] rfl rfl (take_ofW HT_.out HW_.out (by kernel_rfl)) (fun _ _ _ h => h) (Or.inl ⟨by rfl, ?_⟩) hHeld ?_ ?_
            rotate_left
            ·
             rintro w' ⟨s0, s1, s2, s3, s4, s5, s6, s7⟩
             go_simp
             with_reducible rfl
            rotate_left
            ·
             simp only [Act.put, l1, l2, l3, i64_w, i32_w]
             rfl
            refine pure_ (i := 13) (N := some 31) (v := ?_) (a' := ?_) #[tt,tt,tt,tt,tt,tt,tt,tt,tt,tt,tt,tt,tt,tt,ff,ff,ff,ff,ff,ff,ff,ff,ff,ff,ff,ff,ff,ff,ff,ff,ff,ff,ff,ff] rfl rfl (any_of HT_.out (by kernel_rfl)) (fun _ _ _ h => h) (Or.inl ⟨by rfl, ?_⟩) ?_ ?_
            rotate_left
            ·
             intro w'
             go_simp
             with_reducible rfl
            rotate_left
            ·
             simp only [Act.put, l1, l2, l3, i64_w, i32_w]
             rfl
            refine pure_ (i := 14) (N := some 32) (v := ?_) (a' := ?_) #[tt,tt,tt,tt,tt,tt,tt,tt,tt,tt,tt,tt,tt,tt,tt,ff,ff,ff,ff,ff,ff,ff,ff,ff,ff,ff,ff,ff,ff,ff,ff,ff,ff,ff] rfl rfl (any_of HT_.out (by kernel_rfl)) (fun _ _ _ h => h) (Or.inl ⟨by rfl, ?_⟩) ?_ ?_
            rotate_left
            ·
             intro w'
             go_simp
             with_reducible rfl
            rotate_left
            ·
             simp only [Act.put, l1, l2, l3, i64_w, i32_w]
             rfl
            refine take_ (i := 15) (N := some 33) (v := ?_) (a' := ?_) #[tt,tt,tt,tt,tt,tt,tt,tt,tt,tt,tt,tt,tt,tt,tt,tt,ff,ff,ff,ff,ff,ff,ff,ff,ff,ff,ff,ff,ff,ff,ff,ff,ff,ff] rfl rfl (take_ofW HT_.out HW_.out (by kernel_rfl)) (fun _ _ _ h => h) (Or.inl ⟨by rfl, ?_⟩) hHeld ?_ ?_
            rotate_left
            ·
             rintro w' ⟨s0, s1, s2, s3, s4, s5, s6, s7⟩
             go_simp
             with_reducible rfl
            rotate_left
            ·
             simp only [Act.put, l1, l2, l3, i64_w, i32_w]
             rfl
            refine one_ (i := 16) (N := some 34) #[tt,tt,tt,tt,tt,tt,tt,tt,tt,tt,tt,tt,tt,tt,tt,tt,tt,ff,ff,ff,ff,ff,ff,ff,ff,ff,ff,ff,ff,ff,ff,ff,ff,ff] rfl rfl (one_of HT_.out (by kernel_rfl)) (by decide) (fun K hK => ?_)
            refine goes_ Try.func40 (by kernel_rfl) rfl #[.int .i64 (rd l1 x5_1), .int .i64 ((rd_T54 l0_0 x5_1).f0), .int .i64 ((rd_T54 l0_0 x5_1).f1)] (by rfl) rfl rfl (by (try simp only [List.map_toArray, List.map_cons, List.map_nil]); first | done | rfl | (simp only [List.length_drop, List.length_take]; rfl)) ?_
            with_reducible refine (tensileref05_In.calls (rd l1 x5_1) ((rd_T54 l0_0 x5_1).f0) ((rd_T54 l0_0 x5_1).f1) true _ A9.out).mono ?_
            rintro e w' ⟨rfl, ⟨nd, rfl⟩⟩
            refine ⟨_, rfl, ?_⟩
            refine hK.out _ _ ⟨(b4 BK162.out 0).trans rfl, ((HB.out.cell (World.block_lt_of_cell? w _ hw163_0)).trans hw163_0), ((HB.out.cell (World.block_lt_of_cell? w _ hw164_0)).trans hw164_0), ((HB.out.cell (World.block_lt_of_cell? w _ hw164_1)).trans hw164_1), ((HB.out.cell (World.block_lt_of_cell? w _ hw165_0)).trans hw165_0), ((HB.out.cell (World.block_lt_of_cell? w _ hw165_1)).trans hw165_1), ((HB.out.cell (World.block_lt_of_cell? w _ hw167_0)).trans hw167_0), ((HB.out.cell (World.block_lt_of_cell? w _ hw168_0)).trans hw168_0)⟩ (fun hHeld => ?_)
            clear hK K
            refine norm_ (a' := ?_) ?_ ?_
            rotate_left
            ·
             show Act.put _ (some 34) _ = _
             simp only [Act.put, l1, l2, l3, i64_w, i32_w]
             rfl
            refine pure_ (i := 17) (N := some 35) (v := ?_) (a' := ?_) #[tt,tt,tt,tt,tt,tt,tt,tt,tt,tt,tt,tt,tt,tt,tt,tt,tt,tt,ff,ff,ff,ff,ff,ff,ff,ff,ff,ff,ff,ff,ff,ff,ff,ff] rfl rfl (any_of HT_.out (by kernel_rfl)) (fun _ _ _ h => h) (Or.inl ⟨by rfl, ?_⟩) ?_ ?_
            rotate_left
            ·
             intro w'
             go_simp
             with_reducible rfl
            rotate_left
            ·
             simp only [Act.put, l1, l2, l3, i64_w, i32_w]
             rfl
            refine pure_ (i := 18) (N := some 36) (v := ?_) (a' := ?_) #[tt,tt,tt,tt,tt,tt,tt,tt,tt,tt,tt,tt,tt,tt,tt,tt,tt,tt,tt,ff,ff,ff,ff,ff,ff,ff,ff,ff,ff,ff,ff,ff,ff,ff] rfl rfl (any_of HT_.out (by kernel_rfl)) (fun _ _ _ h => h) (Or.inl ⟨by rfl, ?_⟩) ?_ ?_
            rotate_left
            ·
             intro w'
             go_simp
             with_reducible rfl
            rotate_left
            ·
             simp only [Act.put, l1, l2, l3, i64_w, i32_w]
             rfl
            refine pure_ (i := 19) (N := some 37) (v := ?_) (a' := ?_) #[tt,tt,tt,tt,tt,tt,tt,tt,tt,tt,tt,tt,tt,tt,tt,tt,tt,tt,tt,tt,ff,ff,ff,ff,ff,ff,ff,ff,ff,ff,ff,ff,ff,ff] rfl rfl (any_of HT_.out (by kernel_rfl)) (fun _ _ _ h => h) (Or.inl ⟨by rfl, ?_⟩) ?_ ?_
            rotate_left
            ·
             intro w'
             go_simp
             with_reducible rfl
            rotate_left
            ·
             simp only [Act.put, l1, l2, l3, i64_w, i32_w]
             rfl
            refine pure_ (i := 20) (N := some 38) (v := ?_) (a' := ?_) #[tt,tt,tt,tt,tt,tt,tt,tt,tt,tt,tt,tt,tt,tt,tt,tt,tt,tt,tt,tt,tt,ff,ff,ff,ff,ff,ff,ff,ff,ff,ff,ff,ff,ff] rfl rfl (any_of HT_.out (by kernel_rfl)) (fun _ _ _ h => h) (Or.inl ⟨by rfl, ?_⟩) ?_ ?_
            rotate_left
            ·
             intro w'
             go_simp
             with_reducible rfl
            rotate_left
            ·
             simp only [Act.put, l1, l2, l3, i64_w, i32_w]
             rfl
            refine pure_ (i := 21) (N := some 39) (v := ?_) (a' := ?_) #[tt,tt,tt,tt,tt,tt,tt,tt,tt,tt,tt,tt,tt,tt,tt,tt,tt,tt,tt,tt,tt,tt,ff,ff,ff,ff,ff,ff,ff,ff,ff,ff,ff,ff] rfl rfl (any_of HT_.out (by kernel_rfl)) (fun _ _ _ h => h) (Or.inl ⟨by rfl, ?_⟩) ?_ ?_
            rotate_left
            ·
             intro w'
             go_simp
             with_reducible rfl
            rotate_left
            ·
             simp only [Act.put, l1, l2, l3, i64_w, i32_w]
             rfl
            refine pure_ (i := 22) (N := some 40) (v := ?_) (a' := ?_) #[tt,tt,tt,tt,tt,tt,tt,tt,tt,tt,tt,tt,tt,tt,tt,tt,tt,tt,tt,tt,tt,tt,tt,ff,ff,ff,ff,ff,ff,ff,ff,ff,ff,ff] rfl rfl (any_of HT_.out (by kernel_rfl)) (fun _ _ _ h => h) (Or.inl ⟨by rfl, ?_⟩) ?_ ?_
            rotate_left
            ·
             intro w'
             go_simp
             with_reducible rfl
            rotate_left
            ·
             simp only [Act.put, l1, l2, l3, i64_w, i32_w]
             rfl
            refine pure_ (i := 23) (N := some 41) (v := ?_) (a' := ?_) #[tt,tt,tt,tt,tt,tt,tt,tt,tt,tt,tt,tt,tt,tt,tt,tt,tt,tt,tt,tt,tt,tt,tt,tt,ff,ff,ff,ff,ff,ff,ff,ff,ff,ff] rfl rfl (any_of HT_.out (by kernel_rfl)) (fun _ _ _ h => h) (Or.inl ⟨by rfl, ?_⟩) ?_ ?_
            rotate_left
            ·
             intro w'
             go_simp
             with_reducible rfl
            rotate_left
            ·
             simp only [Act.put, l1, l2, l3, i64_w, i32_w]
             rfl
            refine pure_ (i := 24) (N := some 42) (v := ?_) (a' := ?_) #[tt,tt,tt,tt,tt,tt,tt,tt,tt,tt,tt,tt,tt,tt,tt,tt,tt,tt,tt,tt,tt,tt,tt,tt,tt,ff,ff,ff,ff,ff,ff,ff,ff,ff] rfl rfl (any_of HT_.out (by kernel_rfl)) (fun _ _ _ h => h) (Or.inl ⟨by rfl, ?_⟩) ?_ ?_
            rotate_left
            ·
             intro w'
             go_simp
             with_reducible rfl
            rotate_left
            ·
             simp only [Act.put, l1, l2, l3, i64_w, i32_w]
             rfl
            refine pure_ (i := 26) (N := some 44) (v := ?_) (a' := ?_) #[tt,tt,tt,tt,tt,tt,tt,tt,tt,tt,tt,tt,tt,tt,tt,tt,tt,tt,tt,tt,tt,tt,tt,tt,tt,ff,tt,ff,ff,ff,ff,ff,ff,ff] rfl rfl (any_of HT_.out (by kernel_rfl)) (fun _ _ _ h => h) (Or.inl ⟨by rfl, ?_⟩) ?_ ?_
            rotate_left
            ·
             intro w'
             go_simp
             with_reducible rfl
            rotate_left
            ·
             simp only [Act.put, l1, l2, l3, i64_w, i32_w]
             rfl
            refine pure_ (i := 27) (N := some 45) (v := ?_) (a' := ?_) #[tt,tt,tt,tt,tt,tt,tt,tt,tt,tt,tt,tt,tt,tt,tt,tt,tt,tt,tt,tt,tt,tt,tt,tt,tt,ff,tt,tt,ff,ff,ff,ff,ff,ff] rfl rfl (any_of HT_.out (by kernel_rfl)) (fun _ _ _ h => h) (Or.inl ⟨by rfl, ?_⟩) ?_ ?_
            rotate_left
            ·
             intro w'
             go_simp
             with_reducible rfl
            rotate_left
            ·
             simp only [Act.put, l1, l2, l3, i64_w, i32_w]
             rfl
            refine pure_ (i := 28) (N := some 46) (v := ?_) (a' := ?_) #[tt,tt,tt,tt,tt,tt,tt,tt,tt,tt,tt,tt,tt,tt,tt,tt,tt,tt,tt,tt,tt,tt,tt,tt,tt,ff,tt,tt,tt,ff,ff,ff,ff,ff] rfl rfl (any_of HT_.out (by kernel_rfl)) (fun _ _ _ h => h) (Or.inl ⟨by rfl, ?_⟩) ?_ ?_
            rotate_left
            ·
             intro w'
             go_simp
             with_reducible rfl
            rotate_left
            ·
             simp only [Act.put, l1, l2, l3, i64_w, i32_w]
             rfl
            refine pure_ (i := 29) (N := some 47) (v := ?_) (a' := ?_) #[tt,tt,tt,tt,tt,tt,tt,tt,tt,tt,tt,tt,tt,tt,tt,tt,tt,tt,tt,tt,tt,tt,tt,tt,tt,ff,tt,tt,tt,tt,ff,ff,ff,ff] rfl rfl (any_of HT_.out (by kernel_rfl)) (fun _ _ _ h => h) (Or.inl ⟨by rfl, ?_⟩) ?_ ?_
            rotate_left
            ·
             intro w'
             go_simp
             with_reducible rfl
            rotate_left
            ·
             simp only [Act.put, l1, l2, l3, i64_w, i32_w]
             rfl
            refine take_ (i := 25) (N := some 43) (v := ?_) (a' := ?_) #[tt,tt,tt,tt,tt,tt,tt,tt,tt,tt,tt,tt,tt,tt,tt,tt,tt,tt,tt,tt,tt,tt,tt,tt,tt,tt,tt,tt,tt,tt,ff,ff,ff,ff] rfl rfl (take_ofW HT_.out HW_.out (by kernel_rfl)) (fun _ _ _ h => h) (Or.inl ⟨by rfl, ?_⟩) hHeld ?_ ?_
            rotate_left
            ·
             rintro w' ⟨s0, s1, s2, s3, s4, s5, s6, s7⟩
             go_simp
             with_reducible rfl
            rotate_left
            ·
             simp only [Act.put, l1, l2, l3, i64_w, i32_w]
             rfl
            refine take_ (i := 30) (N := some 48) (v := ?_) (a' := ?_) #[tt,tt,tt,tt,tt,tt,tt,tt,tt,tt,tt,tt,tt,tt,tt,tt,tt,tt,tt,tt,tt,tt,tt,tt,tt,tt,tt,tt,tt,tt,tt,ff,ff,ff] rfl rfl (take_ofW HT_.out HW_.out (by kernel_rfl)) (fun _ _ _ h => h) (Or.inl ⟨by rfl, ?_⟩) hHeld ?_ ?_
            rotate_left
            ·
             rintro w' ⟨s0, s1, s2, s3, s4, s5, s6, s7⟩
             go_simp
             with_reducible rfl
            rotate_left
            ·
             simp only [Act.put, l1, l2, l3, i64_w, i32_w]
             rfl
            refine pure_ (i := 31) (N := some 49) (v := ?_) (a' := ?_) #[tt,tt,tt,tt,tt,tt,tt,tt,tt,tt,tt,tt,tt,tt,tt,tt,tt,tt,tt,tt,tt,tt,tt,tt,tt,tt,tt,tt,tt,tt,tt,tt,ff,ff] rfl rfl (any_of HT_.out (by kernel_rfl)) (fun _ _ _ h => h) (Or.inl ⟨by rfl, ?_⟩) ?_ ?_
            rotate_left
            ·
             intro w'
             go_simp
             with_reducible rfl
            rotate_left
            ·
             simp only [Act.put, l1, l2, l3, i64_w, i32_w]
             rfl
            refine pure_ (i := 32) (N := some 50) (v := ?_) (a' := ?_) #[tt,tt,tt,tt,tt,tt,tt,tt,tt,tt,tt,tt,tt,tt,tt,tt,tt,tt,tt,tt,tt,tt,tt,tt,tt,tt,tt,tt,tt,tt,tt,tt,tt,ff] rfl rfl (any_of HT_.out (by kernel_rfl)) (fun _ _ _ h => h) (Or.inl ⟨by rfl, ?_⟩) ?_ ?_
            rotate_left
            ·
             intro w'
             go_simp
             with_reducible rfl
            rotate_left
            ·
             simp only [Act.put, l1, l2, l3, i64_w, i32_w]
             rfl
            refine pure_ (i := 33) (N := some 51) (v := ?_) (a' := ?_) #[tt,tt,tt,tt,tt,tt,tt,tt,tt,tt,tt,tt,tt,tt,tt,tt,tt,tt,tt,tt,tt,tt,tt,tt,tt,tt,tt,tt,tt,tt,tt,tt,tt,tt] rfl rfl (any_of HT_.out (by kernel_rfl)) (fun _ _ _ h => h) (Or.inl ⟨by rfl, ?_⟩) ?_ ?_
            rotate_left
            ·
             intro w'
             go_simp
             with_reducible rfl
            rotate_left
            ·
             simp only [Act.put, l1, l2, l3, i64_w, i32_w]
             rfl
            refine done_ (done_of HT_.out (by kernel_rfl)) ?_
            try go_wp2
            go_roundg k1
            case measure => have := HK1.out; omega
            case rel => exact ⟨(wrap64 (x5_1 + 1)), (by first | rfl | (simp; done) | (simp [*]; done)), H', ⟨by have := HK1.out; omega⟩, ⟨by (with_reducible repeat (first | refine b0 ?_ _ | refine b1 ?_ | refine b2 ?_ _)); exact BK162.out⟩, ⟨by repeat (first | (with_reducible first | exact HB.out | apply b8 | apply b6 | apply b7 | refine b3 ?_ GE162.out) | exact HB.out)⟩⟩
          ·
           rw [if_neg c14] at H
           exact absurd H (by simp)
         ·
          rw [if_neg c13] at H
          exact absurd H (by simp)
        ·
         rw [if_neg c11] at H
         have c11b0 : decide (0 < x5_1) = false := decide_eq_false c11
         clear c11
         have H' := Aside0.mk H
         clear H
         try go_wp2
         have n0_ := Aside0.mk (b1 BK162.out)
         have n1_ := Aside0.mk (b7 HB.out)
         clear BK162
         clear HB
         have BK162 := n0_
         have HB := n1_
         clear n0_ n1_
         have p163 : 0 ≤ (x5_1 : Int) := of_decide_eq_true (by first | (with_reducible assumption) | assumption)
         have q163 : x5_1 < (l1.length : Int) := of_decide_eq_true (by first | (with_reducible assumption) | assumption)
         obtain ⟨ad163, e163, hx163_0⟩ := Kd.at_int HR1.out x5_1 p163 q163
         have hw163_0 := hx163_0
         cases e163
         replace hx163_0 := (HB.out.cell (World.block_lt_of_cell? w _ hx163_0)).trans hx163_0
         replace p163 := eq_true p163
         replace q163 := eq_true q163
         have p164 : 0 ≤ (x5_1 : Int) := of_decide_eq_true (by first | (with_reducible assumption) | assumption)
         have q164 : x5_1 < (l0_0.length : Int) := of_decide_eq_true (by first | (with_reducible assumption) | assumption)
         obtain ⟨ad164, e164, hx164_0, hx164_1⟩ := at_T54 HR0_0.out x5_1 p164 q164
         have hw164_1 := hx164_1
         have hw164_0 := hx164_0
         cases e164
         replace hx164_0 := (HB.out.cell (World.block_lt_of_cell? w _ hx164_0)).trans hx164_0
         replace hx164_1 := (HB.out.cell (World.block_lt_of_cell? w _ hx164_1)).trans hx164_1
         replace p164 := eq_true p164
         replace q164 := eq_true q164
         have p165 : 0 ≤ (x5_1 : Int) := of_decide_eq_true (by first | (with_reducible assumption) | assumption)
         have q165 : x5_1 < (l0_0.length : Int) := of_decide_eq_true (by first | (with_reducible assumption) | assumption)
         obtain ⟨ad165, e165, hx165_0, hx165_1⟩ := at_T54 HR0_0.out x5_1 p165 q165
         have hw165_1 := hx165_1
         have hw165_0 := hx165_0
         obtain rfl : ad164 = ad165 := (by injection e165)
         replace hx165_0 := (HB.out.cell (World.block_lt_of_cell? w _ hx165_0)).trans hx165_0
         replace hx165_1 := (HB.out.cell (World.block_lt_of_cell? w _ hx165_1)).trans hx165_1
         replace p165 := eq_true p165
         replace q165 := eq_true q165
         refine start_ (n := 34) (S := fun w' => w'.cell? ⟨gb162, 0, none⟩ = some (.slice (some ad164) l0_0.length c0_0) ∧ w'.cell? (ad163.add (x5_1).toNat) = some (.int .i64 (rd l1 x5_1)) ∧ w'.cell? (ad164.add ((x5_1).toNat * 2)) = some (.int .i64 ((rd_T54 l0_0 x5_1).f0)) ∧ w'.cell? ⟨(ad164.add ((x5_1).toNat * 2)).block, (ad164.add ((x5_1).toNat * 2)).off + 1, none⟩ = some (.int .i64 ((rd_T54 l0_0 x5_1).f1)) ∧ w'.cell? (ad164.add ((x5_1).toNat * 2)) = some (.int .i64 ((rd_T54 l0_0 x5_1).f0)) ∧ w'.cell? ⟨(ad164.add ((x5_1).toNat * 2)).block, (ad164.add ((x5_1).toNat * 2)).off + 1, none⟩ = some (.int .i64 ((rd_T54 l0_0 x5_1).f1))) (ds := []) #[ff,ff,ff,ff,ff,ff,ff,ff,ff,ff,ff,ff,ff,ff,ff,ff,ff,ff,ff,ff,ff,ff,ff,ff,ff,ff,ff,ff,ff,ff,ff,ff,ff,ff] (by kernel_rfl) rfl rfl ⟨(b4 BK162.out 0).trans rfl, ((HB.out.cell (World.block_lt_of_cell? w _ hw163_0)).trans hw163_0), ((HB.out.cell (World.block_lt_of_cell? w _ hw164_0)).trans hw164_0), ((HB.out.cell (World.block_lt_of_cell? w _ hw164_1)).trans hw164_1), ((HB.out.cell (World.block_lt_of_cell? w _ hw165_0)).trans hw165_0), ((HB.out.cell (World.block_lt_of_cell? w _ hw165_1)).trans hw165_1)⟩ (fun hHeld => ?_); refine with_tabW tensileref05_AreRates.tab6 tensileref05_AreRates.bits6 (fun HT_ HW_ => ?_)
         generalize wr.drew = w18 at BK162 HB hx163_0 hx164_0 hx164_1 hx165_0 hx165_1 hHeld ⊢
         refine pure_ (i := 0) (N := some 18) (v := ?_) (a' := ?_) #[tt,ff,ff,ff,ff,ff,ff,ff,ff,ff,ff,ff,ff,ff,ff,ff,ff,ff,ff,ff,ff,ff,ff,ff,ff,ff,ff,ff,ff,ff,ff,ff,ff,ff] rfl rfl (any_of HT_.out (by kernel_rfl)) (fun _ _ _ h => h) (Or.inl ⟨by rfl, ?_⟩) ?_ ?_
         rotate_left
         ·
          intro w'
          go_simp
          with_reducible rfl
         rotate_left
         ·
          simp only [Act.put, l1, l2, l3, i64_w, i32_w]
          rfl
         refine pure_ (i := 1) (N := some 19) (v := ?_) (a' := ?_) #[tt,tt,ff,ff,ff,ff,ff,ff,ff,ff,ff,ff,ff,ff,ff,ff,ff,ff,ff,ff,ff,ff,ff,ff,ff,ff,ff,ff,ff,ff,ff,ff,ff,ff] rfl rfl (any_of HT_.out (by kernel_rfl)) (fun _ _ _ h => h) (Or.inl ⟨by rfl, ?_⟩) ?_ ?_
         rotate_left
         ·
          intro w'
          go_simp
          with_reducible rfl
         rotate_left
         ·
          simp only [Act.put, l1, l2, l3, i64_w, i32_w]
          rfl
         refine pure_ (i := 2) (N := some 20) (v := ?_) (a' := ?_) #[tt,tt,tt,ff,ff,ff,ff,ff,ff,ff,ff,ff,ff,ff,ff,ff,ff,ff,ff,ff,ff,ff,ff,ff,ff,ff,ff,ff,ff,ff,ff,ff,ff,ff] rfl rfl (any_of HT_.out (by kernel_rfl)) (fun _ _ _ h => h) (Or.inl ⟨by rfl, ?_⟩) ?_ ?_
         rotate_left
         ·
          intro w'
          go_simp
          with_reducible rfl
         rotate_left
         ·
          simp only [Act.put, l1, l2, l3, i64_w, i32_w]
          rfl
         refine pure_ (i := 4) (N := some 22) (v := ?_) (a' := ?_) #[tt,tt,tt,ff,tt,ff,ff,ff,ff,ff,ff,ff,ff,ff,ff,ff,ff,ff,ff,ff,ff,ff,ff,ff,ff,ff,ff,ff,ff,ff,ff,ff,ff,ff] rfl rfl (any_of HT_.out (by kernel_rfl)) (fun _ _ _ h => h) (Or.inl ⟨by rfl, ?_⟩) ?_ ?_
         rotate_left
         ·
          intro w'
          go_simp
          with_reducible rfl
         rotate_left
         ·
          simp only [Act.put, l1, l2, l3, i64_w, i32_w]
          rfl
         refine pure_ (i := 6) (N := some 24) (v := ?_) (a' := ?_) #[tt,tt,tt,ff,tt,ff,tt,ff,ff,ff,ff,ff,ff,ff,ff,ff,ff,ff,ff,ff,ff,ff,ff,ff,ff,ff,ff,ff,ff,ff,ff,ff,ff,ff] rfl rfl (any_of HT_.out (by kernel_rfl)) (fun _ _ _ h => h) (Or.inl ⟨by rfl, ?_⟩) ?_ ?_
         rotate_left
         ·
          intro w'
          go_simp
          with_reducible rfl
         rotate_left
         ·
          simp only [Act.put, l1, l2, l3, i64_w, i32_w]
          rfl
         refine pure_ (i := 10) (N := some 28) (v := ?_) (a' := ?_) #[tt,tt,tt,ff,tt,ff,tt,ff,ff,ff,tt,ff,ff,ff,ff,ff,ff,ff,ff,ff,ff,ff,ff,ff,ff,ff,ff,ff,ff,ff,ff,ff,ff,ff] rfl rfl (any_of HT_.out (by kernel_rfl)) (fun _ _ _ h => h) (Or.inl ⟨by rfl, ?_⟩) ?_ ?_
         rotate_left
         ·
          intro w'
          go_simp
          with_reducible rfl
         rotate_left
         ·
          simp only [Act.put, l1, l2, l3, i64_w, i32_w]
          rfl
         refine pure_ (i := 12) (N := some 30) (v := ?_) (a' := ?_) #[tt,tt,tt,ff,tt,ff,tt,ff,ff,ff,tt,ff,tt,ff,ff,ff,ff,ff,ff,ff,ff,ff,ff,ff,ff,ff,ff,ff,ff,ff,ff,ff,ff,ff] rfl rfl (any_of HT_.out (by kernel_rfl)) (fun _ _ _ h => h) (Or.inl ⟨by rfl, ?_⟩) ?_ ?_
         rotate_left
         ·
          intro w'
          go_simp
          with_reducible rfl
         rotate_left
         ·
          simp only [Act.put, l1, l2, l3, i64_w, i32_w]
          rfl
         refine take_ (i := 3) (N := some 21) (v := ?_) (a' := ?_) #[tt,tt,tt,tt,tt,ff,tt,ff,ff,ff,tt,ff,tt,ff,ff,ff,ff,ff,ff,ff,ff,ff,ff,ff,ff,ff,ff,ff,ff,ff,ff,ff,ff,ff] rfl rfl (take_ofW HT_.out HW_.out (by kernel_rfl)) (fun _ _ _ h => h) (Or.inl ⟨by rfl, ?_⟩) hHeld ?_ ?_
         rotate_left
         ·
          rintro w' ⟨s0, s1, s2, s3, s4, s5⟩
          go_simp
          with_reducible rfl
         rotate_left
         ·
          simp only [Act.put, l1, l2, l3, i64_w, i32_w]
          rfl
         refine take_ (i := 5) (N := some 23) (v := ?_) (a' := ?_) #[tt,tt,tt,tt,tt,tt,tt,ff,ff,ff,tt,ff,tt,ff,ff,ff,ff,ff,ff,ff,ff,ff,ff,ff,ff,ff,ff,ff,ff,ff,ff,ff,ff,ff] rfl rfl (take_ofW HT_.out HW_.out (by kernel_rfl)) (fun _ _ _ h => h) (Or.inl ⟨by rfl, ?_⟩) hHeld ?_ ?_
         rotate_left
         ·
          rintro w' ⟨s0, s1, s2, s3, s4, s5⟩
          go_simp
          with_reducible rfl
         rotate_left
         ·
          simp only [Act.put, l1, l2, l3, i64_w, i32_w]
          rfl
         refine pure_ (i := 7) (N := some 25) (v := ?_) (a' := ?_) #[tt,tt,tt,tt,tt,tt,tt,tt,ff,ff,tt,ff,tt,ff,ff,ff,ff,ff,ff,ff,ff,ff,ff,ff,ff,ff,ff,ff,ff,ff,ff,ff,ff,ff] rfl rfl (any_of HT_.out (by kernel_rfl)) (fun _ _ _ h => h) (Or.inl ⟨by rfl, ?_⟩) ?_ ?_
         rotate_left
         ·
          intro w'
          go_simp
          with_reducible rfl
         rotate_left
         ·
          simp only [Act.put, l1, l2, l3, i64_w, i32_w]
          rfl
         refine pure_ (i := 8) (N := some 26) (v := ?_) (a' := ?_) #[tt,tt,tt,tt,tt,tt,tt,tt,tt,ff,tt,ff,tt,ff,ff,ff,ff,ff,ff,ff,ff,ff,ff,ff,ff,ff,ff,ff,ff,ff,ff,ff,ff,ff] rfl rfl (any_of HT_.out (by kernel_rfl)) (fun _ _ _ h => h) (Or.inl ⟨by rfl, ?_⟩) ?_ ?_
         rotate_left
         ·
          intro w'
          go_simp
          with_reducible rfl
         rotate_left
         ·
          simp only [Act.put, l1, l2, l3, i64_w, i32_w]
          rfl
         refine take_ (i := 9) (N := some 27) (v := ?_) (a' := ?_) #[tt,tt,tt,tt,tt,tt,tt,tt,tt,tt,tt,ff,tt,ff,ff,ff,ff,ff,ff,ff,ff,ff,ff,ff,ff,ff,ff,ff,ff,ff,ff,ff,ff,ff] rfl rfl (take_ofW HT_.out HW_.out (by kernel_rfl)) (fun _ _ _ h => h) (Or.inl ⟨by rfl, ?_⟩) hHeld ?_ ?_
         rotate_left
         ·
          rintro w' ⟨s0, s1, s2, s3, s4, s5⟩
          go_simp
          with_reducible rfl
         rotate_left
         ·
          simp only [Act.put, l1, l2, l3, i64_w, i32_w]
          rfl
         refine take_ (i := 11) (N := some 29) (v := ?_) (a' := ?_) #[tt,tt,tt,tt,tt,tt,tt,tt,tt,tt,tt,tt,tt,ff,ff,ff,ff,ff,ff,ff,ff,ff,ff,ff,ff,ff,ff,ff,ff,ff,ff,ff,ff,ff] rfl rfl (take_ofW HT_.out HW_.out (by kernel_rfl)) (fun _ _ _ h => h) (Or.inl ⟨by rfl, ?_⟩) hHeld ?_ ?_
         rotate_left
         ·
          rintro w' ⟨s0, s1, s2, s3, s4, s5⟩
          go_simp
          with_reducible rfl
         rotate_left
         ·
          simp only [Act.put, l1, l2, l3, i64_w, i32_w]
          rfl
         refine pure_ (i := 13) (N := some 31) (v := ?_) (a' := ?_) #[tt,tt,tt,tt,tt,tt,tt,tt,tt,tt,tt,tt,tt,tt,ff,ff,ff,ff,ff,ff,ff,ff,ff,ff,ff,ff,ff,ff,ff,ff,ff,ff,ff,ff] rfl rfl (any_of HT_.out (by kernel_rfl)) (fun _ _ _ h => h) (Or.inl ⟨by rfl, ?_⟩) ?_ ?_
         rotate_left
         ·
          intro w'
          go_simp
          with_reducible rfl
         rotate_left
         ·
          simp only [Act.put, l1, l2, l3, i64_w, i32_w]
          rfl
         refine pure_ (i := 14) (N := some 32) (v := ?_) (a' := ?_) #[tt,tt,tt,tt,tt,tt,tt,tt,tt,tt,tt,tt,tt,tt,tt,ff,ff,ff,ff,ff,ff,ff,ff,ff,ff,ff,ff,ff,ff,ff,ff,ff,ff,ff] rfl rfl (any_of HT_.out (by kernel_rfl)) (fun _ _ _ h => h) (Or.inl ⟨by rfl, ?_⟩) ?_ ?_
         rotate_left
         ·
          intro w'
          go_simp
          with_reducible rfl
         rotate_left
         ·
          simp only [Act.put, l1, l2, l3, i64_w, i32_w]
          rfl
         refine take_ (i := 15) (N := some 33) (v := ?_) (a' := ?_) #[tt,tt,tt,tt,tt,tt,tt,tt,tt,tt,tt,tt,tt,tt,tt,tt,ff,ff,ff,ff,ff,ff,ff,ff,ff,ff,ff,ff,ff,ff,ff,ff,ff,ff] rfl rfl (take_ofW HT_.out HW_.out (by kernel_rfl)) (fun _ _ _ h => h) (Or.inl ⟨by rfl, ?_⟩) hHeld ?_ ?_
         rotate_left
         ·
          rintro w' ⟨s0, s1, s2, s3, s4, s5⟩
          go_simp
          with_reducible rfl
         rotate_left
         ·
          simp only [Act.put, l1, l2, l3, i64_w, i32_w]
          rfl
         refine one_ (i := 16) (N := some 34) #[tt,tt,tt,tt,tt,tt,tt,tt,tt,tt,tt,tt,tt,tt,tt,tt,tt,ff,ff,ff,ff,ff,ff,ff,ff,ff,ff,ff,ff,ff,ff,ff,ff,ff] rfl rfl (one_of HT_.out (by kernel_rfl)) (by decide) (fun K hK => ?_)
         refine goes_ Try.func40 (by kernel_rfl) rfl #[.int .i64 (rd l1 x5_1), .int .i64 ((rd_T54 l0_0 x5_1).f0), .int .i64 ((rd_T54 l0_0 x5_1).f1)] (by rfl) rfl rfl (by (try simp only [List.map_toArray, List.map_cons, List.map_nil]); first | done | rfl | (simp only [List.length_drop, List.length_take]; rfl)) ?_
         with_reducible refine (tensileref05_In.calls (rd l1 x5_1) ((rd_T54 l0_0 x5_1).f0) ((rd_T54 l0_0 x5_1).f1) true _ A9.out).mono ?_
         rintro e w' ⟨rfl, ⟨nd, rfl⟩⟩
         refine ⟨_, rfl, ?_⟩
         refine hK.out _ _ ⟨(b4 BK162.out 0).trans rfl, ((HB.out.cell (World.block_lt_of_cell? w _ hw163_0)).trans hw163_0), ((HB.out.cell (World.block_lt_of_cell? w _ hw164_0)).trans hw164_0), ((HB.out.cell (World.block_lt_of_cell? w _ hw164_1)).trans hw164_1), ((HB.out.cell (World.block_lt_of_cell? w _ hw165_0)).trans hw165_0), ((HB.out.cell (World.block_lt_of_cell? w _ hw165_1)).trans hw165_1)⟩ (fun hHeld => ?_)
         clear hK K
         refine norm_ (a' := ?_) ?_ ?_
         rotate_left
         ·
          show Act.put _ (some 34) _ = _
          simp only [Act.put, l1, l2, l3, i64_w, i32_w]
          rfl
         refine pure_ (i := 17) (N := some 35) (v := ?_) (a' := ?_) #[tt,tt,tt,tt,tt,tt,tt,tt,tt,tt,tt,tt,tt,tt,tt,tt,tt,tt,ff,ff,ff,ff,ff,ff,ff,ff,ff,ff,ff,ff,ff,ff,ff,ff] rfl rfl (any_of HT_.out (by kernel_rfl)) (fun _ _ _ h => h) (Or.inl ⟨by rfl, ?_⟩) ?_ ?_
         rotate_left
         ·
          intro w'
          go_simp
          with_reducible rfl
         rotate_left
         ·
          simp only [Act.put, l1, l2, l3, i64_w, i32_w]
          rfl
         refine pure_ (i := 18) (N := some 36) (v := ?_) (a' := ?_) #[tt,tt,tt,tt,tt,tt,tt,tt,tt,tt,tt,tt,tt,tt,tt,tt,tt,tt,tt,ff,ff,ff,ff,ff,ff,ff,ff,ff,ff,ff,ff,ff,ff,ff] rfl rfl (any_of HT_.out (by kernel_rfl)) (fun _ _ _ h => h) (Or.inl ⟨by rfl, ?_⟩) ?_ ?_
         rotate_left
         ·
          intro w'
          go_simp
          with_reducible rfl
         rotate_left
         ·
          simp only [Act.put, l1, l2, l3, i64_w, i32_w]
          rfl
         refine pure_ (i := 19) (N := some 37) (v := ?_) (a' := ?_) #[tt,tt,tt,tt,tt,tt,tt,tt,tt,tt,tt,tt,tt,tt,tt,tt,tt,tt,tt,tt,ff,ff,ff,ff,ff,ff,ff,ff,ff,ff,ff,ff,ff,ff] rfl rfl (any_of HT_.out (by kernel_rfl)) (fun _ _ _ h => h) (Or.inl ⟨by rfl, ?_⟩) ?_ ?_
         rotate_left
         ·
          intro w'
          go_simp
          with_reducible rfl
         rotate_left
         ·
          simp only [Act.put, l1, l2, l3, i64_w, i32_w]
          rfl
         refine pure_ (i := 20) (N := some 38) (v := ?_) (a' := ?_) #[tt,tt,tt,tt,tt,tt,tt,tt,tt,tt,tt,tt,tt,tt,tt,tt,tt,tt,tt,tt,tt,ff,ff,ff,ff,ff,ff,ff,ff,ff,ff,ff,ff,ff] rfl rfl (any_of HT_.out (by kernel_rfl)) (fun _ _ _ h => h) (Or.inl ⟨by rfl, ?_⟩) ?_ ?_
         rotate_left
         ·
          intro w'
          go_simp
          with_reducible rfl
         rotate_left
         ·
          simp only [Act.put, l1, l2, l3, i64_w, i32_w]
          rfl
         refine pure_ (i := 21) (N := some 39) (v := ?_) (a' := ?_) #[tt,tt,tt,tt,tt,tt,tt,tt,tt,tt,tt,tt,tt,tt,tt,tt,tt,tt,tt,tt,tt,tt,ff,ff,ff,ff,ff,ff,ff,ff,ff,ff,ff,ff] rfl rfl (any_of HT_.out (by kernel_rfl)) (fun _ _ _ h => h) (Or.inl ⟨by rfl, ?_⟩) ?_ ?_
         rotate_left
         ·
          intro w'
          go_simp
          with_reducible rfl
         rotate_left
         ·
          simp only [Act.put, l1, l2, l3, i64_w, i32_w]
          rfl
         refine pure_ (i := 22) (N := some 40) (v := undef) (a' := ?_) #[tt,tt,tt,tt,tt,tt,tt,tt,tt,tt,tt,tt,tt,tt,tt,tt,tt,tt,tt,tt,tt,tt,tt,ff,ff,ff,ff,ff,ff,ff,ff,ff,ff,ff] rfl rfl (any_of HT_.out (by kernel_rfl)) (fun _ _ _ h => h) (Or.inr ⟨by rfl, rfl⟩) ?_ ?_
         rotate_left
         ·
          simp only [Act.put, l1, l2, l3, i64_w, i32_w]
          rfl
         refine pure_ (i := 23) (N := some 41) (v := undef) (a' := ?_) #[tt,tt,tt,tt,tt,tt,tt,tt,tt,tt,tt,tt,tt,tt,tt,tt,tt,tt,tt,tt,tt,tt,tt,tt,ff,ff,ff,ff,ff,ff,ff,ff,ff,ff] rfl rfl (any_of HT_.out (by kernel_rfl)) (fun _ _ _ h => h) (Or.inr ⟨by rfl, rfl⟩) ?_ ?_
         rotate_left
         ·
          simp only [Act.put, l1, l2, l3, i64_w, i32_w]
          rfl
         refine pure_ (i := 24) (N := some 42) (v := undef) (a' := ?_) #[tt,tt,tt,tt,tt,tt,tt,tt,tt,tt,tt,tt,tt,tt,tt,tt,tt,tt,tt,tt,tt,tt,tt,tt,tt,ff,ff,ff,ff,ff,ff,ff,ff,ff] rfl rfl (any_of HT_.out (by kernel_rfl)) (fun _ _ _ h => h) (Or.inr ⟨by rfl, rfl⟩) ?_ ?_
         rotate_left
         ·
          simp only [Act.put, l1, l2, l3, i64_w, i32_w]
          rfl
         refine pure_ (i := 25) (N := some 43) (v := undef) (a' := ?_) #[tt,tt,tt,tt,tt,tt,tt,tt,tt,tt,tt,tt,tt,tt,tt,tt,tt,tt,tt,tt,tt,tt,tt,tt,tt,tt,ff,ff,ff,ff,ff,ff,ff,ff] rfl rfl (any_of HT_.out (by kernel_rfl)) (fun _ _ _ h => h) (Or.inr ⟨by rfl, rfl⟩) ?_ ?_
         rotate_left
         ·
          simp only [Act.put, l1, l2, l3, i64_w, i32_w]
          rfl
         refine pure_ (i := 26) (N := some 44) (v := undef) (a' := ?_) #[tt,tt,tt,tt,tt,tt,tt,tt,tt,tt,tt,tt,tt,tt,tt,tt,tt,tt,tt,tt,tt,tt,tt,tt,tt,tt,tt,ff,ff,ff,ff,ff,ff,ff] rfl rfl (any_of HT_.out (by kernel_rfl)) (fun _ _ _ h => h) (Or.inr ⟨by rfl, rfl⟩) ?_ ?_
         rotate_left
         ·
          simp only [Act.put, l1, l2, l3, i64_w, i32_w]
          rfl
         refine pure_ (i := 27) (N := some 45) (v := undef) (a' := ?_) #[tt,tt,tt,tt,tt,tt,tt,tt,tt,tt,tt,tt,tt,tt,tt,tt,tt,tt,tt,tt,tt,tt,tt,tt,tt,tt,tt,tt,ff,ff,ff,ff,ff,ff] rfl rfl (any_of HT_.out (by kernel_rfl)) (fun _ _ _ h => h) (Or.inr ⟨by rfl, rfl⟩) ?_ ?_
         rotate_left
         ·
          simp only [Act.put, l1, l2, l3, i64_w, i32_w]
          rfl
         refine pure_ (i := 28) (N := some 46) (v := undef) (a' := ?_) #[tt,tt,tt,tt,tt,tt,tt,tt,tt,tt,tt,tt,tt,tt,tt,tt,tt,tt,tt,tt,tt,tt,tt,tt,tt,tt,tt,tt,tt,ff,ff,ff,ff,ff] rfl rfl (any_of HT_.out (by kernel_rfl)) (fun _ _ _ h => h) (Or.inr ⟨by rfl, rfl⟩) ?_ ?_
         rotate_left
         ·
          simp only [Act.put, l1, l2, l3, i64_w, i32_w]
          rfl
         refine pure_ (i := 29) (N := some 47) (v := undef) (a' := ?_) #[tt,tt,tt,tt,tt,tt,tt,tt,tt,tt,tt,tt,tt,tt,tt,tt,tt,tt,tt,tt,tt,tt,tt,tt,tt,tt,tt,tt,tt,tt,ff,ff,ff,ff] rfl rfl (any_of HT_.out (by kernel_rfl)) (fun _ _ _ h => h) (Or.inr ⟨by rfl, rfl⟩) ?_ ?_
         rotate_left
         ·
          simp only [Act.put, l1, l2, l3, i64_w, i32_w]
          rfl
         refine pure_ (i := 30) (N := some 48) (v := undef) (a' := ?_) #[tt,tt,tt,tt,tt,tt,tt,tt,tt,tt,tt,tt,tt,tt,tt,tt,tt,tt,tt,tt,tt,tt,tt,tt,tt,tt,tt,tt,tt,tt,tt,ff,ff,ff] rfl rfl (any_of HT_.out (by kernel_rfl)) (fun _ _ _ h => h) (Or.inr ⟨by rfl, rfl⟩) ?_ ?_
         rotate_left
         ·
          simp only [Act.put, l1, l2, l3, i64_w, i32_w]
          rfl
         refine pure_ (i := 31) (N := some 49) (v := undef) (a' := ?_) #[tt,tt,tt,tt,tt,tt,tt,tt,tt,tt,tt,tt,tt,tt,tt,tt,tt,tt,tt,tt,tt,tt,tt,tt,tt,tt,tt,tt,tt,tt,tt,tt,ff,ff] rfl rfl (any_of HT_.out (by kernel_rfl)) (fun _ _ _ h => h) (Or.inr ⟨by rfl, rfl⟩) ?_ ?_
         rotate_left
         ·
          simp only [Act.put, l1, l2, l3, i64_w, i32_w]
          rfl
         refine pure_ (i := 32) (N := some 50) (v := ?_) (a' := ?_) #[tt,tt,tt,tt,tt,tt,tt,tt,tt,tt,tt,tt,tt,tt,tt,tt,tt,tt,tt,tt,tt,tt,tt,tt,tt,tt,tt,tt,tt,tt,tt,tt,tt,ff] rfl rfl (any_of HT_.out (by kernel_rfl)) (fun _ _ _ h => h) (Or.inl ⟨by rfl, ?_⟩) ?_ ?_
         rotate_left
         ·
          intro w'
          go_simp
          with_reducible rfl
         rotate_left
         ·
          simp only [Act.put, l1, l2, l3, i64_w, i32_w]
          rfl
         refine pure_ (i := 33) (N := some 51) (v := ?_) (a' := ?_) #[tt,tt,tt,tt,tt,tt,tt,tt,tt,tt,tt,tt,tt,tt,tt,tt,tt,tt,tt,tt,tt,tt,tt,tt,tt,tt,tt,tt,tt,tt,tt,tt,tt,tt] rfl rfl (any_of HT_.out (by kernel_rfl)) (fun _ _ _ h => h) (Or.inl ⟨by rfl, ?_⟩) ?_ ?_
         rotate_left
         ·
          intro w'
          go_simp
          with_reducible rfl
         rotate_left
         ·
          simp only [Act.put, l1, l2, l3, i64_w, i32_w]
          rfl
         refine done_ (done_of HT_.out (by kernel_rfl)) ?_
         try go_wp2
         go_roundg k1
         case measure => have := HK1.out; omega
         case rel => exact ⟨(wrap64 (x5_1 + 1)), (by first | rfl | (simp; done) | (simp [*]; done)), H', ⟨by have := HK1.out; omega⟩, ⟨by (with_reducible repeat (first | refine b0 ?_ _ | refine b1 ?_ | refine b2 ?_ _)); exact BK162.out⟩, ⟨by repeat (first | (with_reducible first | exact HB.out | apply b8 | apply b6 | apply b7 | refine b3 ?_ GE162.out) | exact HB.out)⟩⟩
       ·
        replace c10 := Bool.eq_false_iff.mpr c10
        subst c10
        have H1 : (some false) = some r := by rw [if_neg (show ¬ (false = true) by decide)] at H; exact H
        clear H
        have H := H1
        clear H1
        obtain rfl := Option.some.inj H
        try go_wp2
        have n0_ := Aside0.mk (b1 BK162.out)
        have n1_ := Aside0.mk (b7 HB.out)
        clear BK162
        clear HB
        have BK162 := n0_
        have HB := n1_
        clear n0_ n1_
        have p163 : 0 ≤ (x5_1 : Int) := of_decide_eq_true (by first | (with_reducible assumption) | assumption)
        have q163 : x5_1 < (l1.length : Int) := of_decide_eq_true (by first | (with_reducible assumption) | assumption)
        obtain ⟨ad163, e163, hx163_0⟩ := Kd.at_int HR1.out x5_1 p163 q163
        have hw163_0 := hx163_0
        cases e163
        replace hx163_0 := (HB.out.cell (World.block_lt_of_cell? w _ hx163_0)).trans hx163_0
        replace p163 := eq_true p163
        replace q163 := eq_true q163
        have p164 : 0 ≤ (x5_1 : Int) := of_decide_eq_true (by first | (with_reducible assumption) | assumption)
        have q164 : x5_1 < (l0_0.length : Int) := of_decide_eq_true (by first | (with_reducible assumption) | assumption)
        obtain ⟨ad164, e164, hx164_0, hx164_1⟩ := at_T54 HR0_0.out x5_1 p164 q164
        have hw164_1 := hx164_1
        have hw164_0 := hx164_0
        cases e164
        replace hx164_0 := (HB.out.cell (World.block_lt_of_cell? w _ hx164_0)).trans hx164_0
        replace hx164_1 := (HB.out.cell (World.block_lt_of_cell? w _ hx164_1)).trans hx164_1
        replace p164 := eq_true p164
        replace q164 := eq_true q164
        have p165 : 0 ≤ (x5_1 : Int) := of_decide_eq_true (by first | (with_reducible assumption) | assumption)
        have q165 : x5_1 < (l0_0.length : Int) := of_decide_eq_true (by first | (with_reducible assumption) | assumption)
        obtain ⟨ad165, e165, hx165_0, hx165_1⟩ := at_T54 HR0_0.out x5_1 p165 q165
        have hw165_1 := hx165_1
        have hw165_0 := hx165_0
        obtain rfl : ad164 = ad165 := (by injection e165)
        replace hx165_0 := (HB.out.cell (World.block_lt_of_cell? w _ hx165_0)).trans hx165_0
        replace hx165_1 := (HB.out.cell (World.block_lt_of_cell? w _ hx165_1)).trans hx165_1
        replace p165 := eq_true p165
        replace q165 := eq_true q165
        refine start_ (n := 34) (S := fun w' => w'.cell? ⟨gb162, 0, none⟩ = some (.slice (some ad164) l0_0.length c0_0) ∧ w'.cell? (ad163.add (x5_1).toNat) = some (.int .i64 (rd l1 x5_1)) ∧ w'.cell? (ad164.add ((x5_1).toNat * 2)) = some (.int .i64 ((rd_T54 l0_0 x5_1).f0)) ∧ w'.cell? ⟨(ad164.add ((x5_1).toNat * 2)).block, (ad164.add ((x5_1).toNat * 2)).off + 1, none⟩ = some (.int .i64 ((rd_T54 l0_0 x5_1).f1)) ∧ w'.cell? (ad164.add ((x5_1).toNat * 2)) = some (.int .i64 ((rd_T54 l0_0 x5_1).f0)) ∧ w'.cell? ⟨(ad164.add ((x5_1).toNat * 2)).block, (ad164.add ((x5_1).toNat * 2)).off + 1, none⟩ = some (.int .i64 ((rd_T54 l0_0 x5_1).f1))) (ds := []) #[ff,ff,ff,ff,ff,ff,ff,ff,ff,ff,ff,ff,ff,ff,ff,ff,ff,ff,ff,ff,ff,ff,ff,ff,ff,ff,ff,ff,ff,ff,ff,ff,ff,ff] (by kernel_rfl) rfl rfl ⟨(b4 BK162.out 0).trans rfl, ((HB.out.cell (World.block_lt_of_cell? w _ hw163_0)).trans hw163_0), ((HB.out.cell (World.block_lt_of_cell? w _ hw164_0)).trans hw164_0), ((HB.out.cell (World.block_lt_of_cell? w _ hw164_1)).trans hw164_1), ((HB.out.cell (World.block_lt_of_cell? w _ hw165_0)).trans hw165_0), ((HB.out.cell (World.block_lt_of_cell? w _ hw165_1)).trans hw165_1)⟩ (fun hHeld => ?_); refine with_tabW tensileref05_AreRates.tab6 tensileref05_AreRates.bits6 (fun HT_ HW_ => ?_)
        generalize wr.drew = w19 at BK162 HB hx163_0 hx164_0 hx164_1 hx165_0 hx165_1 hHeld ⊢
        refine pure_ (i := 0) (N := some 18) (v := ?_) (a' := ?_) #[tt,ff,ff,ff,ff,ff,ff,ff,ff,ff,ff,ff,ff,ff,ff,ff,ff,ff,ff,ff,ff,ff,ff,ff,ff,ff,ff,ff,ff,ff,ff,ff,ff,ff] rfl rfl (any_of HT_.out (by kernel_rfl)) (fun _ _ _ h => h) (Or.inl ⟨by rfl, ?_⟩) ?_ ?_
        rotate_left
        ·
         intro w'
         go_simp
         with_reducible rfl
        rotate_left
        ·
         simp only [Act.put, l1, l2, l3, i64_w, i32_w]
         rfl
        refine pure_ (i := 1) (N := some 19) (v := ?_) (a' := ?_) #[tt,tt,ff,ff,ff,ff,ff,ff,ff,ff,ff,ff,ff,ff,ff,ff,ff,ff,ff,ff,ff,ff,ff,ff,ff,ff,ff,ff,ff,ff,ff,ff,ff,ff] rfl rfl (any_of HT_.out (by kernel_rfl)) (fun _ _ _ h => h) (Or.inl ⟨by rfl, ?_⟩) ?_ ?_
        rotate_left
        ·
         intro w'
         go_simp
         with_reducible rfl
        rotate_left
        ·
         simp only [Act.put, l1, l2, l3, i64_w, i32_w]
         rfl
        refine pure_ (i := 2) (N := some 20) (v := ?_) (a' := ?_) #[tt,tt,tt,ff,ff,ff,ff,ff,ff,ff,ff,ff,ff,ff,ff,ff,ff,ff,ff,ff,ff,ff,ff,ff,ff,ff,ff,ff,ff,ff,ff,ff,ff,ff] rfl rfl (any_of HT_.out (by kernel_rfl)) (fun _ _ _ h => h) (Or.inl ⟨by rfl, ?_⟩) ?_ ?_
        rotate_left
        ·
         intro w'
         go_simp
         with_reducible rfl
        rotate_left
        ·
         simp only [Act.put, l1, l2, l3, i64_w, i32_w]
         rfl
        refine pure_ (i := 4) (N := some 22) (v := ?_) (a' := ?_) #[tt,tt,tt,ff,tt,ff,ff,ff,ff,ff,ff,ff,ff,ff,ff,ff,ff,ff,ff,ff,ff,ff,ff,ff,ff,ff,ff,ff,ff,ff,ff,ff,ff,ff] rfl rfl (any_of HT_.out (by kernel_rfl)) (fun _ _ _ h => h) (Or.inl ⟨by rfl, ?_⟩) ?_ ?_
        rotate_left
        ·
         intro w'
         go_simp
         with_reducible rfl
        rotate_left
        ·
         simp only [Act.put, l1, l2, l3, i64_w, i32_w]
         rfl
        refine pure_ (i := 6) (N := some 24) (v := ?_) (a' := ?_) #[tt,tt,tt,ff,tt,ff,tt,ff,ff,ff,ff,ff,ff,ff,ff,ff,ff,ff,ff,ff,ff,ff,ff,ff,ff,ff,ff,ff,ff,ff,ff,ff,ff,ff] rfl rfl (any_of HT_.out (by kernel_rfl)) (fun _ _ _ h => h) (Or.inl ⟨by rfl, ?_⟩) ?_ ?_
        rotate_left
        ·
         intro w'
         go_simp
         with_reducible rfl
        rotate_left
        ·
         simp only [Act.put, l1, l2, l3, i64_w, i32_w]
         rfl
        refine pure_ (i := 10) (N := some 28) (v := ?_) (a' := ?_) #[tt,tt,tt,ff,tt,ff,tt,ff,ff,ff,tt,ff,ff,ff,ff,ff,ff,ff,ff,ff,ff,ff,ff,ff,ff,ff,ff,ff,ff,ff,ff,ff,ff,ff] rfl rfl (any_of HT_.out (by kernel_rfl)) (fun _ _ _ h => h) (Or.inl ⟨by rfl, ?_⟩) ?_ ?_
        rotate_left
        ·
         intro w'
         go_simp
         with_reducible rfl
        rotate_left
        ·
         simp only [Act.put, l1, l2, l3, i64_w, i32_w]
         rfl
        refine pure_ (i := 12) (N := some 30) (v := ?_) (a' := ?_) #[tt,tt,tt,ff,tt,ff,tt,ff,ff,ff,tt,ff,tt,ff,ff,ff,ff,ff,ff,ff,ff,ff,ff,ff,ff,ff,ff,ff,ff,ff,ff,ff,ff,ff] rfl rfl (any_of HT_.out (by kernel_rfl)) (fun _ _ _ h => h) (Or.inl ⟨by rfl, ?_⟩) ?_ ?_
        rotate_left
        ·
         intro w'
         go_simp
         with_reducible rfl
        rotate_left
        ·
         simp only [Act.put, l1, l2, l3, i64_w, i32_w]
         rfl
        refine take_ (i := 3) (N := some 21) (v := ?_) (a' := ?_) #[tt,tt,tt,tt,tt,ff,tt,ff,ff,ff,tt,ff,tt,ff,ff,ff,ff,ff,ff,ff,ff,ff,ff,ff,ff,ff,ff,ff,ff,ff,ff,ff,ff,ff] rfl rfl (take_ofW HT_.out HW_.out (by kernel_rfl)) (fun _ _ _ h => h) (Or.inl ⟨by rfl, ?_⟩) hHeld ?_ ?_
        rotate_left
        ·
         rintro w' ⟨s0, s1, s2, s3, s4, s5⟩
         go_simp
         with_reducible rfl
        rotate_left
        ·
         simp only [Act.put, l1, l2, l3, i64_w, i32_w]
         rfl
        refine take_ (i := 5) (N := some 23) (v := ?_) (a' := ?_) #[tt,tt,tt,tt,tt,tt,tt,ff,ff,ff,tt,ff,tt,ff,ff,ff,ff,ff,ff,ff,ff,ff,ff,ff,ff,ff,ff,ff,ff,ff,ff,ff,ff,ff] rfl rfl (take_ofW HT_.out HW_.out (by kernel_rfl)) (fun _ _ _ h => h) (Or.inl ⟨by rfl, ?_⟩) hHeld ?_ ?_
        rotate_left
        ·
         rintro w' ⟨s0, s1, s2, s3, s4, s5⟩
         go_simp
         with_reducible rfl
        rotate_left
        ·
         simp only [Act.put, l1, l2, l3, i64_w, i32_w]
         rfl
        refine pure_ (i := 7) (N := some 25) (v := ?_) (a' := ?_) #[tt,tt,tt,tt,tt,tt,tt,tt,ff,ff,tt,ff,tt,ff,ff,ff,ff,ff,ff,ff,ff,ff,ff,ff,ff,ff,ff,ff,ff,ff,ff,ff,ff,ff] rfl rfl (any_of HT_.out (by kernel_rfl)) (fun _ _ _ h => h) (Or.inl ⟨by rfl, ?_⟩) ?_ ?_
        rotate_left
        ·
         intro w'
         go_simp
         with_reducible rfl
        rotate_left
        ·
         simp only [Act.put, l1, l2, l3, i64_w, i32_w]
         rfl
        refine pure_ (i := 8) (N := some 26) (v := ?_) (a' := ?_) #[tt,tt,tt,tt,tt,tt,tt,tt,tt,ff,tt,ff,tt,ff,ff,ff,ff,ff,ff,ff,ff,ff,ff,ff,ff,ff,ff,ff,ff,ff,ff,ff,ff,ff] rfl rfl (any_of HT_.out (by kernel_rfl)) (fun _ _ _ h => h) (Or.inl ⟨by rfl, ?_⟩) ?_ ?_
        rotate_left
        ·
         intro w'
         go_simp
         with_reducible rfl
        rotate_left
        ·
         simp only [Act.put, l1, l2, l3, i64_w, i32_w]
         rfl
        refine take_ (i := 9) (N := some 27) (v := ?_) (a' := ?_) #[tt,tt,tt,tt,tt,tt,tt,tt,tt,tt,tt,ff,tt,ff,ff,ff,ff,ff,ff,ff,ff,ff,ff,ff,ff,ff,ff,ff,ff,ff,ff,ff,ff,ff] rfl rfl (take_ofW HT_.out HW_.out (by kernel_rfl)) (fun _ _ _ h => h) (Or.inl ⟨by rfl, ?_⟩) hHeld ?_ ?_
        rotate_left
        ·
         rintro w' ⟨s0, s1, s2, s3, s4, s5⟩
         go_simp
         with_reducible rfl
        rotate_left
        ·
         simp only [Act.put, l1, l2, l3, i64_w, i32_w]
         rfl
        refine take_ (i := 11) (N := some 29) (v := ?_) (a' := ?_) #[tt,tt,tt,tt,tt,tt,tt,tt,tt,tt,tt,tt,tt,ff,ff,ff,ff,ff,ff,ff,ff,ff,ff,ff,ff,ff,ff,ff,ff,ff,ff,ff,ff,ff] rfl rfl (take_ofW HT_.out HW_.out (by kernel_rfl)) (fun _ _ _ h => h) (Or.inl ⟨by rfl, ?_⟩) hHeld ?_ ?_
        rotate_left
        ·
         rintro w' ⟨s0, s1, s2, s3, s4, s5⟩
         go_simp
         with_reducible rfl
        rotate_left
        ·
         simp only [Act.put, l1, l2, l3, i64_w, i32_w]
         rfl
        refine pure_ (i := 13) (N := some 31) (v := ?_) (a' := ?_) #[tt,tt,tt,tt,tt,tt,tt,tt,tt,tt,tt,tt,tt,tt,ff,ff,ff,ff,ff,ff,ff,ff,ff,ff,ff,ff,ff,ff,ff,ff,ff,ff,ff,ff] rfl rfl (any_of HT_.out (by kernel_rfl)) (fun _ _ _ h => h) (Or.inl ⟨by rfl, ?_⟩) ?_ ?_
        rotate_left
        ·
         intro w'
         go_simp
         with_reducible rfl
        rotate_left
        ·
         simp only [Act.put, l1, l2, l3, i64_w, i32_w]
         rfl
        refine pure_ (i := 14) (N := some 32) (v := ?_) (a' := ?_) #[tt,tt,tt,tt,tt,tt,tt,tt,tt,tt,tt,tt,tt,tt,tt,ff,ff,ff,ff,ff,ff,ff,ff,ff,ff,ff,ff,ff,ff,ff,ff,ff,ff,ff] rfl rfl (any_of HT_.out (by kernel_rfl)) (fun _ _ _ h => h) (Or.inl ⟨by rfl, ?_⟩) ?_ ?_
        rotate_left
        ·
         intro w'
         go_simp
         with_reducible rfl
        rotate_left
        ·
         simp only [Act.put, l1, l2, l3, i64_w, i32_w]
         rfl
        refine take_ (i := 15) (N := some 33) (v := ?_) (a' := ?_) #[tt,tt,tt,tt,tt,tt,tt,tt,tt,tt,tt,tt,tt,tt,tt,tt,ff,ff,ff,ff,ff,ff,ff,ff,ff,ff,ff,ff,ff,ff,ff,ff,ff,ff] rfl rfl (take_ofW HT_.out HW_.out (by kernel_rfl)) (fun _ _ _ h => h) (Or.inl ⟨by rfl, ?_⟩) hHeld ?_ ?_
        rotate_left
        ·
         rintro w' ⟨s0, s1, s2, s3, s4, s5⟩
         go_simp
         with_reducible rfl
        rotate_left
        ·
         simp only [Act.put, l1, l2, l3, i64_w, i32_w]
         rfl
        refine one_ (i := 16) (N := some 34) #[tt,tt,tt,tt,tt,tt,tt,tt,tt,tt,tt,tt,tt,tt,tt,tt,tt,ff,ff,ff,ff,ff,ff,ff,ff,ff,ff,ff,ff,ff,ff,ff,ff,ff] rfl rfl (one_of HT_.out (by kernel_rfl)) (by decide) (fun K hK => ?_)
        refine goes_ Try.func40 (by kernel_rfl) rfl #[.int .i64 (rd l1 x5_1), .int .i64 ((rd_T54 l0_0 x5_1).f0), .int .i64 ((rd_T54 l0_0 x5_1).f1)] (by rfl) rfl rfl (by (try simp only [List.map_toArray, List.map_cons, List.map_nil]); first | done | rfl | (simp only [List.length_drop, List.length_take]; rfl)) ?_
        with_reducible refine (tensileref05_In.calls (rd l1 x5_1) ((rd_T54 l0_0 x5_1).f0) ((rd_T54 l0_0 x5_1).f1) false _ A9.out).mono ?_
        rintro e w' ⟨rfl, ⟨nd, rfl⟩⟩
        refine ⟨_, rfl, ?_⟩
        refine hK.out _ _ ⟨(b4 BK162.out 0).trans rfl, ((HB.out.cell (World.block_lt_of_cell? w _ hw163_0)).trans hw163_0), ((HB.out.cell (World.block_lt_of_cell? w _ hw164_0)).trans hw164_0), ((HB.out.cell (World.block_lt_of_cell? w _ hw164_1)).trans hw164_1), ((HB.out.cell (World.block_lt_of_cell? w _ hw165_0)).trans hw165_0), ((HB.out.cell (World.block_lt_of_cell? w _ hw165_1)).trans hw165_1)⟩ (fun hHeld => ?_)
        clear hK K
        refine norm_ (a' := ?_) ?_ ?_
        rotate_left
        ·
         show Act.put _ (some 34) _ = _
         simp only [Act.put, l1, l2, l3, i64_w, i32_w]
         rfl
        refine pure_ (i := 17) (N := some 35) (v := ?_) (a' := ?_) #[tt,tt,tt,tt,tt,tt,tt,tt,tt,tt,tt,tt,tt,tt,tt,tt,tt,tt,ff,ff,ff,ff,ff,ff,ff,ff,ff,ff,ff,ff,ff,ff,ff,ff] rfl rfl (any_of HT_.out (by kernel_rfl)) (fun _ _ _ h => h) (Or.inl ⟨by rfl, ?_⟩) ?_ ?_
        rotate_left
        ·
         intro w'
         go_simp
         with_reducible rfl
        rotate_left
        ·
         simp only [Act.put, l1, l2, l3, i64_w, i32_w]
         rfl
        refine pure_ (i := 18) (N := some 36) (v := ?_) (a' := ?_) #[tt,tt,tt,tt,tt,tt,tt,tt,tt,tt,tt,tt,tt,tt,tt,tt,tt,tt,tt,ff,ff,ff,ff,ff,ff,ff,ff,ff,ff,ff,ff,ff,ff,ff] rfl rfl (any_of HT_.out (by kernel_rfl)) (fun _ _ _ h => h) (Or.inl ⟨by rfl, ?_⟩) ?_ ?_
        rotate_left
        ·
         intro w'
         go_simp
         with_reducible rfl
        rotate_left
        ·
         simp only [Act.put, l1, l2, l3, i64_w, i32_w]
         rfl
        refine pure_ (i := 19) (N := some 37) (v := undef) (a' := ?_) #[tt,tt,tt,tt,tt,tt,tt,tt,tt,tt,tt,tt,tt,tt,tt,tt,tt,tt,tt,tt,ff,ff,ff,ff,ff,ff,ff,ff,ff,ff,ff,ff,ff,ff] rfl rfl (any_of HT_.out (by kernel_rfl)) (fun _ _ _ h => h) (Or.inr ⟨by rfl, rfl⟩) ?_ ?_
        rotate_left
        ·
         simp only [Act.put, l1, l2, l3, i64_w, i32_w]
         rfl
        refine pure_ (i := 20) (N := some 38) (v := undef) (a' := ?_) #[tt,tt,tt,tt,tt,tt,tt,tt,tt,tt,tt,tt,tt,tt,tt,tt,tt,tt,tt,tt,tt,ff,ff,ff,ff,ff,ff,ff,ff,ff,ff,ff,ff,ff] rfl rfl (any_of HT_.out (by kernel_rfl)) (fun _ _ _ h => h) (Or.inr ⟨by rfl, rfl⟩) ?_ ?_
        rotate_left
        ·
         simp only [Act.put, l1, l2, l3, i64_w, i32_w]
         rfl
        refine pure_ (i := 21) (N := some 39) (v := undef) (a' := ?_) #[tt,tt,tt,tt,tt,tt,tt,tt,tt,tt,tt,tt,tt,tt,tt,tt,tt,tt,tt,tt,tt,tt,ff,ff,ff,ff,ff,ff,ff,ff,ff,ff,ff,ff] rfl rfl (any_of HT_.out (by kernel_rfl)) (fun _ _ _ h => h) (Or.inr ⟨by rfl, rfl⟩) ?_ ?_
        rotate_left
        ·
         simp only [Act.put, l1, l2, l3, i64_w, i32_w]
         rfl
        refine pure_ (i := 22) (N := some 40) (v := undef) (a' := ?_) #[tt,tt,tt,tt,tt,tt,tt,tt,tt,tt,tt,tt,tt,tt,tt,tt,tt,tt,tt,tt,tt,tt,tt,ff,ff,ff,ff,ff,ff,ff,ff,ff,ff,ff] rfl rfl (any_of HT_.out (by kernel_rfl)) (fun _ _ _ h => h) (Or.inr ⟨by rfl, rfl⟩) ?_ ?_
        rotate_left
        ·
         simp only [Act.put, l1, l2, l3, i64_w, i32_w]
         rfl
        refine pure_ (i := 23) (N := some 41) (v := undef) (a' := ?_) #[tt,tt,tt,tt,tt,tt,tt,tt,tt,tt,tt,tt,tt,tt,tt,tt,tt,tt,tt,tt,tt,tt,tt,tt,ff,ff,ff,ff,ff,ff,ff,ff,ff,ff] rfl rfl (any_of HT_.out (by kernel_rfl)) (fun _ _ _ h => h) (Or.inr ⟨by rfl, rfl⟩) ?_ ?_
        rotate_left
        ·
         simp only [Act.put, l1, l2, l3, i64_w, i32_w]
         rfl
        refine pure_ (i := 24) (N := some 42) (v := undef) (a' := ?_) #[tt,tt,tt,tt,tt,tt,tt,tt,tt,tt,tt,tt,tt,tt,tt,tt,tt,tt,tt,tt,tt,tt,tt,tt,tt,ff,ff,ff,ff,ff,ff,ff,ff,ff] rfl rfl (any_of HT_.out (by kernel_rfl)) (fun _ _ _ h => h) (Or.inr ⟨by rfl, rfl⟩) ?_ ?_
        rotate_left
        ·
         simp only [Act.put, l1, l2, l3, i64_w, i32_w]
         rfl
        refine pure_ (i := 25) (N := some 43) (v := undef) (a' := ?_) #[tt,tt,tt,tt,tt,tt,tt,tt,tt,tt,tt,tt,tt,tt,tt,tt,tt,tt,tt,tt,tt,tt,tt,tt,tt,tt,ff,ff,ff,ff,ff,ff,ff,ff] rfl rfl (any_of HT_.out (by kernel_rfl)) (fun _ _ _ h => h) (Or.inr ⟨by rfl, rfl⟩) ?_ ?_
        rotate_left
        ·
         simp only [Act.put, l1, l2, l3, i64_w, i32_w]
         rfl
        refine pure_ (i := 26) (N := some 44) (v := undef) (a' := ?_) #[tt,tt,tt,tt,tt,tt,tt,tt,tt,tt,tt,tt,tt,tt,tt,tt,tt,tt,tt,tt,tt,tt,tt,tt,tt,tt,tt,ff,ff,ff,ff,ff,ff,ff] rfl rfl (any_of HT_.out (by kernel_rfl)) (fun _ _ _ h => h) (Or.inr ⟨by rfl, rfl⟩) ?_ ?_
        rotate_left
        ·
         simp only [Act.put, l1, l2, l3, i64_w, i32_w]
         rfl
        refine pure_ (i := 27) (N := some 45) (v := undef) (a' := ?_) #[tt,tt,tt,tt,tt,tt,tt,tt,tt,tt,tt,tt,tt,tt,tt,tt,tt,tt,tt,tt,tt,tt,tt,tt,tt,tt,tt,tt,ff,ff,ff,ff,ff,ff] rfl rfl (any_of HT_.out (by kernel_rfl)) (fun _ _ _ h => h) (Or.inr ⟨by rfl, rfl⟩) ?_ ?_
        rotate_left
        ·
         simp only [Act.put, l1, l2, l3, i64_w, i32_w]
         rfl
        refine pure_ (i := 28) (N := some 46) (v := undef) (a' := ?_) #[tt,tt,tt,tt,tt,tt,tt,tt,tt,tt,tt,tt,tt,tt,tt,tt,tt,tt,tt,tt,tt,tt,tt,tt,tt,tt,tt,tt,tt,ff,ff,ff,ff,ff] rfl rfl (any_of HT_.out (by kernel_rfl)) (fun _ _ _ h => h) (Or.inr ⟨by rfl, rfl⟩) ?_ ?_
        rotate_left
        ·
         simp only [Act.put, l1, l2, l3, i64_w, i32_w]
         rfl
        refine pure_ (i := 29) (N := some 47) (v := undef) (a' := ?_) #[tt,tt,tt,tt,tt,tt,tt,tt,tt,tt,tt,tt,tt,tt,tt,tt,tt,tt,tt,tt,tt,tt,tt,tt,tt,tt,tt,tt,tt,tt,ff,ff,ff,ff] rfl rfl (any_of HT_.out (by kernel_rfl)) (fun _ _ _ h => h) (Or.inr ⟨by rfl, rfl⟩) ?_ ?_
        rotate_left
        ·
         simp only [Act.put, l1, l2, l3, i64_w, i32_w]
         rfl
        refine pure_ (i := 30) (N := some 48) (v := undef) (a' := ?_) #[tt,tt,tt,tt,tt,tt,tt,tt,tt,tt,tt,tt,tt,tt,tt,tt,tt,tt,tt,tt,tt,tt,tt,tt,tt,tt,tt,tt,tt,tt,tt,ff,ff,ff] rfl rfl (any_of HT_.out (by kernel_rfl)) (fun _ _ _ h => h) (Or.inr ⟨by rfl, rfl⟩) ?_ ?_
        rotate_left
        ·
         simp only [Act.put, l1, l2, l3, i64_w, i32_w]
         rfl
        refine pure_ (i := 31) (N := some 49) (v := undef) (a' := ?_) #[tt,tt,tt,tt,tt,tt,tt,tt,tt,tt,tt,tt,tt,tt,tt,tt,tt,tt,tt,tt,tt,tt,tt,tt,tt,tt,tt,tt,tt,tt,tt,tt,ff,ff] rfl rfl (any_of HT_.out (by kernel_rfl)) (fun _ _ _ h => h) (Or.inr ⟨by rfl, rfl⟩) ?_ ?_
        rotate_left
        ·
         simp only [Act.put, l1, l2, l3, i64_w, i32_w]
         rfl
        refine pure_ (i := 32) (N := some 50) (v := undef) (a' := ?_) #[tt,tt,tt,tt,tt,tt,tt,tt,tt,tt,tt,tt,tt,tt,tt,tt,tt,tt,tt,tt,tt,tt,tt,tt,tt,tt,tt,tt,tt,tt,tt,tt,tt,ff] rfl rfl (any_of HT_.out (by kernel_rfl)) (fun _ _ _ h => h) (Or.inr ⟨by rfl, rfl⟩) ?_ ?_
        rotate_left
        ·
         simp only [Act.put, l1, l2, l3, i64_w, i32_w]
         rfl
        refine pure_ (i := 33) (N := some 51) (v := ?_) (a' := ?_) #[tt,tt,tt,tt,tt,tt,tt,tt,tt,tt,tt,tt,tt,tt,tt,tt,tt,tt,tt,tt,tt,tt,tt,tt,tt,tt,tt,tt,tt,tt,tt,tt,tt,tt] rfl rfl (any_of HT_.out (by kernel_rfl)) (fun _ _ _ h => h) (Or.inl ⟨by rfl, ?_⟩) ?_ ?_
        rotate_left
        ·
         intro w'
         go_simp
         with_reducible rfl
        rotate_left
        ·
         simp only [Act.put, l1, l2, l3, i64_w, i32_w]
         rfl
        refine done_ (done_of HT_.out (by kernel_rfl)) ?_
        try go_wp2
        go_ret
        exact ⟨by first | rfl | (simp [errW_none, errW_some] <;> rfl) | (simp [*, errW_none, errW_some] <;> rfl), by repeat (first | (with_reducible first | exact HB.out | apply b8 | apply b6 | apply b7 | refine b3 ?_ GE162.out) | exact HB.out)⟩
      ·
       rw [if_neg c8] at H
       exact absurd H (by simp)
     ·
      rw [if_neg c7] at H
      exact absurd H (by simp)
    ·
     rw [if_neg c6] at H
     have c6b0 : decide (x5_1 < (l1.length : Int)) = false := decide_eq_false c6
     clear c6
     obtain rfl := Option.some.inj H
     go_wp2
     go_ret
     exact ⟨by first | rfl | (simp [errW_none, errW_some] <;> rfl) | (simp [*, errW_none, errW_some] <;> rfl), by repeat (first | (with_reducible first | exact HB.out | apply b8 | apply b6 | apply b7 | refine b3 ?_ GE162.out) | exact HB.out)⟩
 ·
  rw [if_neg c3] at H
  have c3b0 : ((l1.length : Int) == (l0_0.length : Int)) = false := beq_eq_false_iff_ne.mpr c3
  have c3b1 : ((l1.length : Int) != (l0_0.length : Int)) = true := bne_iff_ne.mpr c3
  have c3b2 : (l1.length == l0_0.length) = false := by first | simpa using c3 | (simp at c3 ⊢; omega)
  obtain rfl := Option.some.inj H
  go_enter Try.func46, Try.ntmps46
  go_wp2_with (first | ((with_reducible refine gate_dst (N := 2) rfl ?_); refine box_event ?hg (N := 2) ?hd (cs := #[.slice A0_0 l0_0.length c0_0]) (t := 24) ?hr ?_; (case hd => rfl); (case hg => rfl); (case hr => first | (go_simp; done) | (go_simp; rfl)); intro gb162 hg w20 hbox hb; have n0_ := Aside0.mk (b13 (by repeat (first | (with_reducible first | exact HB.out | apply b8 | apply b6 | apply b7) | exact HB.out)) hb); have n1_ := Aside0.mk (hbox); have n2_ := Aside0.mk ((by rw [hg]; exact (b12 (by repeat (first | (with_reducible first | exact HB.out | apply b8 | apply b6 | apply b7) | exact HB.out))) : w.heap.size ≤ gb162)); have n3_ := Aside0.mk ((by rw [hg]; exact (b12 (by repeat (first | (with_reducible first | exact HB.out | apply b8 | apply b6 | apply b7) | exact HB.out))) : w.heap.size ≤ gb162)); clear HB; have HB := n0_; have BK162 := n1_; have GW162 := n2_; have GE162 := n3_; clear n0_ n1_ n2_ n3_; clear hb hbox hg; have hcz21_0 : w20.cell? ⟨gb162, 0, none⟩ = some (.slice A0_0 l0_0.length c0_0) := (b4 BK162.out 0).trans rfl; have hfz21_0 := b9 BK162.out 0))
  go_ret
  exact ⟨by first | rfl | (simp [errW_none, errW_some] <;> rfl) | (simp [*, errW_none, errW_some] <;> rfl), by repeat (first | (with_reducible first | exact HB.out | apply b8 | apply b6 | apply b7 | refine b3 ?_ GE162.out) | exact HB.out)⟩
end Go.Proofs.Ytdagijgoegkphaa.P

namespace Go.Proofs.Ytdagijgoegkphaa.Pure
open Go.RowKit Go.Proofs.YtdagijgoegkphaaW.PrintWords Go.Proofs.YtdagijgoegkphaaW.PrintLast Go.Proofs.YtdagijgoegkphaaW.PrintMore Go.Proofs.Ytdagijgoegkphaa.P
open Hand (Rg Sg Rn Nm Rt)
theorem areRates_l0 (m : List S54) (l : List Int) (hl : l.length = m.length) (hlen : m.length ≤ 6) : ∀ (d b k : Nat), b + d = l.length → d + 1 ≤ k →
    tensileref05_AreRates.l0 k l (b : Int) m = some ((List.range' b d).all (Hand.okAt (m.map cRg) (toNm l))) := by
  intro d
  induction d with
  | zero =>
    intro b k hb hk
    obtain ⟨k, rfl⟩ : ∃ m, k = m + 1 := ⟨k - 1, by omega⟩
    rw [tensileref05_AreRates.l0, if_neg (by omega)]
    rfl
  | succ d ih =>
    intro b k hb hk
    obtain ⟨k, rfl⟩ : ∃ m, k = m + 1 := ⟨k - 1, by omega⟩
    have hrec := ih (b + 1) k (by omega) (by omega)
    rw [show ((b + 1 : Nat) : Int) = (b : Int) + 1 by omega] at hrec
    rw [tensileref05_AreRates.l0, if_pos (by omega), if_pos (by omega), if_pos (by omega), In_f, Option.bind_some, List.range'_succ, List.all_cons, w_succ _ (by omega), hrec]
    have hok : Hand.okAt (m.map cRg) (toNm l) b = (decide ((rd_T54 m b).f0 ≤ rd l b ∧ rd l b ≤ (rd_T54 m b).f1) && !(decide (0 < b) && decide (rd l b < rd l ((b : Int) - 1)))) := by
      unfold Hand.okAt
      rw [rg_at, nm_at, nm_at, rd_nat]
      by_cases h0 : 0 < b
      · rw [show ((b : Int) - 1) = ((b - 1 : Nat) : Int) by omega, rd_nat]; rfl
      · rw [decide_eq_false h0]; rfl
    rw [hok]
    by_cases h1 : (rd_T54 m b).f0 ≤ rd l b ∧ rd l b ≤ (rd_T54 m b).f1
    case neg => rw [decide_eq_false h1, if_neg (by decide)]; simp
    rw [decide_eq_true h1, if_pos rfl]
    by_cases h2 : (b : Int) > 0
    · rw [if_pos h2, w_id (by omega) (by omega), if_pos (by omega), if_pos (by omega), decide_eq_true (show 0 < b by omega)]
      by_cases h3 : rd l b < rd l ((b : Int) - 1)
      · rw [if_pos h3, decide_eq_true h3]; simp
      · rw [if_neg h3, decide_eq_false h3]; simp
    · rw [if_neg h2, decide_eq_false (show ¬ 0 < b by omega)]; simp
theorem areRates_f (m : List S54) (l : List Int) (hlen : m.length ≤ 6) (k : Nat) (hk : 10 ≤ k) : tensileref05_AreRates.f k m l = some (Hand.ownB (m.map cRg) (toNm l)) := by
  unfold tensileref05_AreRates.f Hand.ownB
  rw [toNm_length, List.length_map]
  by_cases h : (l.length : Int) = (m.length : Int)
  · have h' : l.length = m.length := by omega
    rw [if_pos h, decide_eq_true h', Bool.true_and, List.range_eq_range']
    exact areRates_l0 m l h' hlen l.length 0 k (by omega) (by omega)
  · rw [if_neg h, decide_eq_false (by omega), Bool.false_and]
end Go.Proofs.Ytdagijgoegkphaa.Pure
