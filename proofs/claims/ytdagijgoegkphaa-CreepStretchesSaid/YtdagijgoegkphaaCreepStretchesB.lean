/- The statement CreepStretches: whatever the input (its guards are the law's own), the call returns true, and each argument reads as it did. -/
import Derived.Test.YtdagijgoegkphaaCreepStretchesA
import Derived.Test.YtdagijgoegkphaaC2
import Derived.Test.YtdagijgoegkphaaRows
import Derived.WalkKit
import Derived.ProofKit
import Derived.OpenShut
import Derived.ShutString
import Derived.ChangeOld
import Derived.Below
import Derived.SizedLaws
set_option linter.unusedVariables false
set_option linter.unusedSimpArgs false
namespace Go.Proofs.Ytdagijgoegkphaa.Pure
open Go.RowKit Go.Proofs.YtdagijgoegkphaaW.PrintWords Go.Proofs.YtdagijgoegkphaaW.PrintLast Go.Proofs.Ytdagijgoegkphaa.P
open Hand (Rg Sg Rn Nm Rt Aw Blk Chg)
theorem rows_at2 {W : World} {A : Option Addr} {n : Nat} (hn : n ≤ 3) (l : List Rt) (h : Kd.C (Kd.slice 3 (Kd.int .i64)) W A l.length (l.map fun q => q.list n)) (h0 : 0 < l.length) :
    ∃ x o, A = some ⟨x, o, none⟩ ∧ ∀ (i : Nat) (hi : i < l.length), ∃ A0 cp, W.cell? ⟨x, o + i, none⟩ = some (.slice A0 n cp) ∧ n ≤ cp ∧ Kd.C (Kd.int .i64) W A0 n ((l[i]).list n) := by
  obtain ⟨ad, _, _, hA, g0, _⟩ := at_L8 h (0 : Int) (by omega) (by omega)
  have hs : ad.spot = none := by have := plain_of_cell g0; simpa [Addr.add] using this
  obtain ⟨x, o, sp⟩ := ad
  simp only at hs
  subst hs
  refine ⟨x, o, hA, fun i hi => ?_⟩
  obtain ⟨ad', A0, c0, hA', h1, h2, h3⟩ := at_L8 h (i : Int) (by omega) (by omega)
  rw [hA] at hA'
  cases hA'
  have er : rd_L8 (l.map fun q => q.list n) (i : Int) = (l[i]).list n := by
    unfold rd_L8
    rw [Int.toNat_natCast, List.getD_eq_getElem?_getD, List.getElem?_map, List.getElem?_eq_getElem hi]
    rfl
  have hl := take_len (l[i]) n hn
  rw [er] at h1 h2 h3
  rw [P.add_plain, Int.toNat_natCast, hl] at h1
  rw [hl] at h2 h3
  exact ⟨A0, c0, h1, h2, h3⟩
def wst (ps : List Sg) (x : Int × Int) (q : Rt) : Int × Int := (Hand.mn x.1 (Hand.stLo q ps), Hand.mx x.2 (Hand.stHi q ps))
theorem wst_fold (ps : List Sg) : ∀ (l : List Rt) (x : Int × Int), (((l.foldl (wst ps) x).1 = x.1 ∨ ∃ q ∈ l, (l.foldl (wst ps) x).1 = Hand.stLo q ps) ∧ (l.foldl (wst ps) x).1 ≤ x.1 ∧ ∀ q ∈ l, (l.foldl (wst ps) x).1 ≤ Hand.stLo q ps) ∧
    (((l.foldl (wst ps) x).2 = x.2 ∨ ∃ q ∈ l, (l.foldl (wst ps) x).2 = Hand.stHi q ps) ∧ x.2 ≤ (l.foldl (wst ps) x).2 ∧ ∀ q ∈ l, Hand.stHi q ps ≤ (l.foldl (wst ps) x).2)
  | [], x => ⟨⟨.inl rfl, Int.le_refl _, fun _ h => (by cases h)⟩, .inl rfl, Int.le_refl _, fun _ h => (by cases h)⟩
  | y :: l, x => by
    rw [List.foldl_cons]
    obtain ⟨⟨h1, h2, h3⟩, h4, h5, h6⟩ := wst_fold ps l (wst ps x y)
    have c1 : ((wst ps x y).1 = x.1 ∨ (wst ps x y).1 = Hand.stLo y ps) ∧ (wst ps x y).1 ≤ x.1 ∧ (wst ps x y).1 ≤ Hand.stLo y ps := by
      unfold wst Hand.mn; dsimp only; split <;> omega
    have c2 : ((wst ps x y).2 = x.2 ∨ (wst ps x y).2 = Hand.stHi y ps) ∧ x.2 ≤ (wst ps x y).2 ∧ Hand.stHi y ps ≤ (wst ps x y).2 := by
      unfold wst Hand.mx; dsimp only; split <;> omega
    refine ⟨⟨?_, by omega, fun q hq => ?_⟩, ?_, by omega, fun q hq => ?_⟩
    · rcases h1 with e | ⟨q, hq, e⟩
      · rcases c1.1 with f | f
        · exact .inl (e.trans f)
        · exact .inr ⟨y, by simp, e.trans f⟩
      · exact .inr ⟨q, by simp [hq], e⟩
    · rcases List.mem_cons.1 hq with rfl | hq
      · omega
      · exact h3 q hq
    · rcases h4 with e | ⟨q, hq, e⟩
      · rcases c2.1 with f | f
        · exact .inl (e.trans f)
        · exact .inr ⟨y, by simp, e.trans f⟩
      · exact .inr ⟨q, by simp [hq], e⟩
    · rcases List.mem_cons.1 hq with rfl | hq
      · omega
      · exact h6 q hq
theorem wst_ends (ps : List Sg) (gd : List Rt) (h0 : 0 < gd.length) : gd.foldl (wst ps) (Hand.stLo gd[0] ps, Hand.stHi gd[0] ps) = (Hand.stLo (Hand.endsA ps gd).1 ps, Hand.stHi (Hand.endsA ps gd).2.1 ps) := by
  obtain ⟨e1, e2, e3, e4⟩ := ends_spec ps gd (List.length_pos_iff.1 h0)
  obtain ⟨⟨h1, h2, h3⟩, h4, h5, h6⟩ := wst_fold ps gd (Hand.stLo gd[0] ps, Hand.stHi gd[0] ps)
  have hm : gd[0] ∈ gd := List.getElem_mem h0
  have k1 : (gd.foldl (wst ps) (Hand.stLo gd[0] ps, Hand.stHi gd[0] ps)).1 = Hand.stLo (Hand.endsA ps gd).1 ps := by
    have a1 := h3 _ e1
    rcases h1 with e | ⟨q, hq, e⟩
    · have := e3 _ hm; dsimp only at e; omega
    · have := e3 _ hq; omega
  have k2 : (gd.foldl (wst ps) (Hand.stLo gd[0] ps, Hand.stHi gd[0] ps)).2 = Hand.stHi (Hand.endsA ps gd).2.1 ps := by
    have a1 := h6 _ e2
    rcases h4 with e | ⟨q, hq, e⟩
    · have := e4 _ hm; dsimp only at e; omega
    · have := e4 _ hq; omega
  rw [← k1, ← k2]
theorem wst_take (ps : List Sg) (x : Int × Int) (l : List Rt) (i : Nat) (h : i < l.length) : (l.take (i + 1)).foldl (wst ps) x = wst ps ((l.take i).foldl (wst ps) x) l[i] := by
  rw [List.take_succ_eq_append_getElem h, List.foldl_append]
  rfl
theorem neq47' (a b : Int) (W : World) : (binOp .neq 47 (.agg #[.int .i64 a, .int .i64 b]) (.agg #[.int .i64 a, .int .i64 b])).run Try.prog W = .ok (.bool false) W := by
  have h : (Op.equal 47 (.agg #[.int .i64 a, .int .i64 b]) (.agg #[.int .i64 a, .int .i64 b])).run Try.prog W = .ok true W := by
    unfold Op.equal Op.maxDepth
    go_simp
  simp only [binOp]
  simp [h]
theorem mx2' (k k' : IntKind) (x y : Int) : Builtin.max2 (.int k x) (.int k' y) = pure (.int k (Hand.mx x y)) := by simp only [Builtin.max2, gt_iff_lt, Hand.mx]
theorem mn2' (k k' : IntKind) (x y : Int) : Builtin.min2 (.int k x) (.int k' y) = pure (.int k (Hand.mn x y)) := by simp only [Builtin.min2, Hand.mn]
theorem mxT' (ats : Array TypeId) (ty : TypeId) (a b : Value) : Builtin.max_ ats ty #[a, b] = (Builtin.max2 a b >>= fun s => pure s) := by simp only [Builtin.max_, List.foldlM_cons, List.foldlM_nil]
theorem mnT' (ats : Array TypeId) (ty : TypeId) (a b : Value) : Builtin.min_ ats ty #[a, b] = (Builtin.min2 a b >>= fun s => pure s) := by simp only [Builtin.min_, List.foldlM_cons, List.foldlM_nil]
attribute [local go_sem] mx2' mn2' mxT' mnT'
attribute [local go_sem] neq47'
set_option maxHeartbeats 8000000 in
set_option maxRecDepth 100000 in
theorem stretches_calls (A0 : Option Addr) (c0 : Nat) (m : List S54) (A1 : Option Addr) (c1 : Nat) (r : List S81) (A2 : Option Addr) (c2 : Nat) (p : List S56) (high : Bool) (w : World) (hr0 : Kd.C k54 w A0 m.length m) (hc0 : m.length ≤ c0) (hr1 : Kd.C k81 w A1 r.length r) (hc1 : r.length ≤ c1) (hr2 : Kd.C k56 w A2 p.length p) (hc2 : p.length ≤ c2) (hm : ∀ s ∈ m, Fits54 s) :
    Calls Try.prog 11 #[.agg #[.slice A0 m.length c0], .slice A1 r.length c1, .slice A2 p.length c2, .bool high] w fun e w' => e = .returned (.bool true) ∧ Below w.heap.size w w' := by
  obtain ⟨w1, hw1⟩ : ∃ w1, w1 = w.alloc (.cells #[.slice A0 m.length c0] 24) := ⟨_, rfl⟩
  obtain ⟨B4, hB4⟩ : ∃ B4, B4 = w.heap.size := ⟨_, rfl⟩
  have hbel : Below w.heap.size w w1 := by rw [hw1]; exact (Below.refl w.heap.size w).alloc (Nat.le_refl _) _
  have h4 : Blk w1 B4 #[.slice A0 m.length c0] 24 := by rw [hw1, hB4]; exact Blk.new w _ _
  obtain ⟨bt, hbt, hbt2⟩ := thin_f m r p 20000 (by omega)
  have HB := Aw.mk hbel
  have H4 := Aw.mk h4
  have HB4 := Aw.mk hB4
  have HR0 := Aw.mk (Kd.C_below hr0 hbel)
  have HR1 := Aw.mk (Kd.C_below hr1 hbel)
  have HR2 := Aw.mk (Kd.C_below hr2 hbel)
  have HC0 := Aw.mk hc0
  have HC1 := Aw.mk hc1
  have HC2 := Aw.mk hc2
  have HMF := Aw.mk hm
  have HBT := Aw.mk hbt
  have HBT2 := Aw.mk hbt2
  have HW := Aw.mk hw1
  have d4 : w1.cell? ⟨B4, 0, none⟩ = some (.slice A0 m.length c0) := h4.cell 0
  clear hr0 hc0 hr1 hc1 hr2 hc2 hm hbel h4 hbt hbt2 hw1 hB4
  go_enter Try.func11, Try.ntmps11
  go_wp2_with fail
  rw [← HB4.out, ← HW.out]
  refine (tensilelaw05_Thin.calls 20000 A0 c0 m A1 c1 r A2 c2 p bt _ HR0.out HC0.out HR1.out HC1.out HR2.out HC2.out HBT.out).mono ?_
  rintro e w2 ⟨rfl, hb⟩
  clear d4
  replace HB := Aw.mk (HB.out.trans (hb.mono HB.out.size))
  replace H4 := Aw.mk (H4.out.below hb H4.out.lt)
  replace HR0 := Aw.mk (Kd.C_below HR0.out hb)
  replace HR1 := Aw.mk (Kd.C_below HR1.out hb)
  replace HR2 := Aw.mk (Kd.C_below HR2.out hb)
  clear hb
  have lH4 : B4 < w2.heap.size := H4.out.lt
  have d4 : w2.cell? ⟨B4, 0, none⟩ = some (.slice A0 m.length c0) := H4.out.cell 0
  cases bt with
  | false =>
    clear HBT HBT2
    go_wp2_with fail
    refine (tensilelaw05_awake.calls true _ rfl).mono ?_
    rintro e w3 ⟨rfl, hb⟩
    clear lH4
    clear d4
    replace HB := Aw.mk (HB.out.trans (hb.mono HB.out.size))
    replace H4 := Aw.mk (H4.out.below hb H4.out.lt)
    replace HR0 := Aw.mk (Kd.C_below HR0.out hb)
    replace HR1 := Aw.mk (Kd.C_below HR1.out hb)
    replace HR2 := Aw.mk (Kd.C_below HR2.out hb)
    clear hb
    have lH4 : B4 < w3.heap.size := H4.out.lt
    have d4 : w3.cell? ⟨B4, 0, none⟩ = some (.slice A0 m.length c0) := H4.out.cell 0
    go_wp2_with fail
    go_ret
    exact ⟨rfl, HB.out⟩
  | true =>
  have hsm := HBT2.out rfl
  have HMAT := Aw.mk (material_f m (by have := hsm.1; omega) 20000 (by have := hsm.1; omega))
  have HRUN := Aw.mk (runs_f r (by have := hsm.2.1; omega) hsm.2.2.2 20000 (by have := hsm.2.1; omega))
  have HPLA := Aw.mk (plan_f p (by have := hsm.2.2.1; omega) 20000 (by have := hsm.2.2.1; omega))
  have HASK := Aw.mk (asked_f m r p hsm HMF.out 20000 (by omega))
  have HISP := Aw.mk (isPlan_f m hsm.1 p (by have := hsm.2.2.1; omega) 20000 (by have := hsm.2.2.1; omega))
  have HSM := Aw.mk hsm
  clear HBT HBT2 hsm
  go_wp2_with fail
  refine (tensilelaw05_Material.calls 20000 A0 c0 m (m.map c47) _ HR0.out HC0.out HMAT.out).mono ?_
  rintro e w3 ⟨v, rfl, hR, hb⟩
  obtain ⟨AM0, cM0, rfl, hk, hC⟩ := Kd.R_reads hR
  rw [List.length_map] at hk hC ⊢
  have HKM0 := Aw.mk hk
  clear lH4
  clear d4
  replace HB := Aw.mk (HB.out.trans (hb.mono HB.out.size))
  replace H4 := Aw.mk (H4.out.below hb H4.out.lt)
  replace HR0 := Aw.mk (Kd.C_below HR0.out hb)
  replace HR1 := Aw.mk (Kd.C_below HR1.out hb)
  replace HR2 := Aw.mk (Kd.C_below HR2.out hb)
  have HM0 := Aw.mk hC
  clear hb
  have lH4 : B4 < w3.heap.size := H4.out.lt
  have d4 : w3.cell? ⟨B4, 0, none⟩ = some (.slice A0 m.length c0) := H4.out.cell 0
  go_wp2_with fail
  refine (tensilelaw05_Runs.calls 20000 A1 c1 r (r.map c67) _ HR1.out HC1.out HRUN.out).mono ?_
  rintro e w4 ⟨v, rfl, hR, hb⟩
  obtain ⟨AR0, cR0, rfl, hk, hC⟩ := Kd.R_reads (Kd.S_R hR)
  rw [List.length_map] at hk hC ⊢
  have HKR0 := Aw.mk hk
  clear lH4
  clear d4
  replace HB := Aw.mk (HB.out.trans (hb.mono HB.out.size))
  replace H4 := Aw.mk (H4.out.below hb H4.out.lt)
  replace HR0 := Aw.mk (Kd.C_below HR0.out hb)
  replace HR1 := Aw.mk (Kd.C_below HR1.out hb)
  replace HR2 := Aw.mk (Kd.C_below HR2.out hb)
  replace HM0 := Aw.mk (Kd.C_below HM0.out hb)
  have HN0 := Aw.mk hC
  clear hb
  have lH4 : B4 < w4.heap.size := H4.out.lt
  have d4 : w4.cell? ⟨B4, 0, none⟩ = some (.slice A0 m.length c0) := H4.out.cell 0
  go_wp2_with fail
  refine (tensilelaw05_Plan.calls 20000 A2 c2 p (p.map c65) _ HR2.out HC2.out HPLA.out).mono ?_
  rintro e w5 ⟨v, rfl, hR, hb⟩
  obtain ⟨AP0, cP0, rfl, hk, hC⟩ := Kd.R_reads hR
  rw [List.length_map] at hk hC ⊢
  have HKP0 := Aw.mk hk
  clear lH4
  clear d4
  replace HB := Aw.mk (HB.out.trans (hb.mono HB.out.size))
  replace H4 := Aw.mk (H4.out.below hb H4.out.lt)
  replace HR0 := Aw.mk (Kd.C_below HR0.out hb)
  replace HR1 := Aw.mk (Kd.C_below HR1.out hb)
  replace HR2 := Aw.mk (Kd.C_below HR2.out hb)
  replace HM0 := Aw.mk (Kd.C_below HM0.out hb)
  replace HN0 := Aw.mk (Kd.C_below HN0.out hb)
  have HP0 := Aw.mk hC
  clear hb
  have lH4 : B4 < w5.heap.size := H4.out.lt
  have d4 : w5.cell? ⟨B4, 0, none⟩ = some (.slice A0 m.length c0) := H4.out.cell 0
  go_wp2_with fail
  have HST := Aw.mk (creep_Stretch.calls AM0 cM0 (m.map c47) AR0 cR0 (r.map c67) AP0 cP0 (p.map c65) (Hand.stretchV (m.map cRg) (r.map cRn) (p.map cSg)).1 (Hand.stretchV (m.map cRg) (r.map cRn) (p.map cSg)).2.1 (Hand.stretchV (m.map cRg) (r.map cRn) (p.map cSg)).2.2 w5 (by rw [List.length_map]; exact HM0.out) (by rw [List.length_map]; exact HKM0.out) (by rw [List.length_map]; exact HN0.out) (by rw [List.length_map]; exact HKR0.out) (by rw [List.length_map]; exact HP0.out) (by rw [List.length_map]; exact HKP0.out) (by unfold creep_Stretch.f; rw [toRg_c, toRn_c, toSg_c]))
  rw [List.length_map, List.length_map, List.length_map] at HST
  have HSV : Aw (Hand.stretchV (m.map cRg) (r.map cRn) (p.map cSg) = if Hand.planErr (m.map cRg) (r.map cRn) (p.map cSg) = 0 then (Hand.stLo (Hand.endsA (p.map cSg) (Hand.good (m.map cRg) (r.map cRn))).1 (p.map cSg), Hand.stHi (Hand.endsA (p.map cSg) (Hand.good (m.map cRg) (r.map cRn))).2.1 (p.map cSg), 0) else (0, 0, Hand.planErr (m.map cRg) (r.map cRn) (p.map cSg))) := ⟨rfl⟩
  generalize Hand.stretchV (m.map cRg) (r.map cRn) (p.map cSg) = sv at *
  obtain ⟨slo, shi, ser⟩ := sv
  dsimp only at HST HSV
  refine (HST.out).mono ?_
  rintro e w6 ⟨rfl, hb⟩
  clear lH4
  clear d4
  replace HB := Aw.mk (HB.out.trans (hb.mono HB.out.size))
  replace H4 := Aw.mk (H4.out.below hb H4.out.lt)
  replace HR0 := Aw.mk (Kd.C_below HR0.out hb)
  replace HR1 := Aw.mk (Kd.C_below HR1.out hb)
  replace HR2 := Aw.mk (Kd.C_below HR2.out hb)
  replace HM0 := Aw.mk (Kd.C_below HM0.out hb)
  replace HN0 := Aw.mk (Kd.C_below HN0.out hb)
  replace HP0 := Aw.mk (Kd.C_below HP0.out hb)
  clear hb
  have lH4 : B4 < w6.heap.size := H4.out.lt
  have d4 : w6.cell? ⟨B4, 0, none⟩ = some (.slice A0 m.length c0) := H4.out.cell 0
  go_wp2_with fail
  clear HST
  obtain ⟨B9, hB9⟩ : ∃ b, b = w6.heap.size := ⟨_, rfl⟩
  obtain ⟨w7, hw7⟩ : ∃ v, v = w6.alloc (.cells #[.int .i64 slo, .int .i64 shi] 47) := ⟨_, rfl⟩
  have hb : Below w6.heap.size w6 w7 := by rw [hw7]; exact (Below.refl _ _).alloc (Nat.le_refl _) _
  have H9 := Aw.mk (show Blk w7 B9 #[.int .i64 slo, .int .i64 shi] 47 by rw [hw7, hB9]; exact Blk.new _ _ _)
  rw [← hB9, ← hw7]
  clear lH4
  clear d4
  replace HB := Aw.mk (HB.out.trans (hb.mono HB.out.size))
  replace H4 := Aw.mk (H4.out.below hb H4.out.lt)
  replace HR0 := Aw.mk (Kd.C_below HR0.out hb)
  replace HR1 := Aw.mk (Kd.C_below HR1.out hb)
  replace HR2 := Aw.mk (Kd.C_below HR2.out hb)
  replace HM0 := Aw.mk (Kd.C_below HM0.out hb)
  replace HN0 := Aw.mk (Kd.C_below HN0.out hb)
  replace HP0 := Aw.mk (Kd.C_below HP0.out hb)
  clear hb hB9 hw7
  have lH4 : B4 < w7.heap.size := H4.out.lt
  have lH9 : B9 < w7.heap.size := H9.out.lt
  have d4 : w7.cell? ⟨B4, 0, none⟩ = some (.slice A0 m.length c0) := H4.out.cell 0
  refine (tensilelaw05_Material.calls 20000 A0 c0 m (m.map c47) _ HR0.out HC0.out HMAT.out).mono ?_
  rintro e w8 ⟨v, rfl, hR, hb⟩
  obtain ⟨AM1, cM1, rfl, hk, hC⟩ := Kd.R_reads hR
  rw [List.length_map] at hk hC ⊢
  have HKM1 := Aw.mk hk
  clear lH4 lH9
  clear d4
  replace HB := Aw.mk (HB.out.trans (hb.mono HB.out.size))
  replace H4 := Aw.mk (H4.out.below hb H4.out.lt)
  replace HR0 := Aw.mk (Kd.C_below HR0.out hb)
  replace HR1 := Aw.mk (Kd.C_below HR1.out hb)
  replace HR2 := Aw.mk (Kd.C_below HR2.out hb)
  replace HM0 := Aw.mk (Kd.C_below HM0.out hb)
  replace HN0 := Aw.mk (Kd.C_below HN0.out hb)
  replace HP0 := Aw.mk (Kd.C_below HP0.out hb)
  replace H9 := Aw.mk (H9.out.below hb H9.out.lt)
  have HM1 := Aw.mk hC
  clear hb
  have lH4 : B4 < w8.heap.size := H4.out.lt
  have lH9 : B9 < w8.heap.size := H9.out.lt
  have d4 : w8.cell? ⟨B4, 0, none⟩ = some (.slice A0 m.length c0) := H4.out.cell 0
  go_wp2_with fail
  refine (tensilelaw05_Runs.calls 20000 A1 c1 r (r.map c67) _ HR1.out HC1.out HRUN.out).mono ?_
  rintro e w9 ⟨v, rfl, hR, hb⟩
  obtain ⟨AR1, cR1, rfl, hk, hC⟩ := Kd.R_reads (Kd.S_R hR)
  rw [List.length_map] at hk hC ⊢
  have HKR1 := Aw.mk hk
  clear lH4 lH9
  clear d4
  replace HB := Aw.mk (HB.out.trans (hb.mono HB.out.size))
  replace H4 := Aw.mk (H4.out.below hb H4.out.lt)
  replace HR0 := Aw.mk (Kd.C_below HR0.out hb)
  replace HR1 := Aw.mk (Kd.C_below HR1.out hb)
  replace HR2 := Aw.mk (Kd.C_below HR2.out hb)
  replace HM0 := Aw.mk (Kd.C_below HM0.out hb)
  replace HN0 := Aw.mk (Kd.C_below HN0.out hb)
  replace HP0 := Aw.mk (Kd.C_below HP0.out hb)
  replace H9 := Aw.mk (H9.out.below hb H9.out.lt)
  replace HM1 := Aw.mk (Kd.C_below HM1.out hb)
  have HN1 := Aw.mk hC
  clear hb
  have lH4 : B4 < w9.heap.size := H4.out.lt
  have lH9 : B9 < w9.heap.size := H9.out.lt
  have d4 : w9.cell? ⟨B4, 0, none⟩ = some (.slice A0 m.length c0) := H4.out.cell 0
  go_wp2_with fail
  refine (tensilelaw05_Plan.calls 20000 A2 c2 p (p.map c65) _ HR2.out HC2.out HPLA.out).mono ?_
  rintro e w10 ⟨v, rfl, hR, hb⟩
  obtain ⟨AP1, cP1, rfl, hk, hC⟩ := Kd.R_reads hR
  rw [List.length_map] at hk hC ⊢
  have HKP1 := Aw.mk hk
  clear lH4 lH9
  clear d4
  replace HB := Aw.mk (HB.out.trans (hb.mono HB.out.size))
  replace H4 := Aw.mk (H4.out.below hb H4.out.lt)
  replace HR0 := Aw.mk (Kd.C_below HR0.out hb)
  replace HR1 := Aw.mk (Kd.C_below HR1.out hb)
  replace HR2 := Aw.mk (Kd.C_below HR2.out hb)
  replace HM0 := Aw.mk (Kd.C_below HM0.out hb)
  replace HN0 := Aw.mk (Kd.C_below HN0.out hb)
  replace HP0 := Aw.mk (Kd.C_below HP0.out hb)
  replace H9 := Aw.mk (H9.out.below hb H9.out.lt)
  replace HM1 := Aw.mk (Kd.C_below HM1.out hb)
  replace HN1 := Aw.mk (Kd.C_below HN1.out hb)
  have HP1 := Aw.mk hC
  clear hb
  have lH4 : B4 < w10.heap.size := H4.out.lt
  have lH9 : B9 < w10.heap.size := H9.out.lt
  have d4 : w10.cell? ⟨B4, 0, none⟩ = some (.slice A0 m.length c0) := H4.out.cell 0
  go_wp2_with fail
  have HSH := Aw.mk (creep_Shows.calls AM1 cM1 (m.map c47) AR1 cR1 (r.map c67) AP1 cP1 (p.map c65) high (Hand.showsV (m.map cRg) (r.map cRn) (p.map cSg) high).1 (Hand.showsV (m.map cRg) (r.map cRn) (p.map cSg) high).2 w10 (by rw [List.length_map]; exact HM1.out) (by rw [List.length_map]; exact HKM1.out) (by rw [List.length_map]; exact HN1.out) (by rw [List.length_map]; exact HKR1.out) (by rw [List.length_map]; exact HP1.out) (by rw [List.length_map]; exact HKP1.out) (by unfold creep_Shows.f; rw [toRg_c, toRn_c, toSg_c]))
  rw [List.length_map, List.length_map, List.length_map] at HSH
  have HSW : Aw (Hand.showsV (m.map cRg) (r.map cRn) (p.map cSg) high = if Hand.planErr (m.map cRg) (r.map cRn) (p.map cSg) = 0 then ((if high then (Hand.endsA (p.map cSg) (Hand.good (m.map cRg) (r.map cRn))).2.1 else (Hand.endsA (p.map cSg) (Hand.good (m.map cRg) (r.map cRn))).1).list m.length, 0) else ([], Hand.planErr (m.map cRg) (r.map cRn) (p.map cSg))) := ⟨by unfold Hand.showsV; rw [List.length_map]⟩
  generalize Hand.showsV (m.map cRg) (r.map cRn) (p.map cSg) high = sw at *
  obtain ⟨rl, rer⟩ := sw
  dsimp only at HSH HSW
  refine (HSH.out).mono ?_
  rintro e w11 ⟨v, rfl, hR, hb⟩
  obtain ⟨A11, c11, rfl, hk, hC⟩ := Kd.R_reads hR
  have HK11 := Aw.mk hk
  clear lH4 lH9
  clear d4
  replace HB := Aw.mk (HB.out.trans (hb.mono HB.out.size))
  replace H4 := Aw.mk (H4.out.below hb H4.out.lt)
  replace HR0 := Aw.mk (Kd.C_below HR0.out hb)
  replace HR1 := Aw.mk (Kd.C_below HR1.out hb)
  replace HR2 := Aw.mk (Kd.C_below HR2.out hb)
  replace HM0 := Aw.mk (Kd.C_below HM0.out hb)
  replace HN0 := Aw.mk (Kd.C_below HN0.out hb)
  replace HP0 := Aw.mk (Kd.C_below HP0.out hb)
  replace H9 := Aw.mk (H9.out.below hb H9.out.lt)
  replace HM1 := Aw.mk (Kd.C_below HM1.out hb)
  replace HN1 := Aw.mk (Kd.C_below HN1.out hb)
  replace HP1 := Aw.mk (Kd.C_below HP1.out hb)
  have HS11 := Aw.mk hC
  clear hb
  have lH4 : B4 < w11.heap.size := H4.out.lt
  have lH9 : B9 < w11.heap.size := H9.out.lt
  have d4 : w11.cell? ⟨B4, 0, none⟩ = some (.slice A0 m.length c0) := H4.out.cell 0
  go_wp2_with fail
  clear HSH
  refine (tensilelaw05_asked.calls 20000 A0 c0 m A1 c1 r (Hand.possErr (m.map cRg) (r.map cRn)) _ HR0.out HC0.out HR1.out HC1.out HASK.out).mono ?_
  rintro e w12 ⟨rfl, hb⟩
  clear lH4 lH9
  clear d4
  replace HB := Aw.mk (HB.out.trans (hb.mono HB.out.size))
  replace H4 := Aw.mk (H4.out.below hb H4.out.lt)
  replace HR0 := Aw.mk (Kd.C_below HR0.out hb)
  replace HR1 := Aw.mk (Kd.C_below HR1.out hb)
  replace HR2 := Aw.mk (Kd.C_below HR2.out hb)
  replace HM0 := Aw.mk (Kd.C_below HM0.out hb)
  replace HN0 := Aw.mk (Kd.C_below HN0.out hb)
  replace HP0 := Aw.mk (Kd.C_below HP0.out hb)
  replace H9 := Aw.mk (H9.out.below hb H9.out.lt)
  replace HM1 := Aw.mk (Kd.C_below HM1.out hb)
  replace HN1 := Aw.mk (Kd.C_below HN1.out hb)
  replace HP1 := Aw.mk (Kd.C_below HP1.out hb)
  replace HS11 := Aw.mk (Kd.C_below HS11.out hb)
  clear hb
  have lH4 : B4 < w12.heap.size := H4.out.lt
  have lH9 : B9 < w12.heap.size := H9.out.lt
  have d4 : w12.cell? ⟨B4, 0, none⟩ = some (.slice A0 m.length c0) := H4.out.cell 0
  have d9 : w12.cell? ⟨B9, 0, none⟩ = some (.int .i64 slo) := H9.out.cell 0
  have d9b : w12.cell? ⟨B9, 1, none⟩ = some (.int .i64 shi) := H9.out.cell 1
  by_cases hp : Hand.possErr (m.map cRg) (r.map cRn) = 0
  case neg =>
    have hne : ¬ Hand.possErr (m.map cRg) (r.map cRn) = 0 := hp
    have HPL := Aw.mk (plan_some (ps := p.map cSg) hp)
    have hpl : Hand.planErr (m.map cRg) (r.map cRn) (p.map cSg) = Hand.possErr (m.map cRg) (r.map cRn) := HPL.out
    have hs1 := HSV.out
    rw [if_neg (by rw [hpl]; exact hne), hpl] at hs1
    have hs2 := HSW.out
    rw [if_neg (by rw [hpl]; exact hne), hpl] at hs2
    simp only [Prod.mk.injEq] at hs1 hs2
    obtain ⟨rfl, rfl, rfl⟩ := hs1
    obtain ⟨rfl, rfl⟩ := hs2
    have hq1 : (Hand.possErr (m.map cRg) (r.map cRn) != 0) = true := by simp [hp]
    have hq2 : (Hand.possErr (m.map cRg) (r.map cRn) == 0) = false := by simp [hp]
    clear HSV HSW HPL hpl hne hp HASK
    generalize Hand.possErr (m.map cRg) (r.map cRn) = er at *
    go_wp2_with fail
    refine (tensilelaw05_awake.calls true _ rfl).mono ?_
    rintro e w13 ⟨rfl, hb⟩
    clear lH4 lH9
    clear d4 d9 d9b
    replace HB := Aw.mk (HB.out.trans (hb.mono HB.out.size))
    replace H4 := Aw.mk (H4.out.below hb H4.out.lt)
    replace HR0 := Aw.mk (Kd.C_below HR0.out hb)
    replace HR1 := Aw.mk (Kd.C_below HR1.out hb)
    replace HR2 := Aw.mk (Kd.C_below HR2.out hb)
    replace HM0 := Aw.mk (Kd.C_below HM0.out hb)
    replace HN0 := Aw.mk (Kd.C_below HN0.out hb)
    replace HP0 := Aw.mk (Kd.C_below HP0.out hb)
    replace H9 := Aw.mk (H9.out.below hb H9.out.lt)
    replace HM1 := Aw.mk (Kd.C_below HM1.out hb)
    replace HN1 := Aw.mk (Kd.C_below HN1.out hb)
    replace HP1 := Aw.mk (Kd.C_below HP1.out hb)
    replace HS11 := Aw.mk (Kd.C_below HS11.out hb)
    clear hb
    have lH4 : B4 < w13.heap.size := H4.out.lt
    have lH9 : B9 < w13.heap.size := H9.out.lt
    have d4 : w13.cell? ⟨B4, 0, none⟩ = some (.slice A0 m.length c0) := H4.out.cell 0
    have d9 : w13.cell? ⟨B9, 0, none⟩ = some (.int .i64 0) := H9.out.cell 0
    have d9b : w13.cell? ⟨B9, 1, none⟩ = some (.int .i64 0) := H9.out.cell 1
    go_wp2_with fail
    go_ret
    exact ⟨rfl, HB.out⟩
  rw [hp]
  have HP := Aw.mk hp
  clear hp
  go_wp2_with fail
  have HIS := Aw.mk HISP.out
  obtain ⟨bp, hbp⟩ : ∃ b, b = ((p.map cSg).all (Hand.segB m.length) && decide (p.length ≤ 8)) := ⟨_, rfl⟩
  rw [← hbp] at HIS
  have HBP := Aw.mk hbp
  clear hbp
  refine (tensileref05_IsPlan.calls 20000 A0 c0 m A2 c2 p bp _ HR0.out HC0.out HR2.out HC2.out HIS.out).mono ?_
  rintro e w13 ⟨rfl, hb⟩
  clear lH4 lH9
  clear d4 d9 d9b
  replace HB := Aw.mk (HB.out.trans (hb.mono HB.out.size))
  replace H4 := Aw.mk (H4.out.below hb H4.out.lt)
  replace HR0 := Aw.mk (Kd.C_below HR0.out hb)
  replace HR1 := Aw.mk (Kd.C_below HR1.out hb)
  replace HR2 := Aw.mk (Kd.C_below HR2.out hb)
  replace HM0 := Aw.mk (Kd.C_below HM0.out hb)
  replace HN0 := Aw.mk (Kd.C_below HN0.out hb)
  replace HP0 := Aw.mk (Kd.C_below HP0.out hb)
  replace H9 := Aw.mk (H9.out.below hb H9.out.lt)
  replace HM1 := Aw.mk (Kd.C_below HM1.out hb)
  replace HN1 := Aw.mk (Kd.C_below HN1.out hb)
  replace HP1 := Aw.mk (Kd.C_below HP1.out hb)
  replace HS11 := Aw.mk (Kd.C_below HS11.out hb)
  clear hb
  have lH4 : B4 < w13.heap.size := H4.out.lt
  have lH9 : B9 < w13.heap.size := H9.out.lt
  have d4 : w13.cell? ⟨B4, 0, none⟩ = some (.slice A0 m.length c0) := H4.out.cell 0
  have d9 : w13.cell? ⟨B9, 0, none⟩ = some (.int .i64 slo) := H9.out.cell 0
  have d9b : w13.cell? ⟨B9, 1, none⟩ = some (.int .i64 shi) := H9.out.cell 1
  cases bp with
  | false =>
    have hne : ¬ (2 : Int) = 0 := by decide
    have HPL : Aw (Hand.planErr (m.map cRg) (r.map cRn) (p.map cSg) = 2) := ⟨by
      unfold Hand.planErr
      rw [if_pos HP.out, if_neg]
      intro h
      have := HBP.out
      rw [List.length_map, List.length_map] at h
      rw [h.2, decide_eq_true h.1] at this
      cases this⟩
    have hpl : Hand.planErr (m.map cRg) (r.map cRn) (p.map cSg) = 2 := HPL.out
    have hs1 := HSV.out
    rw [if_neg (by rw [hpl]; exact hne), hpl] at hs1
    have hs2 := HSW.out
    rw [if_neg (by rw [hpl]; exact hne), hpl] at hs2
    simp only [Prod.mk.injEq] at hs1 hs2
    obtain ⟨rfl, rfl, rfl⟩ := hs1
    obtain ⟨rfl, rfl⟩ := hs2
    clear HSV HSW HPL hpl hne
    go_wp2_with fail
    refine (tensilelaw05_awake.calls true _ rfl).mono ?_
    rintro e w14 ⟨rfl, hb⟩
    clear lH4 lH9
    clear d4 d9 d9b
    replace HB := Aw.mk (HB.out.trans (hb.mono HB.out.size))
    replace H4 := Aw.mk (H4.out.below hb H4.out.lt)
    replace HR0 := Aw.mk (Kd.C_below HR0.out hb)
    replace HR1 := Aw.mk (Kd.C_below HR1.out hb)
    replace HR2 := Aw.mk (Kd.C_below HR2.out hb)
    replace HM0 := Aw.mk (Kd.C_below HM0.out hb)
    replace HN0 := Aw.mk (Kd.C_below HN0.out hb)
    replace HP0 := Aw.mk (Kd.C_below HP0.out hb)
    replace H9 := Aw.mk (H9.out.below hb H9.out.lt)
    replace HM1 := Aw.mk (Kd.C_below HM1.out hb)
    replace HN1 := Aw.mk (Kd.C_below HN1.out hb)
    replace HP1 := Aw.mk (Kd.C_below HP1.out hb)
    replace HS11 := Aw.mk (Kd.C_below HS11.out hb)
    clear hb
    have lH4 : B4 < w14.heap.size := H4.out.lt
    have lH9 : B9 < w14.heap.size := H9.out.lt
    have d4 : w14.cell? ⟨B4, 0, none⟩ = some (.slice A0 m.length c0) := H4.out.cell 0
    have d9 : w14.cell? ⟨B9, 0, none⟩ = some (.int .i64 0) := H9.out.cell 0
    have d9b : w14.cell? ⟨B9, 1, none⟩ = some (.int .i64 0) := H9.out.cell 1
    go_wp2_with fail
    go_ret
    exact ⟨rfl, HB.out⟩
  | true =>
  have hseg : (p.map cSg).all (Hand.segB m.length) = true ∧ p.length ≤ 8 := by
    have := HBP.out.symm
    simpa only [Bool.and_eq_true, decide_eq_true_eq] using this
  have hp := HP.out
  have he := Hand.poss_enter hp
  have hpl := plan_none hp hseg.1 hseg.2
  have hgn : Hand.good (m.map cRg) (r.map cRn) ≠ [] := by
    rcases poss_cases he with ⟨_, h⟩ | ⟨h, _⟩
    · exact h
    · rw [hp] at h; cases h
  have hends := ends_spec (p.map cSg) (Hand.good (m.map cRg) (r.map cRn)) hgn
  have h3 := (val_of he).1
  have HALL := Aw.mk (allowed_f he 20000 (by omega))
  have hgl : (Hand.good (m.map cRg) (r.map cRn)).length ≤ 9261 := Nat.le_trans (List.length_filter_le _ _) (lists_len (val_of he))
  obtain ⟨q, hq⟩ : ∃ q, q = if high then (Hand.endsA (p.map cSg) (Hand.good (m.map cRg) (r.map cRn))).2.1 else (Hand.endsA (p.map cSg) (Hand.good (m.map cRg) (r.map cRn))).1 := ⟨_, rfl⟩
  have hqm : q ∈ Hand.good (m.map cRg) (r.map cRn) := by rw [hq]; cases high <;> simp [hends.1, hends.2.1]
  have hs1 := HSV.out
  rw [if_pos hpl] at hs1
  have hs2 := HSW.out
  rw [if_pos hpl, ← hq] at hs2
  simp only [Prod.mk.injEq] at hs1 hs2
  obtain ⟨hslo, hshi, rfl⟩ := hs1
  obtain ⟨rfl, rfl⟩ := hs2
  have hq12 : p.length ≤ 12 := by omega
  have HSTR := Aw.mk (fun (x : Rt) (hx : x ∈ Hand.good (m.map cRg) (r.map cRn)) => good_stretch he hx p hseg.1 hq12 20000 (by omega))
  have hm3 : (m.map cRg).length ≤ 3 := by rw [List.length_map]; exact h3
  have HARE : Aw (tensileref05_AreRates.f 20000 m (q.list m.length) = some true) := ⟨by
    have h1 := areRates_f m (q.list m.length) (by omega) 20000 (by omega)
    have h2 := lists_own (m.map cRg) hm3 q (List.mem_filter.1 hqm).1
    rw [List.length_map] at h2
    rw [h1, h2]⟩
  have HALW : Aw (tensileref05_Allows.f 20000 r (q.list m.length) = some true) := ⟨by
    have h2 := rt_of_list (m.map cRg) hm3 q (List.mem_filter.1 hqm).1
    rw [List.length_map] at h2
    have h1 := allows_f (l := q.list m.length) he (take_len q _ h3) (by rw [h2]; exact lists_rtok (val_of he) q (List.mem_filter.1 hqm).1) 20000 (by omega)
    rw [h1, h2, (List.mem_filter.1 hqm).2]⟩
  have HENDS := Aw.mk hends
  have HQ := Aw.mk hq
  have HQM := Aw.mk hqm
  have HSLO := Aw.mk hslo
  have HSHI := Aw.mk hshi
  have HGN := Aw.mk hgn
  clear HSV HSW hpl hends hgn he hp hseg hq hqm hslo hshi hm3
  generalize Hand.good (m.map cRg) (r.map cRn) = gd at *
  go_wp2_with fail
  refine (tensileref05_Allowed.calls 20000 A0 c0 m A1 c1 r (gd.map fun q => q.list m.length) _ HR0.out HC0.out HR1.out HC1.out HALL.out).mono ?_
  rintro e w14 ⟨v, rfl, hN, hb⟩
  obtain ⟨A14, c14, rfl, hk, hC⟩ := Kd.N_reads hN
  rw [List.length_map] at hk hC ⊢
  have HK14 := Aw.mk hk
  clear lH4 lH9
  clear d4 d9 d9b
  replace HB := Aw.mk (HB.out.trans (hb.mono HB.out.size))
  replace H4 := Aw.mk (H4.out.below hb H4.out.lt)
  replace HR0 := Aw.mk (Kd.C_below HR0.out hb)
  replace HR1 := Aw.mk (Kd.C_below HR1.out hb)
  replace HR2 := Aw.mk (Kd.C_below HR2.out hb)
  replace HM0 := Aw.mk (Kd.C_below HM0.out hb)
  replace HN0 := Aw.mk (Kd.C_below HN0.out hb)
  replace HP0 := Aw.mk (Kd.C_below HP0.out hb)
  replace H9 := Aw.mk (H9.out.below hb H9.out.lt)
  replace HM1 := Aw.mk (Kd.C_below HM1.out hb)
  replace HN1 := Aw.mk (Kd.C_below HN1.out hb)
  replace HP1 := Aw.mk (Kd.C_below HP1.out hb)
  replace HS11 := Aw.mk (Kd.C_below HS11.out hb)
  have HAL := Aw.mk hC
  clear hb
  have lH4 : B4 < w14.heap.size := H4.out.lt
  have lH9 : B9 < w14.heap.size := H9.out.lt
  have d4 : w14.cell? ⟨B4, 0, none⟩ = some (.slice A0 m.length c0) := H4.out.cell 0
  have d9 : w14.cell? ⟨B9, 0, none⟩ = some (.int .i64 slo) := H9.out.cell 0
  have d9b : w14.cell? ⟨B9, 1, none⟩ = some (.int .i64 shi) := H9.out.cell 1
  have hg0 : 0 < gd.length := List.length_pos_iff.2 HGN.out
  obtain ⟨x, o, hA14, hrows⟩ := rows_at2 h3 gd HAL.out hg0
  subst hA14
  have HROWS := Aw.mk hrows
  obtain ⟨A00, c00, r0, hk00, hC00⟩ := hrows 0 hg0
  have r0 : w14.cell? ⟨x, o, none⟩ = some (.slice A00 m.length c00) := r0
  have hg0z : (0 : Int) < (gd.length : Int) := by omega
  have HK00 := Aw.mk hk00
  have HC00 := Aw.mk hC00
  have HBA := Aw.mk (Below.refl w14.heap.size w14)
  clear hrows hk00 hC00
  go_wp2_with fail
  have HS0 := tensileref05_Stretch.calls 20000 A2 c2 p A00 c00 ((gd[0]).list m.length) (Hand.stLo gd[0] (p.map cSg)) (Hand.stHi gd[0] (p.map cSg)) w14 (Kd.C_below HR2.out HBA.out) HC2.out (by rw [take_len _ _ h3]; exact HC00.out) (by rw [take_len _ _ h3]; exact HK00.out) (HSTR.out _ (List.getElem_mem hg0))
  rw [take_len _ _ h3] at HS0
  refine (HS0).mono ?_
  rintro e w15 ⟨rfl, hb⟩
  replace HBA := Aw.mk (HBA.out.trans (hb.mono HBA.out.size))
  clear hb
  go_wp2_with fail
  clear HS0
  obtain ⟨B15, hB15⟩ : ∃ b, b = w15.heap.size := ⟨_, rfl⟩
  obtain ⟨w16, hw16⟩ : ∃ v, v = w15.alloc (.cells #[.int .i64 (Hand.stLo gd[0] (p.map cSg)), .int .i64 (Hand.stHi gd[0] (p.map cSg))] 54) := ⟨_, rfl⟩
  have hb : Below w15.heap.size w15 w16 := by rw [hw16]; exact (Below.refl _ _).alloc (Nat.le_refl _) _
  have H15 := Aw.mk (show Blk w16 B15 #[.int .i64 (Hand.stLo gd[0] (p.map cSg)), .int .i64 (Hand.stHi gd[0] (p.map cSg))] 54 by rw [hw16, hB15]; exact Blk.new _ _ _)
  rw [← hB15, ← hw16]
  have hge15 : w14.heap.size ≤ B15 := by rw [hB15]; exact HBA.out.size
  replace HBA := Aw.mk (HBA.out.trans (hb.mono HBA.out.size))
  clear hb hB15 hw16
  have lH15 : B15 < w16.heap.size := H15.out.lt
  have HST := Aw.mk (show Below w14.heap.size w14 w16 ∧ Blk w16 B15 #[.int .i64 ((gd.take 0).foldl (wst (p.map cSg)) (Hand.stLo gd[0] (p.map cSg), Hand.stHi gd[0] (p.map cSg))).1, .int .i64 ((gd.take 0).foldl (wst (p.map cSg)) (Hand.stLo gd[0] (p.map cSg), Hand.stHi gd[0] (p.map cSg))).2] 54 from ⟨HBA.out, H15.out⟩)
  clear H15 HBA lH15
  go_loopg [16] gd.length (fun gg s16 wr => ∃ i : Nat, i ≤ gd.length ∧ gd.length - i ≤ gg ∧ s16 = .int .i64 i ∧ Aw (Below w14.heap.size w14 wr ∧ Blk wr B15 #[.int .i64 ((gd.take i).foldl (wst (p.map cSg)) (Hand.stLo gd[0] (p.map cSg), Hand.stHi gd[0] (p.map cSg))).1, .int .i64 ((gd.take i).foldl (wst (p.map cSg)) (Hand.stLo gd[0] (p.map cSg), Hand.stHi gd[0] (p.map cSg))).2] 54))
  case atStart => exact ⟨0, Nat.zero_le _, by omega, rfl, HST⟩
  case round =>
  obtain ⟨i, hi, hgi, rfl, HJ⟩ := hrel
  by_cases hil : i < gd.length
  · have hilz : (i : Int) < (gd.length : Int) := by omega
    obtain ⟨Ai, ci, r1, hk1, hC1⟩ := HROWS.out i hil
    have r2 := Hand.held_cell r1 HJ.out.1
    have HSI := tensileref05_Stretch.calls 20000 A2 c2 p Ai ci ((gd[i]).list m.length) (Hand.stLo gd[i] (p.map cSg)) (Hand.stHi gd[i] (p.map cSg)) wr (Kd.C_below HR2.out HJ.out.1) HC2.out (by rw [take_len _ _ h3]; exact Kd.C_below hC1 HJ.out.1) (by rw [take_len _ _ h3]; exact hk1) (HSTR.out _ (List.getElem_mem hil))
    rw [take_len _ _ h3] at HSI
    have HWT := Aw.mk (wst_take (p.map cSg) (Hand.stLo gd[0] (p.map cSg), Hand.stHi gd[0] (p.map cSg)) gd i hil)
    obtain ⟨z, hz⟩ : ∃ z, z = (gd.take i).foldl (wst (p.map cSg)) (Hand.stLo gd[0] (p.map cSg), Hand.stHi gd[0] (p.map cSg)) := ⟨_, rfl⟩
    rw [← hz] at HJ HWT
    have HSI := Aw.mk HSI
    clear r1 hC1 hk1 hz
    obtain ⟨z1, z2⟩ := z
    have HQI := Aw.mk (show wst (p.map cSg) (z1, z2) gd[i] = (Hand.mn z1 (Hand.stLo gd[i] (p.map cSg)), Hand.mx z2 (Hand.stHi gd[i] (p.map cSg))) from rfl)
    generalize Hand.stLo gd[i] (p.map cSg) = yl at *
    generalize Hand.stHi gd[i] (p.map cSg) = yh at *
    go_wp2_with fail
    refine HSI.out.mono ?_
    rintro e wn ⟨rfl, hb⟩
    have h15 := HJ.out.2.below hb HJ.out.2.lt
    have HBN := Aw.mk (HJ.out.1.trans (hb.mono HJ.out.1.size))
    have e15 : wn.cell? ⟨B15, 0, none⟩ = some (.int .i64 z1) := h15.cell 0
    have e15b : wn.cell? ⟨B15, 1, none⟩ = some (.int .i64 z2) := h15.cell 1
    have z15 : wn.frozen? ⟨B15, 0, none⟩ = false := h15.frozen 0
    have z15b : wn.frozen? ⟨B15, 1, none⟩ = false := h15.frozen 1
    have l15 : B15 < wn.heap.size := h15.lt
    have H15 := Aw.mk h15
    have wq : IntKind.i64.wrap ((i : Int) + 1) = (i : Int) + 1 := IntWalk.i64_in _ (by omega)
    clear hb h15 r2
    go_wp2_with fail
    go_roundg (gd.length - (i + 1))
    case measure => omega
    case rel =>
      refine ⟨i + 1, by omega, by omega, by go_num, ⟨?_, ?_⟩⟩
      · have hx := (HBN.out.setCell (p := ⟨B15, 0, none⟩) hge15 (.int .i64 (Hand.mn z1 yl))).setCell (p := ⟨B15, 1, none⟩) hge15 (.int .i64 (Hand.mx z2 yh))
        exact hx.alloc hx.size _
      · rw [HWT.out, HQI.out]
        exact ((H15.out.set 0 _).set 1 _).alloc _
  have hilz : decide ((i : Int) < (gd.length : Int)) = false := decide_eq_false (by omega)
  obtain rfl : i = gd.length := by omega
  rw [List.take_length] at HJ
  have hfin : gd.foldl (wst (p.map cSg)) (Hand.stLo gd[0] (p.map cSg), Hand.stHi gd[0] (p.map cSg)) = (slo, shi) := by rw [wst_ends _ _ hg0, HSLO.out, HSHI.out]
  rw [hfin] at HJ
  have h4w := H4.out.below HJ.out.1 H4.out.lt
  have h9w := H9.out.below HJ.out.1 H9.out.lt
  have d4 : wr.cell? ⟨B4, 0, none⟩ = some (.slice A0 m.length c0) := h4w.cell 0
  have d9 : wr.cell? ⟨B9, 0, none⟩ = some (.int .i64 slo) := h9w.cell 0
  have d9b : wr.cell? ⟨B9, 1, none⟩ = some (.int .i64 shi) := h9w.cell 1
  have d15 : wr.cell? ⟨B15, 0, none⟩ = some (.int .i64 slo) := HJ.out.2.cell 0
  have d15b : wr.cell? ⟨B15, 1, none⟩ = some (.int .i64 shi) := HJ.out.2.cell 1
  have hbw : Below w14.heap.size w14 wr := HJ.out.1
  clear h4w h9w hfin r0
  go_wp2_with fail
  go_region_held3 (fun V => V.cell? ⟨B4, 0, none⟩ = some (.slice A0 m.length c0) ∧ V.cell? ⟨B9, 0, none⟩ = some (.int .i64 slo) ∧ V.cell? ⟨B9, 1, none⟩ = some (.int .i64 shi) ∧ V.cell? ⟨B15, 0, none⟩ = some (.int .i64 slo) ∧ V.cell? ⟨B15, 1, none⟩ = some (.int .i64 shi) ∧ Below w14.heap.size w14 V)
    (first
      | (go_split_ands; exact ⟨by assumption, by assumption, by assumption, by assumption, by assumption, by assumption⟩)
      | (go_split_ands; refine ⟨?_, ?_, ?_, ?_, ?_, ?_⟩ <;> first | (refine Hand.held_cell ?_ hb; assumption) | (refine Below.trans (by assumption) (hb.mono (by first | exact Below.size (by assumption)))))
      | (go_split_ands; exact ⟨by assumption, by assumption, by assumption, by assumption, by assumption, Below.drew (by assumption)⟩))
    (first
      | (go_at_call 41; with_reducible refine (tensilelaw05_to.calls slo shi slo shi _ rfl).mono ?_; rintro e w' ⟨rfl, hb⟩)
      | (go_at_call 46; go_split_ands; with_reducible refine (tensileref05_AreRates.calls 20000 A0 c0 m A11 c11 (q.list m.length) true _ (Kd.C_below HR0.out (by assumption)) HC0.out (Kd.C_below HS11.out (by assumption)) HK11.out HARE.out).mono ?_; rintro e w' ⟨rfl, hb⟩)
      | (go_at_call 47; go_split_ands; with_reducible refine (tensileref05_Allows.calls 20000 A1 c1 r A11 c11 (q.list m.length) true _ (Kd.C_below HR1.out (by assumption)) HC1.out (Kd.C_below HS11.out (by assumption)) HK11.out HALW.out).mono ?_; rintro e w' ⟨rfl, hb⟩))
  all_goals (go_split_ands; dsimp only [Exit.then]; go_wp2_with fail)
  refine (tensileref05_Stretch.calls 20000 A2 c2 p A11 c11 (q.list m.length) (Hand.stLo q (p.map cSg)) (Hand.stHi q (p.map cSg)) _ (Kd.C_below HR2.out (by assumption)) HC2.out (Kd.C_below HS11.out (by assumption)) HK11.out (HSTR.out q HQM.out)).mono ?_
  rintro e wz ⟨rfl, hb⟩
  have e15 : wz.cell? ⟨B15, 0, none⟩ = some (.int .i64 slo) := Hand.held_cell (by assumption) hb
  have e15b : wz.cell? ⟨B15, 1, none⟩ = some (.int .i64 shi) := Hand.held_cell (by assumption) hb
  have l15 : B15 < wz.heap.size := block_lt_of_cell e15
  have hbz : Below w14.heap.size w14 wz := Below.trans (by assumption) (hb.mono (Below.size (by assumption)))
  have HBZ := Aw.mk (HB.out.trans (hbz.mono HB.out.size))
  clear hb hbz
  cases high with
  | true =>
    have hq2 : Hand.stHi q (p.map cSg) = shi := by rw [HSHI.out, HQ.out]; rfl
    rw [hq2]
    clear hq2
    generalize Hand.stLo q (p.map cSg) = ql at *
    go_wp2_with fail
    refine (tensilelaw05_awake.calls true _ rfl).mono ?_
    rintro e wy ⟨rfl, hb⟩
    have hx := HBZ.out.alloc HBZ.out.size (.cells #[.int .i64 ql, .int .i64 shi] 54)
    have HBY := Aw.mk (hx.trans (hb.mono hx.size))
    clear hb hx
    go_wp2_with fail
    go_ret
    exact ⟨rfl, HBY.out⟩
  | false =>
    have hq2 : Hand.stLo q (p.map cSg) = slo := by rw [HSLO.out, HQ.out]; rfl
    rw [hq2]
    clear hq2
    generalize Hand.stHi q (p.map cSg) = qh at *
    go_wp2_with fail
    refine (tensilelaw05_awake.calls true _ rfl).mono ?_
    rintro e wy ⟨rfl, hb⟩
    have hx := HBZ.out.alloc HBZ.out.size (.cells #[.int .i64 slo, .int .i64 qh] 54)
    have HBY := Aw.mk (hx.trans (hb.mono hx.size))
    clear hb hx
    go_wp2_with fail
    go_ret
    exact ⟨rfl, HBY.out⟩
end Go.Proofs.Ytdagijgoegkphaa.Pure

namespace Go.Proofs.Ytdagijgoegkphaa.P
open Go.RowKit Go.Proofs.YtdagijgoegkphaaW.PrintWords
open Classical in
noncomputable def tensilelaw05_CreepStretches.f (m : List S54) (_ : List S81) (_ : List S56) (_ : Bool) : Option Bool := if ∀ s ∈ m, Fits54 s then some true else none
theorem tensilelaw05_CreepStretches.calls (A0 : Option Addr) (c0 : Nat) (m : List S54) (A1 : Option Addr) (c1 : Nat) (r : List S81) (A2 : Option Addr) (c2 : Nat) (p : List S56) (high : Bool) (res : Bool) (w : World) (hr0 : Kd.C k54 w A0 m.length m) (hc0 : m.length ≤ c0) (hr1 : Kd.C k81 w A1 r.length r) (hc1 : r.length ≤ c1) (hr2 : Kd.C k56 w A2 p.length p) (hc2 : p.length ≤ c2) (h : tensilelaw05_CreepStretches.f m r p high = some res) :
    Calls Try.prog 11 #[.agg #[.slice A0 m.length c0], .slice A1 r.length c1, .slice A2 p.length c2, .bool high] w fun e w' => e = .returned (.bool res) ∧ Below w.heap.size w w' := by
  unfold tensilelaw05_CreepStretches.f at h
  split at h
  · rename_i hm
    obtain rfl := Option.some.inj h
    exact Pure.stretches_calls A0 c0 m A1 c1 r A2 c2 p high w hr0 hc0 hr1 hc1 hr2 hc2 hm
  · cases h
end Go.Proofs.Ytdagijgoegkphaa.P
namespace Go.Proofs.Ytdagijgoegkphaa.Pure
open Go.Proofs.Ytdagijgoegkphaa.P
theorem CreepStretches (m : List S54) (r : List S81) (p : List S56) (high : Bool) (hm : ∀ s ∈ m, Fits54 s) (_ : ∀ s ∈ r, Fits81 s) (_ : ∀ s ∈ p, Fits56 s) : tensilelaw05_CreepStretches.f m r p high = some true := if_pos hm
end Go.Proofs.Ytdagijgoegkphaa.Pure

namespace Go.Proofs.Ytdagijgoegkphaa.creepStretches
open Go.ChangeShapes Go.WideShapes Go.ChangeAt Go.RowKit Go.Proofs.YtdagijgoegkphaaW.PrintWords
theorem own : ownKnob Try.prog.godebug = none := by kernel_rfl
theorem laidOut : laidOutB Try.prog = true := by kernel_rfl
set_option maxRecDepth 100000 in
theorem lifted (os : Os) (started : os.Started) (H : Type) (enc : TypeId × Value → H) :
    ReturnsInHanded {} Try.checked os 11 .any (Rows.creepStretchesSpec.pre6 enc Try.prog Try.f11 Rows.creepStretchesRow.domain false) (Rows.creepStretchesSpec.post enc Try.prog Try.f11 false true false false) := by
  refine returnsInHanded_of_change_sized (C := Try.checked) own started (by kernel_rfl) Try.func11
    (ChangeSpec.witness6 (enc := enc) (C := Try.checked) false ⟨#[], #[.agg #[.slice none 0 0], .slice none 0 0, .slice none 0 0, .bool false], []⟩ 8 (by kernel_rfl) (by kernel_rfl) (by kernel_rfl) (by kernel_rfl)) ?_
  intro W base args ds gs before hval0 hW hcnd hsz0 _
  have hval : ∀ (j : Nat) t v, Try.f11.params[j]? = some t → args[j]? = some v → Value.okWide Try.prog W .any base t v := hval0
  have hW' := hW
  obtain ⟨p, q, hA0, hV, rfl, hfz, hnd⟩ := hW
  have hA : DataW.TrodAll enc Try.prog W 0 (fun _ => true) true Try.f11.params.toList args.toList ds p := hA0
  rw [Try.params11] at hA hval
  obtain ⟨v0, vs0, d0, ds0, p0, q0, hargs, rfl, rfl, h0, r0⟩ := trodAll_cons hA
  obtain ⟨v1, vs1, d1, ds1, p1, q1, rfl, rfl, rfl, h1, r1⟩ := trodAll_cons r0
  obtain ⟨v2, vs2, d2, ds2, p2, q2, rfl, rfl, rfl, h2, r2⟩ := trodAll_cons r1
  obtain ⟨v3, vs3, d3, ds3, p3, q3, rfl, rfl, rfl, h3, r3⟩ := trodAll_cons r2
  obtain ⟨rfl, rfl, rfl⟩ := trodAll_nil r3
  obtain rfl : args = #[v0, v1, v2, v3] := by cases args; simp_all
  obtain ⟨rfl, rfl⟩ := trodVars_none hV
  have k0 := h0
  have lt0 : ∀ x ∈ p0, x.block < W.heap.size := by obtain ⟨m, hm⟩ := k0; exact DataW.trod_lt m _ _ _ hm
  obtain ⟨cs0, rfl, _⟩ := okWide_struct Try.underlying24 (hval 0 24 v0 rfl rfl)
  obtain ⟨A0, c0, l0, e0, hc0, hC0, y0⟩ : ∃ (A : Option Addr) (cap : Nat) (l : List P.S54), cs0 = #[.slice A l.length cap] ∧ l.length ≤ cap ∧ Kd.C P.k54 W A l.length l ∧ ∀ s ∈ l, P.Fits54 s := by
    obtain ⟨fuel, hf⟩ := h0
    obtain ⟨A, cap, l, e, h2, h3, h4⟩ := P.open24 hf
    exact ⟨A, cap, l, Array.toList_inj.1 e, h2, h3, h4⟩
  subst e0
  have k1 := h1
  have lt1 : ∀ x ∈ p1, x.block < W.heap.size := by obtain ⟨m, hm⟩ := k1; exact DataW.trod_lt m _ _ _ hm
  obtain ⟨A1, len1, c1, rfl⟩ := okWide_slice Try.underlying25 (hval 1 25 v1 rfl rfl)
  obtain ⟨l1, rfl, hc1, hC1, y1⟩ : ∃ l : List P.S81, len1 = l.length ∧ l.length ≤ c1 ∧ Kd.C P.k81 W A1 l.length l ∧ ∀ s ∈ l, P.Fits81 s := by
    obtain ⟨fuel, hf⟩ := h1
    obtain ⟨A, cap, l, e, h1, h2, h3⟩ := P.open25 hf
    simp [Value.cells] at e
    obtain ⟨rfl, rfl, rfl⟩ := e
    exact ⟨l, rfl, h1, h2, h3⟩
  have k2 := h2
  have lt2 : ∀ x ∈ p2, x.block < W.heap.size := by obtain ⟨m, hm⟩ := k2; exact DataW.trod_lt m _ _ _ hm
  obtain ⟨A2, len2, c2, rfl⟩ := okWide_slice Try.underlying26 (hval 2 26 v2 rfl rfl)
  obtain ⟨l2, rfl, hc2, hC2, y2⟩ : ∃ l : List P.S56, len2 = l.length ∧ l.length ≤ c2 ∧ Kd.C P.k56 W A2 l.length l ∧ ∀ s ∈ l, P.Fits56 s := by
    obtain ⟨fuel, hf⟩ := h2
    obtain ⟨A, cap, l, e, h1, h2, h3⟩ := P.open26 hf
    simp [Value.cells] at e
    obtain ⟨rfl, rfl, rfl⟩ := e
    exact ⟨l, rfl, h1, h2, h3⟩
  obtain ⟨a3, rfl, rfl, rfl⟩ := Go.RowKit.open_bool Try.underlying4 (hval 3 4 v3 rfl rfl) h3
  clear hA0 hval0 hsz0
  have hP := Pure.CreepStretches l0 l1 l2 a3 y0 y1 y2
  refine (P.tensilelaw05_CreepStretches.calls A0 c0 l0 A1 c1 l1 A2 c2 l2 a3 true W hC0 hc0 hC1 hc1 hC2 hc2 hP).mono fun e W' ⟨he, bel⟩ => ?_
  subst he
  exact ⟨_, rfl, _, _, _, [], _, [], hW', trodAll_mk1 (shut_bool Try.underlying4 _), (trodAll_cons_mk (Below.trod laidOut (by kernel_rfl) (of_decide_eq_true (by kernel_rfl)) k0 bel lt0) (trodAll_cons_mk (Below.trod laidOut (by kernel_rfl) (of_decide_eq_true (by kernel_rfl)) k1 bel lt1) (trodAll_cons_mk (Below.trod laidOut (by kernel_rfl) (of_decide_eq_true (by kernel_rfl)) k2 bel lt2) (trodAll_cons_mk (shut_bool Try.underlying4 _) trodAll_mk0)))), rfl, bel.frame _, fun h => by cases h⟩
theorem over : Rows.creepStretchesRow.holds Try.pinned (OpenSpec.ofChange Rows.creepStretchesSpec) :=
  OpenClaim.holds_of_wide 11 Try.f11 rfl rfl rfl rfl rfl rfl rfl ⟨rfl, rfl, rfl, rfl, rfl⟩ rfl rfl rfl rfl rfl (by kernel_rfl) Try.func11 (by kernel_rfl)
    (of_decide_eq_true (by kernel_rfl)) (by unfold Func.isWrapper; first | (rw [if_pos (by decide +kernel)]; kernel_rfl) | (rw [if_neg (by decide +kernel)]; exact ⟨rfl, rfl⟩))
    (fun os started H enc _ => lifted os started H enc)
theorem proved : Rows.CreepStretchesSaid := over
end Go.Proofs.Ytdagijgoegkphaa.creepStretches
namespace Go.Proofs.Ytdagijgoegkphaa
theorem creepStretches_holds : Rows.CreepStretchesSaid := creepStretches.proved
end Go.Proofs.Ytdagijgoegkphaa
#print axioms Go.Proofs.Ytdagijgoegkphaa.creepStretches_holds
