/- The program's own functions that the statements of this seat reach, and what each call of them comes to, for any arguments. -/
import Derived.Test.YtdagijgoegkphaaC0
import Derived.Carry
import Derived.WalkMore
import Derived.Sort.LoopGhostIn
import Derived.Laws.MakeOwn
import Derived.BigQuiet
import Derived.Laws.AppendOwn
import Derived.WalkLawsBesides
set_option linter.unusedVariables false
set_option linter.unusedSimpArgs false
namespace Go.Proofs.Ytdagijgoegkphaa.Hand
open Go.RowKit Go.Shelf
attribute [local go_sem] run_makeMap
theorem fewP (w : World) : Rn.PredB 79 #[] #[] fewB (fun _ => True) w := fun W x _ _ => few_any x W
theorem runP (A : Option Addr) (n c : Nat) (hn : n ≤ 9223372036854775807) (w : World) : Rn.PredB 80 #[.agg #[.slice A n c]] #[] (runOk n) (fun x => Sg.At w x.sA x.zs ∧ x.zs.length ≤ 9223372036854775807) w :=
  fun W x hx hb => run_any A n c hn x.sA x.sc x.zs x.lo x.hi W (hx.1.below hb) hx.2
def EnterPost (A : Option Addr) (c : Nat) (ms : List Rg) (AR : Option Addr) (cR : Nat) (rs : List Rn) (w : World) (e : Ending) (w' : World) : Prop :=
  ∃ p, e = .returned (.tuple #[.pointer p, .int .i64 (enterErr ms rs)]) ∧ Below w.heap.size w w' ∧ ((p = none ∧ enterErr ms rs ≠ 0) ∨ ∃ x m, p = some ⟨x, 0, none⟩ ∧ enterErr ms rs = 0 ∧ w.heap.size ≤ x ∧ w.heap.size ≤ m ∧ Room A c ms AR cR rs x m w' ∧ Known rs m w')
theorem matErr_ne {ms : List Rg} (h : matErr ms ≠ 0) : matErr ms = 1 := by
  unfold matErr at *
  split at h
  · split at h
    · rename_i h1 h2; rw [if_pos h1, if_pos h2]
    · exact absurd rfl h
  · rename_i h1; rw [if_neg h1]
set_option maxHeartbeats 4000000 in
set_option maxRecDepth 10000 in
theorem enter_any (A : Option Addr) (c : Nat) (ms : List Rg) (AR : Option Addr) (cR : Nat) (rs : List Rn) (w : World) (hz : Rg.At w A ms) (hr : RunsAt w AR rs) (hbig : ms.length ≤ 9223372036854775807) (hbig2 : rs.length ≤ 9223372036854775807) :
    Calls Try.prog 53 #[.agg #[.slice A ms.length c], .slice AR rs.length cR] w (EnterPost A c ms AR cR rs w) := by
  obtain ⟨w1, hw1⟩ : ∃ w1, w1 = w.alloc (.cells #[.slice A ms.length c] 39) := ⟨_, rfl⟩
  have hbel : Below w.heap.size w w1 := by rw [hw1]; exact (Below.refl w.heap.size w).alloc (Nat.le_refl _) _
  have h2 : Blk w1 w.heap.size #[.slice A ms.length c] 39 := by rw [hw1]; exact Blk.new w _ _
  have HB := Aw.mk hbel
  have H2 := Aw.mk h2
  have HZ := Aw.mk (hz.below hbel)
  have HR := Aw.mk (hr.below hbel)
  have HW := Aw.mk hw1
  have hck := check_any A c ms w1 HZ.out hbig
  have e79 : ∀ args w, (callFunc 79 args).run Try.prog w = .ok (.enter 79 args) w := enters_of Try.func79 (by kernel_rfl) rfl
  have e80 : ∀ args w, (callFunc 80 args).run Try.prog w = .ok (.enter 80 args) w := enters_of Try.func80 (by kernel_rfl) rfl
  have HFEW := Aw.mk (fun W (h : RunsAt W AR rs) => Rn.all_any fewB (fun _ => True) 79 #[] #[] e79 AR cR rs W (fewP W) (fun _ _ => trivial) h.at_ hbig2)
  have HRUN := Aw.mk (fun W (h : RunsAt W AR rs) => Rn.all_any (runOk ms.length) _ 80 #[.agg #[.slice A ms.length c]] #[] e80 AR cR rs W (runP A ms.length c hbig W) (fun x hx => h.segs x hx) h.at_ hbig2)
  obtain ⟨me, hme⟩ : ∃ me, me = matErr ms := ⟨_, rfl⟩
  rw [← hme] at hck
  have HEE := Aw.mk (show enterErr ms rs = if me = 0 then (if rs.length ≤ 6 ∧ rs.all fewB = true then (if rs.all (runOk ms.length) = true then 0 else 1) else 3) else me by rw [hme]; rfl)
  have HME := Aw.mk hme
  clear hz hr hbel h2 e79 e80 hme
  rw [hw1] at hck
  clear hw1
  by_cases h0 : me = 0
  · subst h0
    have hee := HEE.out
    rw [if_pos rfl] at hee
    by_cases h6 : rs.length ≤ 6
    · have d6 : decide ((6 : Int) < (rs.length : Int)) = false := decide_eq_false (by omega)
      cases hf : rs.all fewB with
      | true =>
        rw [if_pos ⟨h6, hf⟩] at hee
        cases hru : rs.all (runOk ms.length) with
        | true =>
          rw [if_pos hru] at hee
          have HE := Aw.mk hee
          have HF := Aw.mk hf
          have HRU := Aw.mk hru
          clear hee hf hru
          go_enter Try.func53, Try.ntmps53
          go_wp2_with fail
          refine hck.mono ?_
          rintro e w2 ⟨rfl, hb2⟩
          rw [← HW.out] at hb2
          have HB2 := Aw.mk hb2
          have c1 : w2.cell? ⟨w.heap.size, 0, none⟩ = some (.slice A ms.length c) := (H2.out.below hb2 H2.out.lt).cell 0
          have l1 := (H2.out.below hb2 H2.out.lt).lt
          have HR2 := Aw.mk (HR.out.below hb2)
          clear hb2 hck
          go_wp2_with fail
          refine (HFEW.out w2 HR2.out).mono ?_
          rw [HF.out]
          rintro e w3 ⟨rfl, hb3⟩
          have HB3 := Aw.mk hb3
          have c2 : w3.cell? ⟨w.heap.size, 0, none⟩ = some (.slice A ms.length c) := held_cell c1 hb3
          have l2 := Nat.lt_of_lt_of_le l1 hb3.size
          have HR3 := Aw.mk (HR2.out.below hb3)
          clear hb3 c1 l1
          go_wp2_with fail
          refine (HRUN.out w3 HR3.out).mono ?_
          rw [HRU.out]
          rintro e w4 ⟨rfl, hb4⟩
          have HB4 := Aw.mk hb4
          have c3 : w4.cell? ⟨w.heap.size, 0, none⟩ = some (.slice A ms.length c) := held_cell c2 hb4
          clear hb4 c2 l2
          go_wp2_with fail
          have hb5 : Below w4.heap.size w4 ((w4.alloc (.map #[] 0)).alloc (.cells #[.slice A ms.length c, .slice AR rs.length cR, .map (some w4.heap.size)] 115)) := ((Below.refl _ _).alloc (Nat.le_refl _) _).alloc (by simp) _
          have hw4 := ((HB.out.trans (HB2.out.mono HB.out.size)).trans (HB3.out.mono (Nat.le_trans HB.out.size HB2.out.size))).trans (HB4.out.mono (Nat.le_trans HB.out.size (Nat.le_trans HB2.out.size HB3.out.size)))
          have hs := hw4.size
          refine bodyPost_ret (results_tmp2 rfl _ _ _) rfl ⟨some ⟨w4.heap.size + 1, 0, none⟩, by rw [HE.out]; rfl, hw4.trans (hb5.mono hs), .inr ⟨w4.heap.size + 1, w4.heap.size, rfl, HE.out, by omega, hs, ⟨?_, ?_, ?_⟩, #[], 0, ?_, ?_⟩⟩
          · have := Blk.new (w4.alloc (.map #[] 0)) #[.slice A ms.length c, .slice AR rs.length cR, .map (some w4.heap.size)] 115
            simpa using this
          · exact ((HZ.out.below (HB2.out.trans ((HB3.out.trans (HB4.out.mono HB3.out.size)).mono HB2.out.size))).below hb5)
          · exact (HR3.out.below HB4.out).below hb5
          · show ((w4.alloc (.map #[] 0)).alloc _).heap[w4.heap.size]? = _
            rw [Below.heap_alloc _ _ _ (by simp)]
            exact World.alloc_heap_new w4 _
          · intro e he
            simp at he
        | false =>
          rw [if_neg (by rw [hru]; decide)] at hee
          have HE := Aw.mk hee
          have HF := Aw.mk hf
          have HRU := Aw.mk hru
          clear hee hf hru
          go_enter Try.func53, Try.ntmps53
          go_wp2_with fail
          refine hck.mono ?_
          rintro e w2 ⟨rfl, hb2⟩
          rw [← HW.out] at hb2
          have HB2 := Aw.mk hb2
          have c1 : w2.cell? ⟨w.heap.size, 0, none⟩ = some (.slice A ms.length c) := (H2.out.below hb2 H2.out.lt).cell 0
          have l1 := (H2.out.below hb2 H2.out.lt).lt
          have HR2 := Aw.mk (HR.out.below hb2)
          clear hb2 hck
          go_wp2_with fail
          refine (HFEW.out w2 HR2.out).mono ?_
          rw [HF.out]
          rintro e w3 ⟨rfl, hb3⟩
          have HB3 := Aw.mk hb3
          have c2 : w3.cell? ⟨w.heap.size, 0, none⟩ = some (.slice A ms.length c) := held_cell c1 hb3
          have l2 := Nat.lt_of_lt_of_le l1 hb3.size
          have HR3 := Aw.mk (HR2.out.below hb3)
          clear hb3 c1 l1
          go_wp2_with fail
          refine (HRUN.out w3 HR3.out).mono ?_
          rw [HRU.out]
          rintro e w4 ⟨rfl, hb4⟩
          have HB4 := Aw.mk hb4
          have c3 : w4.cell? ⟨w.heap.size, 0, none⟩ = some (.slice A ms.length c) := held_cell c2 hb4
          clear hb4 c2 l2
          go_wp2_with fail
          refine bodyPost_ret (results_tmp2 rfl _ _ _) rfl ⟨none, by rw [HE.out]; rfl, ((HB.out.trans (HB2.out.mono HB.out.size)).trans (HB3.out.mono (Nat.le_trans HB.out.size HB2.out.size))).trans (HB4.out.mono (Nat.le_trans HB.out.size (Nat.le_trans HB2.out.size HB3.out.size))), .inl ⟨rfl, by rw [HE.out]; decide⟩⟩
      | false =>
        rw [if_neg (by rw [hf]; simp)] at hee
        have HE := Aw.mk hee
        have HF := Aw.mk hf
        clear hee hf
        go_enter Try.func53, Try.ntmps53
        go_wp2_with fail
        refine hck.mono ?_
        rintro e w2 ⟨rfl, hb2⟩
        rw [← HW.out] at hb2
        have HB2 := Aw.mk hb2
        have c1 : w2.cell? ⟨w.heap.size, 0, none⟩ = some (.slice A ms.length c) := (H2.out.below hb2 H2.out.lt).cell 0
        have l1 := (H2.out.below hb2 H2.out.lt).lt
        have HR2 := Aw.mk (HR.out.below hb2)
        clear hb2 hck
        go_wp2_with fail
        refine (HFEW.out w2 HR2.out).mono ?_
        rw [HF.out]
        rintro e w3 ⟨rfl, hb3⟩
        have HB3 := Aw.mk hb3
        have c2 : w3.cell? ⟨w.heap.size, 0, none⟩ = some (.slice A ms.length c) := held_cell c1 hb3
        have l2 := Nat.lt_of_lt_of_le l1 hb3.size
        have HR3 := Aw.mk (HR2.out.below hb3)
        clear hb3 c1 l1
        go_wp2_with fail
        refine bodyPost_ret (results_tmp2 rfl _ _ _) rfl ⟨none, by rw [HE.out]; rfl, (HB.out.trans (HB2.out.mono HB.out.size)).trans (HB3.out.mono (Nat.le_trans HB.out.size HB2.out.size)), .inl ⟨rfl, by rw [HE.out]; decide⟩⟩
    · have d6 : decide ((6 : Int) < (rs.length : Int)) = true := decide_eq_true (by omega)
      rw [if_neg (fun h => h6 h.1)] at hee
      have HE := Aw.mk hee
      clear hee h6
      go_enter Try.func53, Try.ntmps53
      go_wp2_with fail
      refine hck.mono ?_
      rintro e w2 ⟨rfl, hb2⟩
      rw [← HW.out] at hb2
      have HB2 := Aw.mk hb2
      have c1 : w2.cell? ⟨w.heap.size, 0, none⟩ = some (.slice A ms.length c) := (H2.out.below hb2 H2.out.lt).cell 0
      have l1 := (H2.out.below hb2 H2.out.lt).lt
      have HR2 := Aw.mk (HR.out.below hb2)
      clear hb2 hck
      go_wp2_with fail
      refine bodyPost_ret (results_tmp2 rfl _ _ _) rfl ⟨none, by rw [HE.out]; rfl, HB.out.trans (HB2.out.mono HB.out.size), .inl ⟨rfl, by rw [HE.out]; decide⟩⟩
  · have hm := HME.out
    have hme1 : me = 1 := by rw [hm]; exact matErr_ne (by rw [← hm]; exact h0)
    subst hme1
    have HE := Aw.mk (show enterErr ms rs = 1 by rw [HEE.out, if_neg (by decide)])
    clear hm h0
    go_enter Try.func53, Try.ntmps53
    go_wp2_with fail
    refine hck.mono ?_
    rintro e w2 ⟨rfl, hb2⟩
    rw [← HW.out] at hb2
    have HB2 := Aw.mk hb2
    have c1 : w2.cell? ⟨w.heap.size, 0, none⟩ = some (.slice A ms.length c) := (H2.out.below hb2 H2.out.lt).cell 0
    have l1 := (H2.out.below hb2 H2.out.lt).lt
    have HR2 := Aw.mk (HR.out.below hb2)
    clear hb2 hck
    go_wp2_with fail
    refine bodyPost_ret (results_tmp2 rfl _ _ _) rfl ⟨none, by rw [HE.out]; rfl, HB.out.trans (HB2.out.mono HB.out.size), .inl ⟨rfl, by rw [HE.out]; decide⟩⟩
end Go.Proofs.Ytdagijgoegkphaa.Hand

namespace Go.Proofs.Ytdagijgoegkphaa.Hand
open Go.RowKit Go.Shelf
def UpQ (m : Nat) (b : Bool) (rs : List Rn) (w0 : World) (Q : Exit → Act → World → Prop) : Prop :=
  ∀ (a : Act) (W : World), a.defers = [] → a.tmps.size = 44 → a.tmps.getD 5 undef = .bool b → Chg (fun k => k = m) w0 W → Known rs m W → Q .normal a W
set_option maxHeartbeats 4000000 in
set_option maxRecDepth 10000 in
theorem upd_region (x B3 m : Nat) (r : Rt) (rs : List Rn) (c0 c1 : Value) (b : Bool) (hb : b = allowedB rs r) (a0 : Act) (w0 : World) (Q : Exit → Act → World → Prop) (hsz : a0.tmps.size = 44) (hdf : a0.defers = [])
    (f0 : a0.tmps.getD 0 undef = .pointer (some ⟨x, 0, none⟩)) (f3 : a0.tmps.getD 3 undef = .pointer (some ⟨B3, 0, none⟩)) (f5 : a0.tmps.getD 5 undef = .bool b)
    (hx : Blk w0 x #[c0, c1, .map (some m)] 115) (h3 : Blk w0 B3 r.cells 101) (hk : Known rs m w0) (hQ : UpQ m b rs w0 Q) :
    (Code.region 12 (opsOf Try.f55 12) true).wpIn Fence.wide 0 Try.prog Q a0 w0 := by
  obtain ⟨es, clock, hm, hents⟩ := hk
  obtain ⟨es2, clock2, hU, hents2⟩ := update_any (allowedB rs) r m es clock hents
  rw [← hb] at hU
  refine region_walk (rd := none) 6 (fun i => i + 37) (by kernel_rfl) (by kernel_rfl) (by rw [hsz]; kernel_rfl)
    (fun W => Blk W x #[c0, c1, .map (some m)] 115 ∧ Blk W B3 r.cells 101 ∧ W.heap[m]? = some (.map es clock) ∧ Below w0.heap.size w0 W)
    (fun i v W => match i with
      | 0 => v = .pointer (some ⟨x, 0, none⟩)
      | 1 => v = .pointer (some ⟨x, 0, none⟩)
      | 2 => v = .pointer (some ⟨x, 2, none⟩)
      | 3 => v = .map (some m)
      | 4 => v = .agg #[.int .i64 r.r0, .int .i64 r.r1, .int .i64 r.r2]
      | _ => v = .bool b)
    (fun W W' hb h => ⟨h.1.below hb h.1.lt, h.2.1.below hb h.2.1.lt, (hb.block m (Array.getElem?_eq_some_iff.1 h.2.2.1).1).trans h.2.2.1, h.2.2.2.trans (hb.mono h.2.2.2.size)⟩) ?hSp ⟨hx.drew, h3.drew, hm, (Below.refl _ _).drew⟩ ?hop ?hlast
  case hSp =>
    intro i v W W' hi hb h
    match i, h with
    | 0, h | 1, h | 2, h | 3, h | 4, h => exact h
    | _ + 5, h => exact h
  case hop =>
    intro i a W hiB hN' hfix hBW hdep
    have f0 : a.tmps.getD 0 undef = .pointer (some ⟨x, 0, none⟩) := (hfix 0 (fun j _ => by omega)).trans f0
    have f3 : a.tmps.getD 3 undef = .pointer (some ⟨B3, 0, none⟩) := (hfix 3 (fun j _ => by omega)).trans f3
    have f5 : a.tmps.getD 5 undef = .bool b := (hfix 5 (fun j _ => by omega)).trans f5
    have e0 : ∀ x, a.eval (.tmp x) = a.tmps.getD x undef := fun _ => rfl
    have g0 : W.cell? ⟨x, 2, none⟩ = some (.map (some m)) := hBW.1.cell 2
    have g1 : W.cell? ⟨B3, 0, none⟩ = some (.int .i64 r.r0) := hBW.2.1.cell 0
    have g2 : W.cell? ⟨B3, 1, none⟩ = some (.int .i64 r.r1) := hBW.2.1.cell 1
    have g3 : W.cell? ⟨B3, 2, none⟩ = some (.int .i64 r.r2) := hBW.2.1.cell 2
    clear hQ hBW hU hb
    match i, hN', hiB, hdep with
    | 0, _, _, hdep =>
      refine OpOk.val (v := .pointer (some ⟨x, 0, none⟩)) (w' := W) ?_ ⟨Below.refl _ _, rfl⟩
      show (execOp a.eval { dst := some 37, op := Op.move (.tmp 0), type := _, pos := _, after := _, guard := none }).run Try.prog W = _
      simp only [execOp, List.map_toArray, List.map_cons, List.map_nil, e0, f0]
      go_simp
    | 1, _, _, hdep =>
      have d37 : a.tmps.getD 37 undef = .pointer (some ⟨x, 0, none⟩) := hdep 0 rfl
      refine OpOk.val (v := .pointer (some ⟨x, 0, none⟩)) (w' := W) ?_ ⟨Below.refl _ _, rfl⟩
      show (execOp a.eval { dst := some 38, op := Op.nilCheck (.tmp 37), type := _, pos := _, after := _, guard := none }).run Try.prog W = _
      simp only [execOp, List.map_toArray, List.map_cons, List.map_nil, e0, d37]
      go_simp
    | 2, _, _, hdep =>
      have d38 : a.tmps.getD 38 undef = .pointer (some ⟨x, 0, none⟩) := hdep 1 rfl
      refine OpOk.val (v := .pointer (some ⟨x, 2, none⟩)) (w' := W) ?_ ⟨Below.refl _ _, rfl⟩
      show (execOp a.eval { dst := some 39, op := Op.fieldAddr 115 (.tmp 38) 2, type := _, pos := _, after := _, guard := none }).run Try.prog W = _
      simp only [execOp, List.map_toArray, List.map_cons, List.map_nil, e0, d38]
      go_simp
    | 3, _, _, hdep =>
      have d39 : a.tmps.getD 39 undef = .pointer (some ⟨x, 2, none⟩) := hdep 2 rfl
      refine OpOk.val (v := .map (some m)) (w' := W) ?_ ⟨Below.refl _ _, rfl⟩
      show (execOp a.eval { dst := some 40, op := Op.load 113 (.tmp 39), type := _, pos := _, after := _, guard := none }).run Try.prog W = _
      simp only [execOp, List.map_toArray, List.map_cons, List.map_nil, e0, d39]
      go_simp
    | 4, _, _, hdep =>
      refine OpOk.val (v := .agg #[.int .i64 r.r0, .int .i64 r.r1, .int .i64 r.r2]) (w' := W) ?_ ⟨Below.refl _ _, rfl⟩
      show (execOp a.eval { dst := some 41, op := Op.load 101 (.tmp 3), type := _, pos := _, after := _, guard := none }).run Try.prog W = _
      simp only [execOp, List.map_toArray, List.map_cons, List.map_nil, e0, f3]
      go_simp
    | 5, _, _, hdep =>
      refine OpOk.val (v := .bool b) (w' := W) ?_ ⟨Below.refl _ _, rfl⟩
      show (execOp a.eval { dst := some 42, op := Op.move (.tmp 5), type := _, pos := _, after := _, guard := none }).run Try.prog W = _
      simp only [execOp, List.map_toArray, List.map_cons, List.map_nil, e0, f5]
      go_simp
    | kk + 6, h, _, _ => exact absurd h (by omega)
  case hlast =>
    intro a W e1 e2 hfix hBW hall
    have f5 : a.tmps.getD 5 undef = .bool b := (hfix 5 (fun j _ => by omega)).trans f5
    have d40 : a.tmps.getD 40 undef = .map (some m) := hall 3 (by omega)
    have d41 : a.tmps.getD 41 undef = .agg #[.int .i64 r.r0, .int .i64 r.r1, .int .i64 r.r2] := hall 4 (by omega)
    have d42 : a.tmps.getD 42 undef = .bool b := hall 5 (by omega)
    have e0 : ∀ x, a.eval (.tmp x) = a.tmps.getD x undef := fun _ => rfl
    have hm' : W.heap[m]? = some (.map es clock) := hBW.2.2.1
    have hUW := hU W hm'
    unfold Rt.enc Rt.cells at hUW
    refine OpOk.skip (w' := W.putObj m (.map es2 clock2)) ?_ ?_
    · show (execOp a.eval { dst := none, op := Op.mapUpdate 113 (.tmp 40) (.tmp 41) (.tmp 42), type := _, pos := _, after := _, guard := none }).run Try.prog W = _
      simp only [execOp, e0, d40, d41, d42]
      simp only [Sem.run_bind, hUW, Result.andThen_ok]
      rfl
    · refine hQ _ _ (e1.trans hdf) (e2.trans hsz) f5 ((Chg.below hBW.2.2.2 (fun k => k = m)).putObj (.inl rfl) _) ⟨es2, clock2, World.putObj_heap_same (Array.getElem?_eq_some_iff.1 hm').1, hents2⟩
end Go.Proofs.Ytdagijgoegkphaa.Hand

namespace Go.Proofs.Ytdagijgoegkphaa.Hand
open Go.RowKit Go.Shelf
def runsOk (rs : List Rn) : Prop := ∀ x ∈ rs, x.zs.length ≤ 8 ∧ ∀ s ∈ x.zs, s.ok
structure JAl (w1 : World) (B3 : Nat) (r : Rt) (rs : List Rn) (kk : Nat) (wr : World) : Prop where
  bel : Below w1.heap.size w1 wr
  h3 : Blk wr B3 r.cells 101
  ok : ∀ x ∈ rs.take kk, allowsB r x.zs x.lo x.hi = true
def AllowedPost (rs : List Rn) (m : Nat) (r : Rt) (w : World) (e : Ending) (w' : World) : Prop :=
  e = .returned (.bool (allowedB rs r)) ∧ Chg (fun k => k = m) w w' ∧ Known rs m w'
set_option maxHeartbeats 8000000 in
set_option maxRecDepth 10000 in
theorem allowed_any (A : Option Addr) (c : Nat) (ms : List Rg) (AR : Option Addr) (cR : Nat) (rs : List Rn) (x m : Nat) (r : Rt) (w : World) (hR : Room A c ms AR cR rs x m w) (hK : Known rs m w) (hr : r.ok) (hrs : runsOk rs) (hbig : rs.length ≤ 9223372036854775807) :
    Calls Try.prog 55 #[.pointer (some ⟨x, 0, none⟩), r.enc] w (AllowedPost rs m r w) := by
  obtain ⟨es, clock, hm, hents⟩ := hK
  obtain ⟨v, ok, hlook, hvok⟩ := lookup_any (allowedB rs) r m es hents
  obtain ⟨w1, hw1⟩ : ∃ w1, w1 = w.alloc (.cells r.cells 101) := ⟨_, rfl⟩
  have hbel : Below w.heap.size w w1 := by rw [hw1]; exact (Below.refl w.heap.size w).alloc (Nat.le_refl _) _
  have h3 : Blk w1 w.heap.size r.cells 101 := by rw [hw1]; exact Blk.new w _ _
  have hm1 : w1.heap[m]? = some (.map es clock) := (hbel.block m (Array.getElem?_eq_some_iff.1 hm).1).trans hm
  have hL : ∀ n, (Instr.lookup 113 (.map (some m)) (.agg #[.int .i64 r.r0, .int .i64 r.r1, .int .i64 r.r2]) true).run Try.prog (w1.drewN n) = .ok (.tuple #[.bool v, .bool ok]) (w1.drewN n) := fun n => hlook (w1.drewN n) clock hm1
  have hR1 := hR.below hbel
  have HB := Aw.mk hbel
  have H3 := Aw.mk h3
  have HR1 := Aw.mk hR1
  have HK1 := Aw.mk (show Known rs m w1 from ⟨es, clock, hm1, hents⟩)
  have HW := Aw.mk hw1
  have HV := Aw.mk hvok
  have HOK := Aw.mk hr
  have HRS := Aw.mk hrs
  have HML := Aw.mk (Array.getElem?_eq_some_iff.1 hm).1
  have c2 : w1.cell? ⟨x, 2, none⟩ = some (.map (some m)) := hR1.blk.cell 2
  have b0 : w1.cell? ⟨w.heap.size, 0, none⟩ = some (.int .i64 r.r0) := h3.cell 0
  have b1 : w1.cell? ⟨w.heap.size, 1, none⟩ = some (.int .i64 r.r1) := h3.cell 1
  have b2 : w1.cell? ⟨w.heap.size, 2, none⟩ = some (.int .i64 r.r2) := h3.cell 2
  have lx := hR1.blk.lt
  have l3 := h3.lt
  unfold Rt.enc Rt.cells
  clear hR hm hents hvok hbel h3 hm1 hR1 hr hrs hlook
  go_enter Try.func55, Try.ntmps55
  go_wp2_with fail
  go_step3
  go_upto_region 1 with (fail)
  rw [show w.alloc (.cells #[.int .i64 r.r0, .int .i64 r.r1, .int .i64 r.r2] 101) = w1 from hw1.symm]
  clear hw1
  go_quiet (fail)
  obtain ⟨wq, hwq⟩ : ∃ wq, wq = w1.drewN nq := ⟨_, rfl⟩
  rw [← hwq]
  have hbq : Below w1.heap.size w1 wq := by rw [hwq]; exact ⟨rfl, by show w1.tape = w1.tape; rfl, rfl, Nat.le_refl _, fun _ _ => rfl⟩
  have HBQ := Aw.mk hbq
  have HRQ := Aw.mk (HR1.out.below hbq)
  have HKQ := Aw.mk (HK1.out.below hbq)
  have H3Q := Aw.mk (H3.out.below hbq H3.out.lt)
  have c1 : wq.cell? ⟨x, 1, none⟩ = some (.slice AR rs.length cR) := HRQ.out.blk.cell 1
  have lxq := HRQ.out.blk.lt
  clear hwq hbq hL c2 b0 b1 b2 lx l3
  dsimp only [Exit.then]
  cases ok with
  | true =>
    have hv : v = allowedB rs r := by
      rcases HV.out with ⟨_, h⟩ | ⟨h, _⟩
      · exact h
      · cases h
    subst hv
    clear c1 lxq
    go_wp2_with fail
    refine bodyPost_ret (results_tmp rfl _ _ _) rfl ⟨rfl, Chg.below (HB.out.trans (HBQ.out.mono HB.out.size)) _, HKQ.out⟩
  | false =>
    have HAR := Aw.mk HRQ.out.hr
    have HST := Aw.mk (show JAl w1 w.heap.size r rs 0 wq from ⟨HBQ.out, H3Q.out, by simp⟩)
    go_wp2_with fail
    go_step3
    go_wp2_with fail
    go_loopg [5, 26] rs.length (fun gg s5 s26 wr => ∃ kk : Nat, kk ≤ rs.length ∧ rs.length - kk ≤ gg ∧ s26 = .int .i64 kk ∧ s5 = .bool true ∧ Aw (JAl w1 w.heap.size r rs kk wr))
    case atStart => exact ⟨0, Nat.zero_le _, by omega, rfl, rfl, HST⟩
    case round =>
      obtain ⟨kk, hkk, hgg, rfl, rfl, HJ⟩ := hrel
      have hr1r := HR1.out.below HJ.out.bel
      by_cases hlt : kk < rs.length
      · obtain ⟨b, off, rfl, hbl, y0, y1, y2⟩ := hr1r.hr.at_ kk hlt
        obtain ⟨y, hy⟩ : ∃ y, y = rs[kk] := ⟨_, rfl⟩
        have hmem : y ∈ rs := by rw [hy]; exact List.getElem_mem hlt
        have hsg := (hr1r.hr.segs y hmem).1
        have hyk := HRS.out y hmem
        rw [← hy] at y0 y1 y2
        have HTK := Aw.mk (show rs.take (kk + 1) = rs.take kk ++ [y] by rw [List.take_succ_eq_append_getElem hlt, hy])
        have HMEM := Aw.mk hmem
        have HAL := Aw.mk (fun W (hb : Below wr.heap.size wr W) => allows_any y.sA y.sc y.zs y.lo y.hi r W (hsg.below hb) hyk.1 hyk.2 HOK.out)
        have hltz : (kk : Int) < (rs.length : Int) := by omega
        have wq1 : IntKind.i64.wrap ((kk : Int) + 1) = (kk : Int) + 1 := IntWalk.i64_in _ (by omega)
        have h3 := HJ.out.h3
        have b0 : wr.cell? ⟨w.heap.size, 0, none⟩ = some (.int .i64 r.r0) := h3.cell 0
        have b1 : wr.cell? ⟨w.heap.size, 1, none⟩ = some (.int .i64 r.r1) := h3.cell 1
        have b2 : wr.cell? ⟨w.heap.size, 2, none⟩ = some (.int .i64 r.r2) := h3.cell 2
        have l3 := h3.lt
        obtain ⟨ya, yc, yz, ylo, yhi⟩ := y
        dsimp only at y0 y1 y2
        clear hy hmem hsg hyk hr1r h3
        cases hal : allowsB r yz ylo yhi with
        | true =>
          have HAT := Aw.mk hal
          go_wp2_with fail
          refine (HAL.out _ ((Below.refl _ _).alloc (Nat.le_refl _) _)).mono ?_
          rw [show allowsB r yz ylo yhi = true from HAT.out]
          rintro e w4 ⟨rfl, hb4⟩
          have hb5 : Below wr.heap.size wr w4 := ((Below.refl wr.heap.size wr).alloc (Nat.le_refl _) (.cells #[.slice ya yz.length yc, .int .i64 ylo, .int .i64 yhi] 67)).trans (hb4.mono (by simp))
          have HJ5 : Aw (JAl w1 w.heap.size r rs (kk + 1) w4) := ⟨HJ.out.bel.trans (hb5.mono HJ.out.bel.size), HJ.out.h3.below hb5 HJ.out.h3.lt, fun z hz => by
            rw [HTK.out] at hz
            rcases List.mem_append.1 hz with h | h
            · exact HJ.out.ok z h
            · obtain rfl := List.mem_singleton.1 h
              exact HAT.out⟩
          clear hb4 hb5 hal
          go_wp2_with fail
          go_roundg (rs.length - (kk + 1))
          case measure => omega
          case rel => exact ⟨kk + 1, by omega, by omega, by go_num, rfl, HJ5⟩
        | false =>
          have HAT := Aw.mk hal
          have hnall : allowedB rs r = false := List.all_eq_false.2 ⟨⟨ya, yc, yz, ylo, yhi⟩, HMEM.out, by rw [show allowsB r yz ylo yhi = false from HAT.out]; decide⟩
          go_wp2_with fail
          refine (HAL.out _ ((Below.refl _ _).alloc (Nat.le_refl _) _)).mono ?_
          rw [show allowsB r yz ylo yhi = false from HAT.out]
          rintro e w4 ⟨rfl, hb4⟩
          have hb5 : Below wr.heap.size wr w4 := ((Below.refl wr.heap.size wr).alloc (Nat.le_refl _) (.cells #[.slice ya yz.length yc, .int .i64 ylo, .int .i64 yhi] 67)).trans (hb4.mono (by simp))
          have hb6 := HJ.out.bel.trans (hb5.mono HJ.out.bel.size)
          clear hb4 hb5 hal
          have HNALL := Aw.mk hnall
          clear hnall
          go_wp2_with fail
          have hnall := HNALL.out
          refine wpIn_wide.1 (upd_region x w.heap.size m r rs _ _ false hnall.symm _ w4 _ rfl rfl rfl rfl rfl (HR1.out.below hb6).blk (H3.out.below hb6 H3.out.lt) (HK1.out.below hb6) ?_)
          intro a V hd hsz h5 hc hk
          have h5' : slot a 5 = .bool false := h5
          have HC := Aw.mk ((Chg.below (HB.out.trans ((hb6).mono HB.out.size)) (fun k => k = m)).trans (hc.mono fun k _ e => .inl e))
          have HK := Aw.mk hk
          rw [frame_lit' a 44 hsz, hd]
          simp only [List.range, List.range.loop, List.map_cons, List.map_nil, h5']
          clear hd hsz h5 h5' hc hk
          generalize a = a'
          dsimp only [Exit.then]
          go_wp2_with fail
          refine bodyPost_ret (results_tmp rfl _ _ _) rfl ⟨by rw [hnall]; rfl, HC.out, HK.out⟩
      · have hkl : kk = rs.length := by omega
        subst hkl
        have hall : allowedB rs r = true := by
          have := HJ.out.ok
          rw [List.take_length] at this
          exact List.all_eq_true.2 this
        clear hr1r
        have HALL := Aw.mk hall
        clear hall
        go_wp2_with fail
        have hall := HALL.out
        refine wpIn_wide.1 (upd_region x w.heap.size m r rs _ _ true hall.symm _ wr _ rfl rfl rfl rfl rfl (HR1.out.below HJ.out.bel).blk (H3.out.below HJ.out.bel H3.out.lt) (HK1.out.below HJ.out.bel) ?_)
        intro a V hd hsz h5 hc hk
        have h5' : slot a 5 = .bool true := h5
        have HC := Aw.mk ((Chg.below (HB.out.trans ((HJ.out.bel).mono HB.out.size)) (fun k => k = m)).trans (hc.mono fun k _ e => .inl e))
        have HK := Aw.mk hk
        rw [frame_lit' a 44 hsz, hd]
        simp only [List.range, List.range.loop, List.map_cons, List.map_nil, h5']
        clear hd hsz h5 h5' hc hk
        generalize a = a'
        dsimp only [Exit.then]
        go_wp2_with fail
        refine bodyPost_ret (results_tmp rfl _ _ _) rfl ⟨by rw [hall]; rfl, HC.out, HK.out⟩
end Go.Proofs.Ytdagijgoegkphaa.Hand

namespace Go.Proofs.Ytdagijgoegkphaa.Hand
open Go.RowKit Go.Shelf
attribute [local go_sem] Oper.semAt_some
structure Inp (A : Option Addr) (c : Nat) (ms : List Rg) (AR : Option Addr) (cR : Nat) (rs : List Rn) (w0 : World) : Prop where
  hz : Rg.At w0 A ms
  hr : RunsAt w0 AR rs
  len : 1 ≤ ms.length ∧ ms.length ≤ 3
  rates : ∀ m ∈ ms, 0 ≤ m.lo ∧ m.hi ≤ 1000
  runs : runsOk rs
  few : rs.length ≤ 6
structure RoomI (w0 : World) (A : Option Addr) (c : Nat) (ms : List Rg) (AR : Option Addr) (cR : Nat) (rs : List Rn) (x m : Nat) (W : World) : Prop where
  old : Keep (fun k => k < w0.heap.size) w0 W
  blk : Blk W x #[.slice A ms.length c, .slice AR rs.length cR, .map (some m)] 115
theorem stays_keep {w0 W : World} (h : Keep (fun k => k < w0.heap.size) w0 W) : Stays w0 W := fun b o v hc hlt =>
  ⟨(World.cell?_of_block (w := w0) (h.2 b hlt hlt)).trans hc, Nat.lt_of_lt_of_le hlt h.1⟩
theorem RoomI.room {w0 : World} {A : Option Addr} {c : Nat} {ms : List Rg} {AR : Option Addr} {cR : Nat} {rs : List Rn} {x m : Nat} {W : World} (h : RoomI w0 A c ms AR cR rs x m W) (hI : Inp A c ms AR cR rs w0) : Room A c ms AR cR rs x m W :=
  ⟨h.blk, hI.hz.stays (stays_keep h.old), hI.hr.stays (stays_keep h.old)⟩
theorem RoomI.chg {w0 : World} {A : Option Addr} {c : Nat} {ms : List Rg} {AR : Option Addr} {cR : Nat} {rs : List Rn} {x m : Nat} {W W' : World} {X : Nat → Prop} (h : RoomI w0 A c ms AR cR rs x m W) (hc : Chg X W W') (hX : ∀ k, X k → w0.heap.size ≤ k) (hx : ¬ X x) : RoomI w0 A c ms AR cR rs x m W' :=
  ⟨h.old.trans (hc.keep fun k hk _ hx => by have := hX k hx; omega), h.blk.chg hc hx⟩
theorem RoomI.keep {w0 : World} {A : Option Addr} {c : Nat} {ms : List Rg} {AR : Option Addr} {cR : Nat} {rs : List Rn} {x m : Nat} {W W' : World} {X : Nat → Prop} (h : RoomI w0 A c ms AR cR rs x m W) (hc : Keep X W W') (hX : ∀ k, k < w0.heap.size → X k) (hx : X x) : RoomI w0 A c ms AR cR rs x m W' :=
  ⟨h.old.trans (hc.mono hX), h.blk.keep hc hx⟩
theorem Known.keep {rs : List Rn} {m : Nat} {W W' : World} {X : Nat → Prop} (h : Known rs m W) (hc : Keep X W W') (hx : X m) : Known rs m W' := by
  obtain ⟨es, clock, h1, h2⟩ := h
  exact ⟨es, clock, (hc.2 m hx (Array.getElem?_eq_some_iff.1 h1).1).trans h1, h2⟩
theorem mem_upFrom : ∀ (k : Nat) (low x : Int), x ∈ upFrom low k → low ≤ x ∧ x < low + k
  | 0, _, _, h => by cases h
  | k + 1, low, x, h => by
    rcases List.mem_cons.1 h with rfl | h
    · omega
    · have := mem_upFrom k (low + 1) x h
      omega
theorem Rt.set_ok {r : Rt} (h : r.ok) (k : Nat) {n : Int} (h1 : 0 ≤ n) (h2 : n ≤ 1000) : (r.set k n).ok := by
  intro j hj
  have h3 := h j hj
  match k, j, hj with
  | 0, 0, _ => exact ⟨h1, h2⟩
  | 0, 1, _ => exact h3
  | 0, 2, _ => exact h3
  | 1, 0, _ => exact h3
  | 1, 1, _ => exact ⟨h1, h2⟩
  | 1, 2, _ => exact h3
  | k + 2, 0, _ => exact h3
  | k + 2, 1, _ => exact h3
  | k + 2, 2, _ => exact ⟨h1, h2⟩
theorem lsFrom_ok {ms : List Rg} (hv : ∀ m ∈ ms, 0 ≤ m.lo ∧ m.hi ≤ 1000) : ∀ (d band : Nat) (r : Rt), r.ok → band + d ≤ ms.length → ∀ x ∈ lsFrom ms d band r, x.ok
  | 0, _, r, hr, _, x, hx => by rcases List.mem_singleton.1 hx with rfl; exact hr
  | d + 1, band, r, hr, hb, x, hx => by
    obtain ⟨n, hn, hx⟩ := List.mem_flatMap.1 hx
    have hlt : band < ms.length := by omega
    have hm := hv ms[band] (List.getElem_mem hlt)
    have hn2 := mem_upFrom _ _ _ hn
    have h0 : 0 ≤ lowAt ms r band := by
      unfold lowAt
      rw [List.getElem?_eq_getElem hlt]
      dsimp only
      split
      · unfold mx; split <;> omega
      · exact hm.1
    have hh : hiAt ms band ≤ 1000 := by
      unfold hiAt
      rw [List.getElem?_eq_getElem hlt]
      exact hm.2
    exact lsFrom_ok hv d (band + 1) _ (Rt.set_ok hr band (by omega) (by omega)) (by omega) x hx
theorem lists_ok {ms : List Rg} (hv : ∀ m ∈ ms, 0 ≤ m.lo ∧ m.hi ≤ 1000) : ∀ x ∈ lists ms, x.ok :=
  lsFrom_ok hv ms.length 0 ⟨0, 0, 0⟩ (fun k hk => by match k, hk with | 0, _ | 1, _ | 2, _ => decide) (by omega)
def good (ms : List Rg) (rs : List Rn) : List Rt := (lists ms).filter (allowedB rs)
theorem every_any (p : Option Addr) (w : World) :
    Calls Try.prog 57 #[.pointer p] w fun e w' => e = .returned (.func (.func 81) #[] #[.pointer (some ⟨w.heap.size, 0, none⟩)]) ∧ w' = w.alloc (.cells #[.pointer p] 97) := by
  go_enter Try.func57, Try.ntmps57
  go_wp2_with fail
  go_ret
  exact ⟨rfl, rfl⟩
structure JEv (w0 : World) (A : Option Addr) (c : Nat) (ms : List Rg) (AR : Option Addr) (cR : Nat) (rs : List Rn) (x m B1 b2 bl l : Nat) (Wd : World) (J : (Nat → Prop) → List Rt → World → Prop) (X : Nat → Prop) (pre : List Rt) (W : World) : Prop where
  j : J (fun k => X k ∨ k = m ∨ k = b2 ∨ k = bl) (pre.filter (allowedB rs)) W
  own : ∀ k, X k → Wd.heap.size ≤ k
  size : Wd.heap.size ≤ W.heap.size
  known : Known rs m W
  room : RoomI w0 A c ms AR cR rs x m W
  h1 : Blk W B1 #[.pointer (some ⟨x, 0, none⟩)] 97
  h2 : Blk W b2 #[.func (.yield l) #[] #[]] 104
theorem stab_more {J : (Nat → Prop) → List Rt → World → Prop} (hJ : Stab J) {m b2 bl : Nat} {f : List Rt → List Rt} {X Y : Nat → Prop} {pre : List Rt} {W W' : World} (h : J (fun k => X k ∨ k = m ∨ k = b2 ∨ k = bl) (f pre) W) (hc : Chg X W W') (hY : ∀ k, Y k → X k ∨ W.heap.size ≤ k) (hYl : ∀ k, Y k → k < W'.heap.size) (hl : m < W.heap.size ∧ b2 < W.heap.size ∧ bl < W.heap.size) :
    J (fun k => Y k ∨ k = m ∨ k = b2 ∨ k = bl) (f pre) W' := by
  have hs := hc.size
  refine hJ _ _ _ W W' h (hc.mono fun k _ hx => .inl hx) ?_ ?_
  · rintro k (hk | hk)
    · exact (hY k hk).imp .inl id
    · exact .inl (.inr hk)
  · rintro k (hk | rfl | rfl | rfl)
    · exact hYl k hk
    · omega
    · omega
    · omega
theorem JEv.stab {w0 : World} {A : Option Addr} {c : Nat} {ms : List Rg} {AR : Option Addr} {cR : Nat} {rs : List Rn} {x m B1 b2 bl l : Nat} {Wd : World} {J : (Nat → Prop) → List Rt → World → Prop} (hJ : Stab J) (hl : m < Wd.heap.size ∧ b2 < Wd.heap.size ∧ bl < Wd.heap.size ∧ x < Wd.heap.size ∧ B1 < Wd.heap.size ∧ w0.heap.size ≤ Wd.heap.size) : Stab (JEv w0 A c ms AR cR rs x m B1 b2 bl l Wd J) := by
  intro X Y pre W W' h hc hY hYl
  have hs := hc.size
  have hsz := h.size
  refine ⟨stab_more hJ (f := fun p => p.filter (allowedB rs)) h.j hc hY hYl (by omega), fun k hk => ?_, by omega, h.known.chg hc (fun e => by have := h.own _ e; omega), h.room.chg hc (fun k hk => by have := h.own k hk; omega) (fun e => by have := h.own _ e; omega), h.h1.chg hc (fun e => by have := h.own _ e; omega), h.h2.chg hc (fun e => by have := h.own _ e; omega)⟩
  rcases hY k hk with h1 | h1
  · exact h.own k h1
  · omega
structure JEx (rs : List Rn) (m b2 bl : Nat) (Wd : World) (Jx : (Nat → Prop) → List Rt → World → Prop) (X : Nat → Prop) (W : World) : Prop where
  j : ∃ pre, Jx (fun k => X k ∨ k = m ∨ k = b2 ∨ k = bl) pre W
  own : ∀ k, X k → Wd.heap.size ≤ k
  size : Wd.heap.size ≤ W.heap.size
  known : Known rs m W
theorem JEx.stab {rs : List Rn} {m b2 bl : Nat} {Wd : World} {Jx : (Nat → Prop) → List Rt → World → Prop} (hJ : Stab Jx) (hl : m < Wd.heap.size ∧ b2 < Wd.heap.size ∧ bl < Wd.heap.size) {X Y : Nat → Prop} {W W' : World} (h : JEx rs m b2 bl Wd Jx X W) (hc : Chg X W W') (hY : ∀ k, Y k → X k ∨ W.heap.size ≤ k) (hYl : ∀ k, Y k → k < W'.heap.size) : JEx rs m b2 bl Wd Jx Y W' := by
  have hs := hc.size
  have hsz := h.size
  obtain ⟨pre, hj⟩ := h.j
  refine ⟨⟨pre, stab_more hJ (f := id) hj hc hY hYl (by omega)⟩, fun k hk => ?_, by omega, h.known.chg hc (fun e => by have := h.own _ e; omega)⟩
  rcases hY k hk with h1 | h1
  · exact h.own k h1
  · omega
theorem results81 (tmps : Array Value) (W : World) : (results Try.f81 tmps).run Try.prog W = .ok (.tuple #[]) W := results_none rfl _ _ _
set_option maxHeartbeats 8000000 in
set_option maxRecDepth 10000 in
theorem every1_any (w0 : World) (A : Option Addr) (c : Nat) (ms : List Rg) (AR : Option Addr) (cR : Nat) (rs : List Rn) (hI : Inp A c ms AR cR rs w0) (x m B1 : Nat) (w : World) (hx : w0.heap.size ≤ x) (hm : w0.heap.size ≤ m) (hR : RoomI w0 A c ms AR cR rs x m w) (hK : Known rs m w) (hB1 : Blk w B1 #[.pointer (some ⟨x, 0, none⟩)] 97) :
    SeqC 81 #[.pointer (some ⟨B1, 0, none⟩)] (fun r : Rt => #[r.enc]) (fun k => k < w0.heap.size ∨ k = x ∨ k = B1) (fun k => k = m) (good ms rs) (Known rs m) w := by
  intro l J Jx W1 hc hJ hJx hRo hj
  have hR1 := hR.chg hc (fun _ h => h.elim) (fun h => h)
  have hK1 := hK.chg hc (fun h => h)
  have h1 := hB1.chg hc (fun h => h)
  have HRO := Aw.mk hRo
  have HJ := Aw.mk hj
  have HR1 := Aw.mk hR1
  have HK1 := Aw.mk hK1
  have H1 := Aw.mk h1
  have HI := Aw.mk hI
  have c1 : W1.cell? ⟨B1, 0, none⟩ = some (.pointer (some ⟨x, 0, none⟩)) := h1.cell 0
  have c2 : W1.cell? ⟨x, 0, none⟩ = some (.slice A ms.length c) := hR1.blk.cell 0
  have l1 := h1.lt
  have lx := hR1.blk.lt
  have HMX := Aw.mk (show m < W1.heap.size ∧ x ≠ m ∧ B1 ≠ m from by
    obtain ⟨es, clock, q1, q2⟩ := hK1
    exact ⟨(Array.getElem?_eq_some_iff.1 q1).1, not_map q1 hR1.blk, not_map q1 h1⟩)
  clear hR hK hB1 hc hRo hj hR1 hK1 h1 hI
  refine (callsIn_wide (n := 0)).1 (callsIn_of_wp_marks Try.func81 rfl trivial ((wpIn_wide (n := 0)).2 ?_) rfl)
  simp only [Try.ntmps81, List.size_toArray, List.length_cons, List.length_nil, Nat.reduceAdd, Nat.reduceSub, Array.replicate_succ, Array.replicate_zero, List.push_toArray, List.append_toArray, List.nil_append, List.cons_append]
  go_wp2_with (go_at_call 62; refine (lists_any _ _ _ _).mono ?_; rintro e w3 ⟨rfl, rfl⟩)
  obtain ⟨Wd, hWd⟩ : ∃ Wd, Wd = (W1.alloc (.cells #[.func (.yield l) #[] #[]] 104)).alloc (.cells #[.slice A ms.length c] 39) := ⟨_, rfl⟩
  rw [show ((W1.alloc (.cells #[.func (.yield l) #[] #[]] 104)).alloc (.cells #[.slice A ms.length c] 39)) = Wd from hWd.symm]
  obtain ⟨b2, hb2⟩ : ∃ b2, b2 = W1.heap.size := ⟨_, rfl⟩
  obtain ⟨bl, hbl⟩ : ∃ bl, bl = W1.heap.size + 1 := ⟨_, rfl⟩
  rw [← hbl, ← hb2]
  have hbd : Below W1.heap.size W1 Wd := by rw [hWd]; exact ((Below.refl W1.heap.size W1).alloc (Nat.le_refl _) _).alloc (by simp) _
  have h2 : Blk Wd b2 #[.func (.yield l) #[] #[]] 104 := by rw [hWd, hb2]; exact (Blk.new W1 _ _).alloc _
  have h3 : Blk Wd bl #[.slice A ms.length c] 39 := by
    have := Blk.new (W1.alloc (.cells #[.func (.yield l) #[] #[]] 104)) #[.slice A ms.length c] 39
    rw [hWd, hbl]; simpa using this
  have hszd : Wd.heap.size = W1.heap.size + 2 := by rw [hWd]; simp
  have hI := HI.out
  have hA0 : ∀ a, A = some a → a.block < w0.heap.size := fun a ha => by
    obtain ⟨b, off, q1, q2, _⟩ := hI.hz 0 (by have := hI.len.1; omega)
    rw [q1] at ha; cases ha; exact q2
  have hlts : m < Wd.heap.size ∧ b2 < Wd.heap.size ∧ bl < Wd.heap.size ∧ x < Wd.heap.size ∧ B1 < Wd.heap.size ∧ w0.heap.size ≤ Wd.heap.size := by
    have := HMX.out; have := HR1.out.old.1; omega
  have hst := JEv.stab (w0 := w0) (A := A) (c := c) (ms := ms) (AR := AR) (cR := cR) (rs := rs) (x := x) (m := m) (B1 := B1) (b2 := b2) (bl := bl) (l := l) (Wd := Wd) hJ hlts
  have hRd : RoomI w0 A c ms AR cR rs x m Wd := HR1.out.chg (Chg.below hbd (fun _ => False)) (fun _ h => h.elim) (fun h => h)
  have hJd : J (fun k => False ∨ k = m ∨ k = b2 ∨ k = bl) [] Wd := hJ _ _ [] W1 Wd HJ.out (Chg.below hbd _) (fun k h => by rcases h with h | rfl | rfl | rfl; exact h.elim; exact .inl rfl; exact .inr (by omega); exact .inr (by omega)) (fun k h => by rcases h with h | rfl | rfl | rfl; exact h.elim; exact hlts.1; exact hlts.2.1; exact hlts.2.2.1)
  have HBL := Aw.mk (show W1.heap.size ≤ b2 ∧ W1.heap.size ≤ bl ∧ b2 ≠ bl ∧ m ≠ b2 ∧ m ≠ bl ∧ x ≠ b2 ∧ x ≠ bl ∧ B1 ≠ b2 ∧ B1 ≠ bl by have := HMX.out; omega)
  clear hWd hb2 hbl hszd
  refine wpIn_wide.1 (range_law (gf := 87) (lb := #[.pointer (some ⟨bl, 0, none⟩)]) rfl (enters_of Try.func87 (by kernel_rfl) rfl)
    (encs := fun x : Rt => #[x.enc]) (R := fun k => VB A k ∨ k = bl) (ok := listOk (lists ms)) (S := fun xs _ => xs = lists ms ∧ True) (Sp := fun _ _ => True) (fun _ _ _ _ _ h => h) (fun _ _ _ _ _ h => h)
    (JEv w0 A c ms AR cR rs x m B1 b2 bl l Wd J) (fun cd X _ W => cd = .ret ∧ JEx rs m b2 bl Wd Jx X W) hst
    (fun cd X Y pre W W' h hc hY hYl => ⟨h.1, h.2.stab hJx ⟨hlts.1, hlts.2.1, hlts.2.2.1⟩ hc hY hYl⟩) (fun _ => False) (fun _ h => h.elim) ?hR ?h0 (fun _ => rfl) ?hseq
    (fun X pre r a W => JEv w0 A c ms AR cR rs x m B1 b2 bl l Wd J X pre W ∧ a.defers = [] ∧ a.tmps.size = 19 ∧ a.tmps.getD 1 undef = .pointer (some ⟨B1, 0, none⟩) ∧ a.tmps.getD 2 undef = .pointer (some ⟨b2, 0, none⟩) ∧ ∃ b3, a.tmps.getD 3 undef = .pointer (some ⟨b3, 0, none⟩) ∧ Blk W b3 r.cells 101 ∧ ¬ X b3 ∧ Wd.heap.size ≤ b3) ?hJa ?hassign ?hbody ?hdone ?hstop)
  case hR =>
    rintro k (⟨a, ha, rfl⟩ | rfl)
    · have := hA0 a ha; omega
    · exact hlts.2.2.1
  case h0 => exact ⟨hJd, fun _ h => h.elim, Nat.le_refl _, HK1.out.below hbd, hRd, H1.out.below hbd H1.out.lt, h2⟩
  case hseq =>
    intro l' J' Jx' W1' hc hJ' hJx' hRo' hj0
    refine (lists1_any A c ms hI.len.2 hI.rates bl (fun k => VB A k ∨ k = bl) (fun a h => .inl ⟨a, h, rfl⟩) (.inr rfl) Wd h3 (hRd.room hI).hz ?_ l' J' Jx' W1' hc hJ' hJx' hRo' hj0).mono ?_
    · rintro k (⟨a, ha, rfl⟩ | rfl)
      · have := hA0 a ha; omega
      · exact hlts.2.2.1
    · intro e W' h; exact h
  case hJa =>
    intro r a' X Y pre W W' h hc hY hYl
    obtain ⟨q1, q2, q3, q4, q5, b3, q6, q7, q8, q9⟩ := h
    refine ⟨hst X Y pre W W' q1 hc hY hYl, q2, q3, q4, q5, b3, q6, q7.chg hc q8, fun hy => ?_, q9⟩
    rcases hY b3 hy with h | h
    · exact q8 h
    · have := q7.lt; omega
  case hassign =>
    intro l' X pre r W hJv hok hX
    simp only [List.zip_toArray, List.zip_cons_cons, List.zip_nil_left, List.zip_nil_right, List.foldl_toArray, List.foldl_cons, List.foldl_nil, List.setIfInBounds_toArray, List.set_cons_succ, List.set_cons_zero]
    have hal : Chg (fun _ => False) W (W.alloc (.cells #[.int .i64 r.r0, .int .i64 r.r1, .int .i64 r.r2] 101)) := (Chg.refl _ _).alloc _
    have HJV := Aw.mk (hst X X pre W _ hJv (hal.mono fun _ _ h => h.elim) (fun k h => .inl h) (fun k h => Nat.lt_of_lt_of_le (hX k h) hal.size))
    have HKE := Aw.mk (hal.keep (Y := fun k => X k ∨ (VB A k ∨ k = bl)) (fun k _ _ h => h))
    have HNX := Aw.mk (show ¬ X W.heap.size from fun h => absurd (hX _ h) (Nat.lt_irrefl _))
    have HSZ := Aw.mk hJv.size
    clear hJv hX hok hJd hal
    unfold Rt.enc Rt.cells
    gi_wp2
    exact ⟨HKE.out, HJV.out, trivial, rfl, rfl, rfl, W.heap.size, rfl, Blk.new W _ _, HNX.out, HSZ.out⟩
  case hbody =>
    intro l' X pre r a' W hja hok hX
    obtain ⟨hj, hdf, hsz, hp1, hp2, b3, hp3, hb3, hnx, hge⟩ := hja
    have hrok : r.ok := by obtain ⟨suf, h⟩ := hok; exact lists_ok hI.rates r (by rw [h]; simp)
    have hmem : listOk (good ms rs) (pre.filter (allowedB rs)) r ∨ allowedB rs r = false := by
      obtain ⟨suf, h⟩ := hok
      cases hal : allowedB rs r with
      | false => exact .inr rfl
      | true => exact .inl ⟨suf.filter (allowedB rs), by unfold good; rw [h, List.filter_append, List.filter_cons, if_pos hal]⟩
    have hal0 := allowed_any A c ms AR cR rs x m r W (hj.room.room hI) hj.known hrok hI.runs (by have := hI.few; omega)
    have p1 : slot a' 1 = .pointer (some ⟨B1, 0, none⟩) := hp1
    have p2 : slot a' 2 = .pointer (some ⟨b2, 0, none⟩) := hp2
    have p3 : slot a' 3 = .pointer (some ⟨b3, 0, none⟩) := hp3
    have c1 : W.cell? ⟨B1, 0, none⟩ = some (.pointer (some ⟨x, 0, none⟩)) := hj.h1.cell 0
    have q0 : W.cell? ⟨b3, 0, none⟩ = some (.int .i64 r.r0) := hb3.cell 0
    have q1 : W.cell? ⟨b3, 1, none⟩ = some (.int .i64 r.r1) := hb3.cell 1
    have q2 : W.cell? ⟨b3, 2, none⟩ = some (.int .i64 r.r2) := hb3.cell 2
    rw [frame_lit' a' 19 hsz, hdf]
    simp only [List.range, List.range.loop, List.map_cons, List.map_nil, p1, p2, p3]
    have HJV := Aw.mk hj
    have HB3 := Aw.mk hb3
    have HX := Aw.mk hX
    have HNX := Aw.mk hnx
    have HGE := Aw.mk hge
    have hAm : ∀ k, VB A k → k < w0.heap.size := by rintro k ⟨a, ha, rfl⟩; exact hA0 a ha
    have HKM := Aw.mk (show ∀ W2, Chg (fun k => k = m) W W2 → Keep (fun k => X k ∨ (VB A k ∨ k = bl)) W W2 from fun W2 hc => hc.keep (by
      rintro k (h | h | h) _ e
      · have := hj.own k h; have := hlts.1; omega
      · have := hAm k h; omega
      · have := HBL.out; omega))
    clear hj hdf hsz hp1 hp2 hp3 hb3 hnx hok hX p1 p2 p3 hrok hJd hge
    unfold Rt.enc Rt.cells at hal0
    have HAL := Aw.mk hal0
    clear hal0
    generalize a' = a''
    cases hal : allowedB rs r with
    | false =>
      have HA := Aw.mk hal
      clear hal hmem
      gi_wp2_with fail
      refine ⟨trivial, rfl, (CallsIn.inRound l' (callsIn_wide.2 HAL.out)).mono ?_⟩
      rintro e W2 ⟨rfl, hc2, hk2⟩
      rw [HA.out]
      have HP := Aw.mk (show Keep (fun k => X k ∨ (VB A k ∨ k = bl)) W W2 ∧ JEv w0 A c ms AR cR rs x m B1 b2 bl l Wd J X (pre ++ [r]) W2 from ⟨HKM.out W2 hc2, by
        have hj := HJV.out
        have hb := HBL.out
        have hmx := HMX.out
        refine ⟨?_, hj.own, Nat.le_trans hj.size hc2.size, hk2, hj.room.chg hc2 (fun k e => by omega) (by omega), hj.h1.chg hc2 (by omega), hj.h2.chg hc2 (by omega)⟩
        rw [List.filter_append, show [r].filter (allowedB rs) = [] by simp [HA.out], List.append_nil]
        exact hJ _ _ _ W W2 hj.j (hc2.mono fun k _ e => .inr (.inl e)) (fun k h => .inl h) (fun k h => by
          rcases h with h | rfl | rfl | rfl
          · exact Nat.lt_of_lt_of_le (HX.out k h) hc2.size
          · have := hj.size; have := hc2.size; omega
          · have := hj.size; have := hc2.size; omega
          · have := hj.size; have := hc2.size; omega)⟩)
      clear hc2 hk2
      gi_wp2_with fail
      refine ⟨fun _ h => (by cases h), ?_⟩
      gi_wp2_with fail
      exact HP.out
    | true =>
      have HA := Aw.mk hal
      have HOK := Aw.mk (hmem.resolve_right (by rw [hal]; simp))
      clear hal hmem
      gi_wp2_with fail
      refine ⟨trivial, rfl, (CallsIn.inRound l' (callsIn_wide.2 HAL.out)).mono ?_⟩
      rintro e W2 ⟨rfl, hc2, hk2⟩
      rw [HA.out]
      have hj := HJV.out
      have hb := HBL.out
      have hmx := HMX.out
      have hb2c := hj.h2.chg hc2 (show ¬ b2 = m by omega)
      have hb3c := HB3.out.chg hc2 (show ¬ b3 = m by have := HGE.out; have := hlts.1; omega)
      have d0 : W2.cell? ⟨b2, 0, none⟩ = some (.func (.yield l) #[] #[]) := hb2c.cell 0
      have d1 : W2.cell? ⟨b3, 0, none⟩ = some (.int .i64 r.r0) := hb3c.cell 0
      have d2 : W2.cell? ⟨b3, 1, none⟩ = some (.int .i64 r.r1) := hb3c.cell 1
      have d3 : W2.cell? ⟨b3, 2, none⟩ = some (.int .i64 r.r2) := hb3c.cell 2
      have hX2 : ∀ k, (X k ∨ k = m ∨ k = b2 ∨ k = bl) → k < W2.heap.size := fun k h => by
        have h1 := hj.size; have h2 := hc2.size
        rcases h with h | rfl | rfl | rfl
        · exact Nat.lt_of_lt_of_le (HX.out k h) hc2.size
        · omega
        · omega
        · omega
      have hj2 := hJ _ (fun k => X k ∨ k = m ∨ k = b2 ∨ k = bl) _ W W2 hj.j (hc2.mono fun k _ e => .inr (.inl e)) (fun k h => .inl h) hX2
      have hyield := HRO.out (fun k => X k ∨ k = m ∨ k = b2 ∨ k = bl) (pre.filter (allowedB rs)) r W2 hj2 HOK.out hX2
      have HY := Aw.mk hyield
      have HC2 := Aw.mk hc2
      have HK2 := Aw.mk hk2
      have HB2C := Aw.mk hb2c
      clear hj hb hmx hb2c hb3c hX2 hj2 hyield hc2 hk2
      gi_wp2_with fail
      obtain ⟨fn, tmps, asg, bd, hy, hrd⟩ := HY.out
      unfold Rt.enc Rt.cells at hy
      rw [hy, Oper.uponIn_round]
      refine ⟨fun h => by simp [Fence.wide] at h, RoundIn.mono (show RoundIn (Fence.wide.inRound l') 0 _ _ _ _ _ _ _ _ from hrd) ?_⟩
      rintro e W3 ⟨hk3, h4⟩
      have hj := HJV.out
      have hb := HBL.out
      have hmx := HMX.out
      have hKK : Keep (fun k => X k ∨ (VB A k ∨ k = bl)) W W3 := (HKM.out W2 HC2.out).trans (hk3.mono fun k h => by
        rcases h with h | h | h
        · exact .inl (.inl h)
        · exact .inr (.inl (hAm k h))
        · exact .inl (.inr (.inr (.inr h))))
      have hkn := HK2.out.keep hk3 (.inl (.inr (.inl rfl)))
      have hsz3 : Wd.heap.size ≤ W3.heap.size := Nat.le_trans hj.size (Nat.le_trans HC2.out.size hk3.1)
      rcases h4 with ⟨rfl, hj4⟩ | ⟨rfl, hj4⟩
      · have HP := Aw.mk (show Keep (fun k => X k ∨ (VB A k ∨ k = bl)) W W3 ∧ JEv w0 A c ms AR cR rs x m B1 b2 bl l Wd J X (pre ++ [r]) W3 from ⟨hKK, by
          refine ⟨?_, hj.own, hsz3, hkn, (hj.room.chg HC2.out (fun k e => by omega) (by omega)).keep hk3 (fun k h => .inr (.inl h)) (.inr (.inr (.inl rfl))), (hj.h1.chg HC2.out (by omega)).keep hk3 (.inr (.inr (.inr rfl))), HB2C.out.keep hk3 (.inl (.inr (.inr (.inl rfl))))⟩
          rw [List.filter_append, show [r].filter (allowedB rs) = [r] by simp [HA.out]]
          exact hj4⟩)
        clear hj4 hk3 hKK hkn hj hb hmx hrd hy hsz3
        gi_wp2_with fail
        exact HP.out
      · have HP := Aw.mk (show Keep (fun k => X k ∨ (VB A k ∨ k = bl)) W W3 ∧ (Code.ret = Code.ret ∧ JEx rs m b2 bl Wd Jx X W3) from ⟨hKK, rfl, ⟨_, hj4⟩, hj.own, hsz3, hkn⟩)
        have HP2 := Aw.mk (show rndPost X (fun k => VB A k ∨ k = bl) (JEv w0 A c ms AR cR rs x m B1 b2 bl l Wd J) (fun cd X _ W => cd = .ret ∧ JEx rs m b2 bl Wd Jx X W) (pre ++ [r]) W .ret a'' W3 from HP.out)
        clear hj4 hk3 hKK hkn hj hb hmx hrd hy hsz3
        gi_wp2_with fail
        exact HP2.out
  case hdone =>
    intro D xs W hD hS hjv hDW
    obtain ⟨rfl, _⟩ := hS
    have hh := hlts
    have hsz := hjv.size
    have hDl := (Array.getElem?_eq_some_iff.1 hDW).1
    have hdm : m ≠ D := fun e => by omega
    have hkn : Known rs m (W.putObj D (.deferred none)) := hjv.known.chg ((Chg.refl (fun k => k = D) W).putObj (.inl rfl) _) hdm
    have hjj : J (fun k => k = m) (good ms rs) (W.putObj D (.deferred none)) := hJ _ _ _ W _ hjv.j ((Chg.refl _ W).putObj (.inl (.inl (.inr rfl))) _) (fun k h => .inl (.inr (.inl h))) (fun k h => by rw [World.putObj_size]; omega)
    have HP := Aw.mk (show (∃ xs, (xs = good ms rs ∧ Known rs m (W.putObj D (.deferred none))) ∧ J (fun k => k = m) xs (W.putObj D (.deferred none))) from ⟨_, ⟨rfl, hkn⟩, hjj⟩)
    have HDW := Aw.mk hDW
    clear hjv hDW hkn hjj hh hsz hDl hdm hD
    dsimp only [Exit.inBlock]
    go_wp2_with fail
    exact postM_end rfl HDW.out (results81 _ _) ⟨⟨_, rfl⟩, .inl HP.out⟩
  case hstop =>
    intro D cd pre W hD hSp hjx hDW
    obtain ⟨rfl, hjv⟩ := hjx
    have hh := hlts
    have hsz := hjv.size
    have hDl := (Array.getElem?_eq_some_iff.1 hDW).1
    have hdm : m ≠ D := fun e => by omega
    obtain ⟨pre', hj⟩ := hjv.j
    have hkn : Known rs m (W.putObj D (.deferred none)) := hjv.known.chg ((Chg.refl (fun k => k = D) W).putObj (.inl rfl) _) hdm
    have hjj : Jx (fun k => k = m) pre' (W.putObj D (.deferred none)) := hJx _ _ _ W _ hj ((Chg.refl _ W).putObj (.inl (.inl (.inr rfl))) _) (fun k h => .inl (.inr (.inl h))) (fun k h => by rw [World.putObj_size]; omega)
    have HP := Aw.mk (show (∃ pre, Known rs m (W.putObj D (.deferred none)) ∧ Jx (fun k => k = m) pre (W.putObj D (.deferred none))) from ⟨_, hkn, hjj⟩)
    have HDW := Aw.mk hDW
    clear hjv hDW hkn hjj hh hsz hDl hdm hD hj hSp
    dsimp only [Exit.inBlock]
    gi_wp2
    exact postM_ret rfl HDW.out (results81 _ _) ⟨⟨_, rfl⟩, .inr HP.out⟩
end Go.Proofs.Ytdagijgoegkphaa.Hand

namespace Go.Proofs.Ytdagijgoegkphaa.Hand
open Go.RowKit Go.Shelf
attribute [local go_sem] Oper.semAt_some
theorem enter_ok {ms : List Rg} {rs : List Rn} (h : enterErr ms rs = 0) : (1 ≤ ms.length ∧ ms.length ≤ 3) ∧ (∀ m ∈ ms, 0 ≤ m.lo ∧ m.hi ≤ 1000) ∧ lists ms ≠ [] ∧ rs.length ≤ 6 ∧ rs.all fewB = true ∧ rs.all (runOk ms.length) = true := by
  unfold enterErr at h
  split at h
  · rename_i hm
    unfold matErr at hm
    split at hm
    · rename_i h1
      split at hm
      · cases hm
      · rename_i h2
        split at h
        · rename_i h3
          split at h
          · rename_i h4
            exact ⟨h1.1, rate_bounds h1.2, h2, h3.1, h3.2, h4⟩
          · cases h
        · cases h
    · cases hm
  · contradiction
theorem segB_ok {n : Nat} {s : Sg} (hn : n ≤ 3) (h : segB n s = true) : s.ok := by
  unfold segB uptoB at h
  simp only [Bool.and_eq_true, decide_eq_true_eq] at h
  obtain ⟨⟨h1, h2⟩, ⟨h3, h4⟩, h5⟩ := h
  exact ⟨h1, by omega, h3, by omega, by omega, h5⟩
theorem enter_runs {ms : List Rg} {rs : List Rn} (h : enterErr ms rs = 0) : runsOk rs := by
  obtain ⟨h1, _, _, _, h5, h6⟩ := enter_ok h
  intro x hx
  have h7 := List.all_eq_true.1 h5 x hx
  have h8 := List.all_eq_true.1 h6 x hx
  unfold fewB at h7
  unfold runOk runB at h8
  simp only [Bool.and_eq_true, decide_eq_true_eq] at h7 h8
  exact ⟨h7, fun s hs => segB_ok h1.2 (List.all_eq_true.1 h8.2 s hs)⟩
theorem enter_inp {A : Option Addr} {c : Nat} {ms : List Rg} {AR : Option Addr} {cR : Nat} {rs : List Rn} {w : World} (h : enterErr ms rs = 0) (hz : Rg.At w A ms) (hr : RunsAt w AR rs) : Inp A c ms AR cR rs w :=
  ⟨hz, hr, (enter_ok h).1, (enter_ok h).2.1, enter_runs h, (enter_ok h).2.2.2.1⟩
theorem Room.roomI {A : Option Addr} {c : Nat} {ms : List Rg} {AR : Option Addr} {cR : Nat} {rs : List Rn} {x m : Nat} {w W : World} (h : Room A c ms AR cR rs x m W) (hb : Below w.heap.size w W) : RoomI w A c ms AR cR rs x m W :=
  ⟨⟨hb.size, fun k hk _ => hb.block k hk⟩, h.blk⟩
def allowsV (ms : List Rg) (rs : List Rn) (l : List Nm) : Bool × Int :=
  if enterErr ms rs = 0 then (if ownB ms l = true then (allowedB rs (rtOf l), 0) else (false, 2)) else (false, enterErr ms rs)
theorem own_ok {ms : List Rg} {l : List Nm} (h : ownB ms l = true) (hv : ∀ m ∈ ms, 0 ≤ m.lo ∧ m.hi ≤ 1000) : (rtOf l).ok := by
  unfold ownB at h
  simp only [Bool.and_eq_true, decide_eq_true_eq, List.all_eq_true, List.mem_range] at h
  obtain ⟨hl, ha⟩ := h
  have key : ∀ k, 0 ≤ (l.getD k ⟨0⟩).n ∧ (l.getD k ⟨0⟩).n ≤ 1000 := fun k => by
    by_cases hk : k < l.length
    · have h1 := ha k hk
      unfold okAt at h1
      simp only [Bool.and_eq_true, decide_eq_true_eq] at h1
      have hm := hv ms[k] (List.getElem_mem (by omega))
      have e : ms.getD k ⟨0, 0⟩ = ms[k]'(by omega) := by simp [List.getD_eq_getElem?_getD, List.getElem?_eq_getElem (show k < ms.length by omega)]
      rw [e] at h1
      omega
    · have e : l.getD k ⟨0⟩ = ⟨0⟩ := by simp [List.getD_eq_getElem?_getD, List.getElem?_eq_none (show l.length ≤ k by omega)]
      rw [e]; decide
  intro k hk
  match k, hk with
  | 0, _ => exact key 0
  | 1, _ => exact key 1
  | 2, _ => exact key 2
set_option maxHeartbeats 4000000 in
set_option maxRecDepth 10000 in
theorem Allows_any (A : Option Addr) (c : Nat) (ms : List Rg) (AR : Option Addr) (cR : Nat) (rs : List Rn) (A2 : Option Addr) (c2 : Nat) (l : List Nm) (w : World) (hz : Rg.At w A ms) (hr : RunsAt w AR rs) (hl : Nm.At w A2 l)
    (hbig : ms.length ≤ 9223372036854775807) (hbig2 : rs.length ≤ 9223372036854775807) (hbig3 : l.length ≤ 9223372036854775807) :
    Calls Try.prog 20 #[.agg #[.slice A ms.length c], .slice AR rs.length cR, .slice A2 l.length c2] w fun e w' => e = .returned (.tuple #[.bool (allowsV ms rs l).1, .int .i64 (allowsV ms rs l).2]) ∧ Below w.heap.size w w' := by
  obtain ⟨w1, hw1⟩ : ∃ w1, w1 = w.alloc (.cells #[.slice A ms.length c] 39) := ⟨_, rfl⟩
  have hbel : Below w.heap.size w w1 := by rw [hw1]; exact (Below.refl w.heap.size w).alloc (Nat.le_refl _) _
  have h2 : Blk w1 w.heap.size #[.slice A ms.length c] 39 := by rw [hw1]; exact Blk.new w _ _
  have hen := enter_any A c ms AR cR rs w1 (hz.below hbel) (hr.below hbel) hbig hbig2
  have HB := Aw.mk hbel
  have H2 := Aw.mk h2
  have HZ := Aw.mk (hz.below hbel)
  have HR := Aw.mk (hr.below hbel)
  have HL := Aw.mk (hl.below hbel)
  have HW := Aw.mk hw1
  have HEN := Aw.mk hen
  rw [hw1] at HEN
  clear hz hr hl hbel h2 hen hw1
  go_enter Try.func20, Try.ntmps20
  go_wp2_with fail
  refine HEN.out.mono ?_
  rw [← HW.out]
  rintro e w2 ⟨p, rfl, hb2, hp⟩
  have HB2 := Aw.mk hb2
  have HBB2 := Aw.mk (HB.out.trans (hb2.mono HB.out.size))
  rcases hp with ⟨rfl, hne⟩ | ⟨x, m, rfl, h0, hx, hm, hroom, hkn⟩
  · have hne' : (enterErr ms rs != 0) = true := by simp [hne]
    have HV := Aw.mk (show allowsV ms rs l = (false, enterErr ms rs) by unfold allowsV; rw [if_neg hne])
    generalize enterErr ms rs = er at *
    clear hne hb2 HEN
    go_wp2_with fail
    refine bodyPost_ret (results_tmp2 rfl _ _ _) rfl ⟨by rw [HV.out]; rfl, HBB2.out⟩
  · rw [h0]
    have hE := enter_ok h0
    have hrun := enter_runs h0
    have HROOM := Aw.mk hroom
    have HKN := Aw.mk hkn
    have HXM := Aw.mk (show w1.heap.size ≤ x ∧ w1.heap.size ≤ m from ⟨hx, hm⟩)
    have c1 : w2.cell? ⟨w.heap.size, 0, none⟩ = some (.slice A ms.length c) := (H2.out.below hb2 H2.out.lt).cell 0
    have l1 := (H2.out.below hb2 H2.out.lt).lt
    have HOWN := Aw.mk (own_any A c ms hE.1.2 A2 c2 l hbig3 w2 (HZ.out.below hb2) (HL.out.below hb2))
    have HEE := Aw.mk hE
    have HRUN := Aw.mk hrun
    have H0 := Aw.mk h0
    clear hroom hkn hx hm hE hrun h0 hb2 HEN
    go_wp2_with fail
    refine HOWN.out.mono ?_
    rintro e w3 ⟨r, rfl, hrt, hb3⟩
    have HRT := Aw.mk hrt
    have HB3 := Aw.mk hb3
    have HBB3 := Aw.mk (HBB2.out.trans (hb3.mono HBB2.out.size))
    cases hown : ownB ms l with
    | false =>
      have HV := Aw.mk (show allowsV ms rs l = (false, 2) by unfold allowsV; rw [if_pos H0.out, if_neg (by rw [hown]; decide)])
      clear hrt hb3 hown HOWN
      unfold Rt.enc Rt.cells
      go_wp2_with fail
      refine bodyPost_ret (results_tmp2 rfl _ _ _) rfl ⟨by rw [HV.out]; rfl, HBB3.out.alloc HBB3.out.size _⟩
    | true =>
      have hr2 := hrt hown
      subst hr2
      have HV := Aw.mk (show allowsV ms rs l = (allowedB rs (rtOf l), 0) by unfold allowsV; rw [if_pos H0.out, if_pos hown])
      have hb4 : Below w2.heap.size w2 (w3.alloc (.cells (rtOf l).cells 101)) := hb3.alloc hb3.size _
      have hroom4 := HROOM.out.below hb4
      have hkn4 := HKN.out.below hb4
      have HAL := Aw.mk (allowed_any A c ms AR cR rs x m (rtOf l) _ hroom4 hkn4 (own_ok hown HEE.out.2.1) HRUN.out (by have := HEE.out.2.2.2.1; omega))
      generalize rtOf l = r at *
      unfold Rt.enc Rt.cells at *
      clear hrt hb3 hown hb4 hroom4 hkn4 HOWN
      go_wp2_with fail
      refine HAL.out.mono ?_
      rintro e w5 ⟨rfl, hc5, hk5⟩
      have HC := Aw.mk (show Below w.heap.size w w5 from (((Chg.below (HBB3.out.alloc HBB3.out.size _) (fun k => k = m)).trans (hc5.mono fun k _ e => .inl e)).toBelow (Nat.le_refl _) (fun k e => by have := HXM.out.2; have := HB.out.size; omega)))
      clear hc5 hk5
      go_wp2_with fail
      refine bodyPost_ret (results_tmp2 rfl _ _ _) rfl ⟨by rw [HV.out]; rfl, HC.out⟩
end Go.Proofs.Ytdagijgoegkphaa.Hand

namespace Go.Proofs.Ytdagijgoegkphaa.Hand
open Go.RowKit Go.Shelf
attribute [local go_sem] Oper.semAt_some
def Local (S : Nat → Prop) (P : World → Prop) : Prop := ∀ W W', P W → W.heap.size ≤ W'.heap.size → (∀ k, S k → k < W.heap.size → W'.heap[k]? = W.heap[k]?) → P W'
structure JL (Wd : World) (m : Nat) (Own : Nat → Prop) (P : World → Prop) (X : Nat → Prop) (W : World) : Prop where
  chg : Chg (fun k => Own k ∨ k = m) Wd W
  own : ∀ k, X k → k = m ∨ Wd.heap.size ≤ k
  p : P W
theorem JL.stab {Wd : World} {m : Nat} {Own S : Nat → Prop} {P : World → Prop} (hS : ∀ k, S k → k < Wd.heap.size ∧ k ≠ m) (hL : Local S P) {X Y : Nat → Prop} {W W' : World} (h : JL Wd m Own P X W) (hc : Chg X W W') (hY : ∀ k, Y k → X k ∨ W.heap.size ≤ k) : JL Wd m Own P Y W' := by
  have hs := h.chg.size
  refine ⟨h.chg.trans (hc.mono fun k _ hx => (h.own k hx).imp .inr id), fun k hk => ?_, hL W W' h.p hc.size fun k hk hlt => hc.block k hlt fun hx => ?_⟩
  · rcases hY k hk with h1 | h1
    · exact h.own k h1
    · exact .inr (by omega)
  · have := hS k hk
    rcases h.own k hx with e | e <;> omega
theorem JL.round {Wd : World} {m : Nat} {Own : Nat → Prop} {P P' : World → Prop} {X R : Nat → Prop} {W W' : World} (h : JL Wd m Own P X W) (hO : ∀ k, Own k → k < Wd.heap.size ∧ k ≠ m ∧ ¬ R k) (hc : Chg Own W W') (hp : P' W') :
    Keep (fun k => X k ∨ R k) W W' ∧ JL Wd m Own P' X W' :=
  ⟨hc.keep fun k hk _ ho => by
    have := hO k ho
    rcases hk with hk | hk
    · rcases h.own k hk with e | e <;> omega
    · exact this.2.2 hk, h.chg.trans (hc.mono fun _ _ e => .inl (.inl e)), h.own, hp⟩
theorem every_range {w0 : World} {A : Option Addr} {c : Nat} {ms : List Rg} {AR : Option Addr} {cR : Nat} {rs : List Rn} (hI : Inp A c ms AR cR rs w0) {x m B1 : Nat} {w : World} (hx : w0.heap.size ≤ x) (hm : w0.heap.size ≤ m) (hR : RoomI w0 A c ms AR cR rs x m w) (hK : Known rs m w) (hB1 : Blk w B1 #[.pointer (some ⟨x, 0, none⟩)] 97)
    {g : Operand} {ps : Array Tmp} {assign body : Code} {Q : Exit → Act → World → Prop} {a : Act} (hg : a.eval g = .func (.func 81) #[] #[.pointer (some ⟨B1, 0, none⟩)]) (hps : ps.size = 1)
    (Own S : Nat → Prop) (P : List Rt → World → Prop) (Px : Code → World → Prop) (hS : ∀ k, S k → k < w.heap.size ∧ k ≠ m) (hP : ∀ pre, Local S (P pre)) (hPx : ∀ c, Local S (Px c))
    (h0 : P [] w)
    (Fa : List Rt → Rt → Act → World → Nat → Prop) (hFa : ∀ pre x a' b, Local (fun k => S k ∨ k = b) (fun W => Fa pre x a' W b))
    (hassign : ∀ (l : Nat) (X : Nat → Prop) (pre : List Rt) (r : Rt) (W : World), JL w m Own (P pre) X W → (r ∈ good ms rs ∧ pre.length < (good ms rs).length) → r.ok → (∀ k, X k → k < W.heap.size) →
      assign.wpIn (Fence.wide.inRound l) 0 Try.prog (Exit.then (fun a' W1 => Chg (fun _ => False) W W1 ∧ ∃ b, (W.heap.size ≤ b ∧ b < W1.heap.size ∨ b = B1) ∧ Fa pre r a' W1 b) (fun _ _ _ => False)) { tmps := (ps.zip #[r.enc]).foldl (fun t (p, v) => t.setIfInBounds p v) a.tmps, defers := [] } W)
    (hbody : ∀ (l : Nat) (X : Nat → Prop) (pre : List Rt) (r : Rt) (a' : Act) (W : World) (b : Nat), JL w m Own (P pre) X W → Fa pre r a' W b → (w.heap.size ≤ b ∨ b = B1) → b < W.heap.size → ¬ X b → (r ∈ good ms rs ∧ pre.length < (good ms rs).length) → r.ok → (∀ k, X k → k < W.heap.size) →
      body.wpIn (Fence.wide.inRound l) 0 Try.prog (rndPost X (fun k => k < w0.heap.size ∨ k = x ∨ k = B1) (fun X pre W => JL w m Own (P pre) X W) (fun c X _ W => (∃ r, r ∈ good ms rs) ∧ JL w m Own (Px c) X W) (pre ++ [r]) W) a' W)
    (hdone : ∀ (D : Nat) (W : World), w.heap.size ≤ D → JL w m Own (P (good ms rs)) (fun k => k = m ∨ k = D) W → Known rs m W → W.heap[D]? = some (.deferred (some [])) → Q .normal { a with defers := { target := .collected D, args := #[] } :: a.defers } W)
    (hstop : ∀ (D : Nat) (c : Code) (W : World), w.heap.size ≤ D → (∃ r, r ∈ good ms rs) → JL w m Own (Px c) (fun k => k = m ∨ k = D) W → Known rs m W → W.heap[D]? = some (.deferred (some [])) → c.wpIn Fence.wide 0 Try.prog Q { a with defers := { target := .collected D, args := #[] } :: a.defers } W) :
    (Code.rangeFunc g ps assign body).wpIn Fence.wide 0 Try.prog Q a w := by
  have hml : m < w.heap.size := hK.lt
  have hxl := hR.blk.lt
  have hbl := hB1.lt
  have hol := hR.old.1
  have hBm : B1 ≠ m := by obtain ⟨es, clock, q1, _⟩ := hK; exact not_map q1 hB1
  have hmem : ∀ {pre : List Rt} {r : Rt}, listOk (good ms rs) pre r → (r ∈ good ms rs ∧ pre.length < (good ms rs).length) ∧ r.ok := fun {pre r} ⟨suf, h⟩ => by
    have hm : r ∈ good ms rs := by rw [h]; simp
    exact ⟨⟨hm, by rw [h]; simp⟩, lists_ok hI.rates r (List.mem_filter.1 hm).1⟩
  refine range_law (gf := 81) (lb := #[.pointer (some ⟨B1, 0, none⟩)]) hg (enters_of Try.func81 (by kernel_rfl) rfl)
    (encs := fun r : Rt => #[r.enc]) (R := fun k => k < w0.heap.size ∨ k = x ∨ k = B1) (ok := listOk (good ms rs)) (S := fun xs W => xs = good ms rs ∧ Known rs m W) (Sp := fun _ W => Known rs m W)
    (fun xs W l o hl h => ⟨h.1, h.2.chg ((Chg.refl (fun k => k = l) W).putObj (.inl rfl) o) (fun e => by omega)⟩) (fun _ W l o hl h => h.chg ((Chg.refl (fun k => k = l) W).putObj (.inl rfl) o) (fun e => by omega))
    (fun X pre W => JL w m Own (P pre) X W) (fun c X _ W => (∃ r, r ∈ good ms rs) ∧ JL w m Own (Px c) X W)
    (fun X Y pre W W' h hc hY _ => h.stab hS (hP pre) hc hY) (fun c X Y pre W W' h hc hY _ => ⟨h.1, h.2.stab hS (hPx c) hc hY⟩) (fun k => k = m) (fun k e => by omega) ?hR ⟨Chg.refl _ _, fun k e => .inl e, h0⟩ (fun _ => by simp [hps]) ?hseq
    (fun X pre r a' W => JL w m Own (P pre) X W ∧ ∃ b, (¬ X b ∧ w.heap.size ≤ b ∧ b < W.heap.size ∨ b = B1) ∧ Fa pre r a' W b) ?hJa ?hassign ?hbody ?hdone ?hstop
  case hR =>
    rintro k (h | rfl | rfl)
    · omega
    · exact hxl
    · exact hbl
  case hseq =>
    intro l J' Jx' W1 hc hJ' hJx' hRo hj0
    exact every1_any w0 A c ms AR cR rs hI x m B1 w hx hm hR hK hB1 l J' Jx' W1 hc hJ' hJx' hRo hj0
  case hJa =>
    rintro r a' X Y pre W W' ⟨h, b, h1, h4⟩ hc hY hYl
    have hB : ¬ X B1 := fun hx => by rcases h.own B1 hx with e | e <;> omega
    have hbx : ¬ X b := by rcases h1 with h1 | rfl; exact h1.1; exact hB
    have hb' : ¬ Y b ∧ w.heap.size ≤ b ∧ b < W'.heap.size ∨ b = B1 := by
      rcases h1 with ⟨q1, q2, q3⟩ | rfl
      · refine .inl ⟨fun hy => ?_, q2, Nat.lt_of_lt_of_le q3 hc.size⟩
        rcases hY b hy with h | h
        · exact q1 h
        · omega
      · exact .inr rfl
    refine ⟨h.stab hS (hP pre) hc hY, b, hb', hFa pre r a' b W W' h4 hc.size fun k hk hlt => hc.block k hlt fun hx => ?_⟩
    rcases hk with hk | rfl
    · have := hS k hk
      rcases h.own k hx with e | e <;> omega
    · exact hbx hx
  case hassign =>
    intro l X pre r W hj hok hX
    refine wpIn_mono (hassign l X pre r W hj (hmem hok).1 (hmem hok).2 hX) ?_
    intro e a' W1 he
    cases e with
    | normal =>
      obtain ⟨hc, b, h1, h3⟩ := he
      have hs := hj.chg.size
      have hb' : ¬ X b ∧ w.heap.size ≤ b ∧ b < W1.heap.size ∨ b = B1 := by
        rcases h1 with ⟨q1, q2⟩ | rfl
        · exact .inl ⟨fun hx => by have := hX b hx; omega, by omega, q2⟩
        · exact .inr rfl
      exact ⟨hc.keep fun _ _ _ h => h, hj.stab hS (hP pre) (hc.mono fun _ _ h => h.elim) (fun k h => .inl h), b, hb', h3⟩
    | ret => exact he.elim
    | exit id => exact he.elim
    | goto t => exact he.elim
    | panic ch => exact he.elim
    | outgrown => exact he.elim
  case hbody =>
    rintro l X pre r a' W ⟨hj, b, h1, h4⟩ hok hX
    have hB : ¬ X B1 := fun hx => by rcases hj.own B1 hx with e | e <;> omega
    have hs := hj.chg.size
    refine hbody l X pre r a' W b hj h4 (h1.imp (fun h => h.2.1) id) ?_ ?_ (hmem hok).1 (hmem hok).2 hX
    · rcases h1 with h | rfl
      · exact h.2.2
      · omega
    · rcases h1 with h | rfl
      · exact h.1
      · exact hB
  case hdone =>
    rintro D xs W hD ⟨rfl, hk⟩ hj hDW
    exact hdone D W hD hj hk hDW
  case hstop =>
    rintro D cd pre W hD hk ⟨hr, hj⟩ hDW
    exact hstop D cd W hD hr hj hk hDW
end Go.Proofs.Ytdagijgoegkphaa.Hand

namespace Go.Proofs.Ytdagijgoegkphaa.Hand
open Go.RowKit Go.Shelf
attribute [local go_sem] Oper.semAt_some
def possErr (ms : List Rg) (rs : List Rn) : Int := if enterErr ms rs = 0 then (if good ms rs = [] then 9 else 0) else enterErr ms rs
def PossPost (A : Option Addr) (c : Nat) (ms : List Rg) (AR : Option Addr) (cR : Nat) (rs : List Rn) (w : World) (e : Ending) (w' : World) : Prop :=
  ∃ p, e = .returned (.tuple #[.pointer p, .int .i64 (possErr ms rs)]) ∧ Below w.heap.size w w' ∧ ((p = none ∧ possErr ms rs ≠ 0) ∨ ∃ x m, p = some ⟨x, 0, none⟩ ∧ possErr ms rs = 0 ∧ w.heap.size ≤ x ∧ w.heap.size ≤ m ∧ RoomI w A c ms AR cR rs x m w' ∧ Known rs m w')
theorem results56 {tmps : Array Value} {W : World} {g h : Nat} {x y : Value} (hp : tmps.getD 4 undef = .pointer (some ⟨g, 0, none⟩)) (hq : tmps.getD 5 undef = .pointer (some ⟨h, 0, none⟩)) (h1 : Blk W g #[x] 97) (h2 : Blk W h #[y] 34) :
    (results Try.f56 tmps).run Try.prog W = .ok (.tuple #[x, y]) W := by
  have c0 : W.cell? ⟨g, 0, none⟩ = some x := h1.cell 0
  have c1 : W.cell? ⟨h, 0, none⟩ = some y := h2.cell 0
  have e : Try.f56.results = #[.cell 4 97, .cell 5 34] := rfl
  have hp' : tmps[4]?.getD undef = .pointer (some ⟨g, 0, none⟩) := by simpa using hp
  have hq' : tmps[5]?.getD undef = .pointer (some ⟨h, 0, none⟩) := by simpa using hq
  unfold results
  simp only [e]
  go_simp
theorem run_store_pointer {P : Program} {w : World} {a : Addr} (p : Option Addr) (m : Mode) : (store a (.pointer p) m).run P w = stored P w a (.pointer p) m := run_store P w a _ m rfl
theorem Blk.local {S : Nat → Prop} {b : Nat} {cs : Array Value} {t : Nat} (h : S b) : Local S (fun W => Blk W b cs t) := fun _ _ hb _ hk => (hk b h hb.lt).trans hb
theorem Local.and {S : Nat → Prop} {P Q : World → Prop} (h : Local S P) (g : Local S Q) : Local S (fun W => P W ∧ Q W) := fun W W' ⟨a, b⟩ hs hk => ⟨h W W' a hs hk, g W W' b hs hk⟩
theorem Local.const {S : Nat → Prop} (p : Prop) : Local S (fun _ => p) := fun _ _ h _ _ => h
set_option maxHeartbeats 8000000 in
set_option maxRecDepth 10000 in
theorem possible_any (A : Option Addr) (c : Nat) (ms : List Rg) (AR : Option Addr) (cR : Nat) (rs : List Rn) (w : World) (hz : Rg.At w A ms) (hr : RunsAt w AR rs) (hbig : ms.length ≤ 9223372036854775807) (hbig2 : rs.length ≤ 9223372036854775807) :
    Calls Try.prog 56 #[.agg #[.slice A ms.length c], .slice AR rs.length cR] w (PossPost A c ms AR cR rs w) := by
  obtain ⟨w1, hw1⟩ : ∃ w1, w1 = ((w.alloc (.cells #[.slice A ms.length c] 39)).alloc (.cells #[.pointer none] 97)).alloc (.cells #[.int .i64 0] 34) := ⟨_, rfl⟩
  obtain ⟨B4, hB4⟩ : ∃ B4, B4 = w.heap.size + 1 := ⟨_, rfl⟩
  obtain ⟨B5, hB5⟩ : ∃ B5, B5 = w.heap.size + 1 + 1 := ⟨_, rfl⟩
  have hbel : Below w.heap.size w w1 := by rw [hw1]; exact (((Below.refl w.heap.size w).alloc (Nat.le_refl _) _).alloc (by simp) _).alloc (by simp; omega) _
  have h4 : Blk w1 B4 #[.pointer none] 97 := by
    have := Blk.new (w.alloc (.cells #[.slice A ms.length c] 39)) #[.pointer none] 97
    rw [hw1, hB4]; exact (by simpa using this : Blk _ (w.heap.size + 1) _ _).alloc _
  have h5 : Blk w1 B5 #[.int .i64 0] 34 := by
    have := Blk.new ((w.alloc (.cells #[.slice A ms.length c] 39)).alloc (.cells #[.pointer none] 97)) #[.int .i64 0] 34
    rw [hw1, hB5]; simpa using this
  have hsz1 : w1.heap.size = w.heap.size + 3 := by rw [hw1]; simp
  have hen := enter_any A c ms AR cR rs w1 (hz.below hbel) (hr.below hbel) hbig hbig2
  have HB := Aw.mk hbel
  have H4 := Aw.mk h4
  have H5 := Aw.mk h5
  have HSZ := Aw.mk hsz1
  have HB45 := Aw.mk (And.intro hB4 hB5)
  have HZ := Aw.mk hz
  have HR := Aw.mk hr
  have HW := Aw.mk hw1
  have HEN := Aw.mk hen
  rw [hw1] at HEN
  clear hz hr hbel h4 h5 hen hsz1
  refine (callsIn_wide (n := 0)).1 (callsIn_of_wp_marks Try.func56 rfl trivial ((wpIn_wide (n := 0)).2 ?_) rfl)
  simp only [Try.ntmps56, List.size_toArray, List.length_cons, List.length_nil, Nat.reduceAdd, Nat.reduceSub, Array.replicate_succ, Array.replicate_zero, List.push_toArray, List.append_toArray, List.nil_append, List.cons_append]
  clear hw1 hB4 hB5
  go_wp2_with fail
  rw [← HB45.out.2, ← HB45.out.1]
  refine HEN.out.mono ?_
  rw [← HW.out]
  rintro e w2 ⟨p, rfl, hb2, hp⟩
  have h42 := H4.out.below hb2 H4.out.lt
  have h52 := H5.out.below hb2 H5.out.lt
  have HBB2 := Aw.mk (HB.out.trans (hb2.mono HB.out.size))
  have HS2 := Aw.mk (show w.heap.size + 3 ≤ w2.heap.size by have := HSZ.out; have := hb2.size; omega)
  have d4 : w2.cell? ⟨B4, 0, none⟩ = some (.pointer none) := h42.cell 0
  have d5 : w2.cell? ⟨B5, 0, none⟩ = some (.int .i64 0) := h52.cell 0
  have z4 : w2.frozen? ⟨B4, 0, none⟩ = false := h42.frozen 0
  have z5 : w2.frozen? ⟨B5, 0, none⟩ = false := h52.frozen 0
  have l4 := h42.lt
  have l5 := h52.lt
  have n45 : B4 ≠ B5 := by have := HB45.out; omega
  have n54 : B5 ≠ B4 := by have := HB45.out; omega
  have H42 := Aw.mk h42
  have H52 := Aw.mk h52
  rcases hp with ⟨rfl, hne⟩ | ⟨x, m, rfl, h0, hx, hm, hroom, hkn⟩
  · have hne' : (enterErr ms rs != 0) = true := by simp [hne]
    have HV := Aw.mk (show possErr ms rs = enterErr ms rs by unfold possErr; rw [if_neg hne])
    have HN := Aw.mk hne
    generalize enterErr ms rs = er at *
    clear hne hb2 HEN h42 h52
    go_wp2_with fail
    have hb4 := ((H42.out.set 0 (.pointer none)).other (a := ⟨B5, 0, none⟩) n45 (.int .i64 er)).alloc (.cells #[.pointer none] 97)
    have hb5 := ((H52.out.other (a := ⟨B4, 0, none⟩) n54 (.pointer none)).set 0 (.int .i64 er)).alloc (.cells #[.pointer none] 97)
    refine postM_ret0 rfl (results56 rfl rfl hb4 hb5) ⟨none, by rw [HV.out], ?_, .inl ⟨rfl, by rw [HV.out]; exact HN.out⟩⟩
    have hlt := HB45.out
    exact ((((Chg.below HBB2.out (fun k => k = B4 ∨ k = B5)).setCell (p := ⟨B4, 0, none⟩) (.inl (.inl rfl)) _).setCell (p := ⟨B5, 0, none⟩) (.inl (.inr rfl)) _).alloc _).toBelow (Nat.le_refl _) (fun k e => by omega)
  · rw [h0]
    have hI : Inp A c ms AR cR rs w := enter_inp h0 HZ.out HR.out
    have hri := hroom.roomI HBB2.out
    have HXM := Aw.mk (show w1.heap.size ≤ x ∧ w1.heap.size ≤ m from ⟨hx, hm⟩)
    have HRI := Aw.mk hri
    have HKN := Aw.mk hkn
    have HI := Aw.mk hI
    have H0 := Aw.mk h0
    clear hroom hkn hx hm h0 hb2 HEN h42 h52 hri hI
    go_wp2_with fail
    refine (every_any _ _).mono ?_
    rintro e w3 ⟨rfl, rfl⟩
    obtain ⟨wd, hwd⟩ : ∃ wd, wd = (w2.alloc (.cells #[.pointer (some ⟨x, 0, none⟩)] 97)).alloc (.cells #[.pointer (some ⟨x, 0, none⟩)] 97) := ⟨_, rfl⟩
    rw [← hwd]
    obtain ⟨B6, hB6⟩ : ∃ B6, B6 = w2.heap.size := ⟨_, rfl⟩
    rw [show (w2.alloc (.cells #[.pointer (some ⟨x, 0, none⟩)] 97)).heap.size = B6 + 1 by rw [hB6]; simp, ← hB6]
    have hbd : Below w2.heap.size w2 wd := by rw [hwd]; exact ((Below.refl _ _).alloc (Nat.le_refl _) _).alloc (by simp) _
    have h4d := H42.out.below hbd H42.out.lt
    have h5d := H52.out.below hbd H52.out.lt
    have h6d : Blk wd B6 #[.pointer (some ⟨x, 0, none⟩)] 97 := by rw [hwd, hB6]; exact (Blk.new w2 _ _).alloc _
    have h1d : Blk wd (B6 + 1) #[.pointer (some ⟨x, 0, none⟩)] 97 := by
      have := Blk.new (w2.alloc (.cells #[.pointer (some ⟨x, 0, none⟩)] 97)) #[.pointer (some ⟨x, 0, none⟩)] 97
      rw [hwd, hB6]; simpa using this
    have hszd : wd.heap.size = B6 + 2 := by rw [hwd, hB6]; simp
    have hxl := HRI.out.blk.lt
    have hml := HKN.out.lt
    have hlt : w.heap.size < B4 ∧ B4 < B5 ∧ B5 < w.heap.size + 3 := by have := HB45.out; omega
    have hxm := HXM.out
    have hs1 : w.heap.size + 3 ≤ w1.heap.size := by have := HSZ.out; omega
    have hs2 := HS2.out
    have hrd := HRI.out.chg (Chg.below hbd (fun _ => False)) (fun _ h => h.elim) (fun h => h)
    have hkd := HKN.out.below hbd
    have HBD := Aw.mk hbd
    have HRD := Aw.mk hrd
    have HKD := Aw.mk hkd
    have H1D := Aw.mk h1d
    have H6L := Aw.mk (show w.heap.size + 3 ≤ B6 ∧ x < B6 ∧ m < B6 ∧ w.heap.size + 3 ≤ x ∧ w.heap.size + 3 ≤ m ∧ B6 + 2 ≤ wd.heap.size ∧ x ≠ m from by
      refine ⟨by omega, by omega, by omega, by omega, by omega, by omega, ?_⟩
      obtain ⟨es, clock, q1, _⟩ := HKN.out
      exact not_map q1 HRI.out.blk)
    have h6l := H6L.out
    clear hwd hB6 d4 d5 z4 z5 l4 l5 hszd
    dsimp only [Exit.inBlock, Exit.then]
    go_wp2_with fail
    refine wpIn_wide.1 (every_range HI.out (by omega) (by omega) hrd hkd h1d rfl rfl (fun k => k = B4 ∨ k = B5) (fun k => k = B4 ∨ k = B5 ∨ k = B6)
      (fun pre W => pre = [] ∧ Blk W B4 #[.pointer none] 97 ∧ Blk W B5 #[.int .i64 0] 34 ∧ Blk W B6 #[.pointer (some ⟨x, 0, none⟩)] 97)
      (fun cd W => cd = .ret ∧ Blk W B4 #[.pointer (some ⟨x, 0, none⟩)] 97 ∧ Blk W B5 #[.int .i64 0] 34)
      (fun k hk => by rcases hk with rfl | rfl | rfl <;> omega)
      (fun pre => (Local.const _).and ((Blk.local (.inl rfl)).and ((Blk.local (.inr (.inl rfl))).and (Blk.local (.inr (.inr rfl))))))
      (fun cd => (Local.const _).and ((Blk.local (.inl rfl)).and (Blk.local (.inr (.inl rfl)))))
      ⟨rfl, h4d, h5d, h6d⟩
      (fun _ _ a' _ _ => a'.defers = [] ∧ a'.tmps.size = 21 ∧ a'.tmps.getD 4 undef = .pointer (some ⟨B4, 0, none⟩) ∧ a'.tmps.getD 5 undef = .pointer (some ⟨B5, 0, none⟩) ∧ a'.tmps.getD 6 undef = .pointer (some ⟨B6, 0, none⟩))
      (fun _ _ _ _ => Local.const _) ?hassign ?hbody ?hdone ?hstop)
    case hassign =>
      intro l X pre r W hj hg hok hX
      simp only [List.zip_toArray, List.zip_cons_cons, List.zip_nil_left, List.zip_nil_right, List.foldl_toArray, List.foldl_cons, List.foldl_nil, List.setIfInBounds_toArray, List.set_cons_succ, List.set_cons_zero]
      clear hj hX
      gi_wp2
      exact ⟨Chg.refl _ _, B6 + 1, .inr rfl, trivial, rfl, rfl, rfl, rfl⟩
    case hbody =>
      intro l X pre r a' W b hj hFa hb1 hb2 hbX hg hok hX
      obtain ⟨hdf, hsz, hp4, hp5, hp6⟩ := hFa
      have p4 : slot a' 4 = .pointer (some ⟨B4, 0, none⟩) := hp4
      have p5 : slot a' 5 = .pointer (some ⟨B5, 0, none⟩) := hp5
      have p6 : slot a' 6 = .pointer (some ⟨B6, 0, none⟩) := hp6
      obtain ⟨_, k4, k5, k6⟩ := hj.p
      have e4 : W.cell? ⟨B4, 0, none⟩ = some (.pointer none) := k4.cell 0
      have e5 : W.cell? ⟨B5, 0, none⟩ = some (.int .i64 0) := k5.cell 0
      have e6 : W.cell? ⟨B6, 0, none⟩ = some (.pointer (some ⟨x, 0, none⟩)) := k6.cell 0
      have y4 : W.frozen? ⟨B4, 0, none⟩ = false := k4.frozen 0
      have y5 : W.frozen? ⟨B5, 0, none⟩ = false := k5.frozen 0
      have hrd' := hj.round (R := fun k => k < w.heap.size ∨ k = x ∨ k = B6 + 1) (W' := (W.setCell ⟨B4, 0, none⟩ (.pointer (some ⟨x, 0, none⟩))).setCell ⟨B5, 0, none⟩ (.int .i64 0))
        (P' := fun W => Code.ret = .ret ∧ Blk W B4 #[.pointer (some ⟨x, 0, none⟩)] 97 ∧ Blk W B5 #[.int .i64 0] 34) (fun k hk => by rcases hk with rfl | rfl <;> refine ⟨by omega, by omega, by omega⟩)
        (((Chg.refl _ W).setCell (.inl (.inl rfl)) _).setCell (.inl (.inr rfl)) _) ⟨rfl, (k4.set 0 _).other (a := ⟨B5, 0, none⟩) n45 _, (k5.other (a := ⟨B4, 0, none⟩) n54 _).set 0 _⟩
      have HP := Aw.mk (show rndPost X (fun k => k < w.heap.size ∨ k = x ∨ k = B6 + 1) (fun X pre W => JL wd m (fun k => k = B4 ∨ k = B5) (fun W => pre = [] ∧ Blk W B4 #[.pointer none] 97 ∧ Blk W B5 #[.int .i64 0] 34 ∧ Blk W B6 #[.pointer (some ⟨x, 0, none⟩)] 97) X W)
        (fun c X _ W => (∃ r, r ∈ good ms rs) ∧ JL wd m (fun k => k = B4 ∨ k = B5) (fun W => c = .ret ∧ Blk W B4 #[.pointer (some ⟨x, 0, none⟩)] 97 ∧ Blk W B5 #[.int .i64 0] 34) X W) (pre ++ [r]) W .ret a'
        ((W.setCell ⟨B4, 0, none⟩ (.pointer (some ⟨x, 0, none⟩))).setCell ⟨B5, 0, none⟩ (.int .i64 0)) from ⟨hrd'.1, ⟨r, hg.1⟩, hrd'.2⟩)
      rw [frame_lit' a' 21 hsz, hdf]
      simp only [List.range, List.range.loop, List.map_cons, List.map_nil, p4, p5, p6]
      clear hj hdf hsz hp4 hp5 hp6 p4 p5 p6 k4 k5 k6 hrd' hX hbX hb1 hb2
      generalize a' = a'' at *
      gi_wp2
      exact HP.out
    case hdone =>
      intro D W hD hj hk hDW
      obtain ⟨hgd, k4, k5, k6⟩ := hj.p
      have hDl := (Array.getElem?_eq_some_iff.1 hDW).1
      have e4 : W.cell? ⟨B4, 0, none⟩ = some (.pointer none) := k4.cell 0
      have e5 : W.cell? ⟨B5, 0, none⟩ = some (.int .i64 0) := k5.cell 0
      have y4 : W.frozen? ⟨B4, 0, none⟩ = false := k4.frozen 0
      have y5 : W.frozen? ⟨B5, 0, none⟩ = false := k5.frozen 0
      have hch := hj.chg
      have HV := Aw.mk (show possErr ms rs = 9 by unfold possErr; rw [if_pos H0.out, if_pos hgd])
      have hne4 : D ≠ B4 := by omega
      have hne5 : D ≠ B5 := by omega
      have HDW := Aw.mk hDW
      have K4 := Aw.mk k4
      have K5 := Aw.mk k5
      have HCH := Aw.mk hch
      have HD := Aw.mk hD
      clear hj hk hDW k4 k5 k6 hch hDl hD hgd
      dsimp only [Exit.inBlock, Exit.then]
      go_wp2_with fail
      have hDW2 : ((W.setCell ⟨B4, 0, none⟩ (.pointer none)).setCell ⟨B5, 0, none⟩ (.int .i64 9)).heap[D]? = some (.deferred (some [])) := (Below.heap_setCell _ _ _ D hne5).trans ((Below.heap_setCell _ _ _ D hne4).trans HDW.out)
      have hb4 := ((K4.out.set 0 (.pointer none)).other (a := ⟨B5, 0, none⟩) n45 (.int .i64 9)).putOther hDW2 (.deferred none)
      have hb5 := ((K5.out.other (a := ⟨B4, 0, none⟩) n54 (.pointer none)).set 0 (.int .i64 9)).putOther hDW2 (.deferred none)
      refine postM_ret rfl hDW2 (results56 rfl rfl hb4 hb5) ⟨none, by rw [HV.out], ?_, .inl ⟨rfl, by rw [HV.out]; decide⟩⟩
      have hDd := HD.out
      have h1 : Chg (fun k => k = B4 ∨ k = B5 ∨ k = m) w W := (Chg.below (HBB2.out.trans (HBD.out.mono HBB2.out.size)) _).trans (HCH.out.mono fun k _ e => .inl (by rcases e with (e | e) | e; exact .inl e; exact .inr (.inl e); exact .inr (.inr e)))
      exact (((h1.setCell (.inl (.inl rfl)) _).setCell (.inl (.inr (.inl rfl))) _).putObj (.inr (by omega)) _).toBelow (Nat.le_refl _) (fun k e => by omega)
    case hstop =>
      intro D cd W hD hr hj hk hDW
      obtain ⟨rfl, k4, k5⟩ := hj.p
      have hDl := (Array.getElem?_eq_some_iff.1 hDW).1
      have hch := hj.chg
      have HV := Aw.mk (show possErr ms rs = 0 by unfold possErr; rw [if_pos H0.out, if_neg (fun e => by obtain ⟨r, hr⟩ := hr; rw [e] at hr; cases hr)])
      have HDW := Aw.mk hDW
      have K4 := Aw.mk k4
      have K5 := Aw.mk k5
      have HCH := Aw.mk hch
      have HD := Aw.mk hD
      have HK := Aw.mk hk
      clear hj hk hDW k4 k5 hch hDl hD
      dsimp only [Exit.inBlock, Exit.then]
      gi_wp2
      have hDd := HD.out
      have hb4 := K4.out.putOther HDW.out (.deferred none)
      have hb5 := K5.out.putOther HDW.out (.deferred none)
      have h1 : Chg (fun k => k = B4 ∨ k = B5 ∨ k = m) w W := (Chg.below (HBB2.out.trans (HBD.out.mono HBB2.out.size)) _).trans (HCH.out.mono fun k _ e => .inl (by rcases e with (e | e) | e; exact .inl e; exact .inr (.inl e); exact .inr (.inr e)))
      have hpo : Chg (fun k => k = D) W (W.putObj D (.deferred none)) := (Chg.refl (fun k => k = D) W).putObj (.inl rfl) _
      refine postM_ret rfl HDW.out (results56 rfl rfl hb4 hb5) ⟨some ⟨x, 0, none⟩, by rw [HV.out], (h1.putObj (.inr (by omega)) _).toBelow (Nat.le_refl _) (fun k e => by omega), .inr ⟨x, m, rfl, HV.out, by omega, by omega, ?_, HK.out.chg hpo (by omega)⟩⟩
      exact (HRD.out.chg HCH.out (fun k e => by omega) (by omega)).chg hpo (fun k e => by omega) (by omega)
end Go.Proofs.Ytdagijgoegkphaa.Hand

namespace Go.Proofs.Ytdagijgoegkphaa.Hand
open Go.RowKit Go.Shelf
def mn (a b : Int) : Int := if b < a then b else a
def withV (x : Rg) (n : Int) (first : Bool) : Rg := if first = true then ⟨n, n⟩ else ⟨mn x.lo n, mx x.hi n⟩
theorem results58 {tmps : Array Value} {W : World} {g : Nat} {x0 x1 : Value} (hp : tmps.getD 6 undef = .pointer (some ⟨g, 0, none⟩)) (h : Blk W g #[x0, x1] 47) :
    (results Try.f58 tmps).run Try.prog W = .ok (.agg #[x0, x1]) W := by
  have c0 : W.cell? ⟨g, 0, none⟩ = some x0 := h.cell 0
  have c1 : W.cell? ⟨g, 1, none⟩ = some x1 := h.cell 1
  have e : Try.f58.results = #[.cell 6 47] := rfl
  have hp' : tmps[6]?.getD undef = .pointer (some ⟨g, 0, none⟩) := by simpa using hp
  unfold results
  simp only [e]
  go_simp
set_option maxHeartbeats 2000000 in
theorem with_any (x : Rg) (n : Int) (first : Bool) (w : World) : Calls Try.prog 58 #[x.enc, .int .i64 n, .bool first] w fun e w' => e = .returned (withV x n first).enc ∧ Below w.heap.size w w' := by
  obtain ⟨lo, hi⟩ := x
  have fin : ∀ (a b : Int), Blk ((w.alloc (.cells #[.int .i64 lo, .int .i64 hi] 47)).alloc (.cells #[.int .i64 a, .int .i64 b] 47)) (w.heap.size + 1) #[.int .i64 a, .int .i64 b] 47 ∧ Below w.heap.size w ((w.alloc (.cells #[.int .i64 lo, .int .i64 hi] 47)).alloc (.cells #[.int .i64 a, .int .i64 b] 47)) := fun a b => by
    have := Blk.new (w.alloc (.cells #[.int .i64 lo, .int .i64 hi] 47)) #[.int .i64 a, .int .i64 b] 47
    exact ⟨by simpa using this, ((Below.refl w.heap.size w).alloc (Nat.le_refl _) _).alloc (by simp) _⟩
  have FIN := Aw.mk fin
  clear fin
  obtain ⟨v, hv⟩ : ∃ v, v = withV ⟨lo, hi⟩ n first := ⟨_, rfl⟩
  rw [← hv]
  have HV := Aw.mk hv
  clear hv
  cases first with
  | true =>
    have HV2 := Aw.mk (show v = ⟨n, n⟩ from HV.out)
    unfold Rg.enc
    go_enter Try.func58, Try.ntmps58
    go_wp2
    exact bodyPost_ret (results58 rfl (FIN.out n n).1) rfl ⟨by rw [HV2.out], (FIN.out n n).2⟩
  | false =>
    have HV2 := Aw.mk (show v = ⟨mn lo n, mx hi n⟩ from HV.out)
    have HMN := Aw.mk (show ∀ a, (a = lo ∧ lo ≤ n ∨ a = n ∧ n ≤ lo) → mn lo n = a from fun a h => by unfold mn; split <;> omega)
    have HMX := Aw.mk (show ∀ a, (a = hi ∧ n ≤ hi ∨ a = n ∧ hi ≤ n) → mx hi n = a from fun a h => by unfold mx; split <;> omega)
    unfold Rg.enc
    go_enter Try.func58, Try.ntmps58
    go_wp2
    all_goals
      refine bodyPost_ret (results58 rfl (FIN.out _ _).1) rfl ⟨?_, (FIN.out _ _).2⟩
      rw [HV2.out]
      dsimp only
      rw [HMN.out _ (by first | exact .inl ⟨rfl, by omega⟩ | exact .inr ⟨rfl, by omega⟩), HMX.out _ (by first | exact .inl ⟨rfl, by omega⟩ | exact .inr ⟨rfl, by omega⟩)]
def hoursV (rate stretch : Int) : Int := if stretch = 0 then 0 else if rate = 0 then -1 else (stretch + rate - 1) / rate
theorem hours_any (rate stretch : Int) (w : World) (h0 : 0 ≤ rate) (h1 : rate ≤ 1000) (h2 : 0 ≤ stretch) (h3 : stretch ≤ 10000000000) : Calls Try.prog 72 #[.int .i64 rate, .int .i64 stretch] w fun e w' => e = .returned (.int .i64 (hoursV rate stretch)) ∧ w = w' := by
  by_cases e1 : stretch = 0
  · subst e1
    have HV := Aw.mk (show hoursV rate 0 = 0 from rfl)
    go_enter Try.func72, Try.ntmps72
    go_wp2
    go_ret
    exact ⟨by rw [HV.out]; rfl, rfl⟩
  · have d1 : (stretch == 0) = false := by simp [e1]
    by_cases e2 : rate = 0
    · subst e2
      have HV := Aw.mk (show hoursV 0 stretch = -1 by unfold hoursV; rw [if_neg e1, if_pos rfl])
      clear e1
      go_enter Try.func72, Try.ntmps72
      go_wp2
      go_ret
      exact ⟨by rw [HV.out]; rfl, rfl⟩
    · have d2 : (rate == 0) = false := by simp [e2]
      have HV := Aw.mk (show hoursV rate stretch = (stretch + rate - 1) / rate by unfold hoursV; rw [if_neg e1, if_neg e2])
      clear e1
      go_enter Try.func72, Try.ntmps72
      go_wp2
      go_ret
      exact ⟨by rw [HV.out]; rfl, rfl⟩
end Go.Proofs.Ytdagijgoegkphaa.Hand

namespace Go.Proofs.Ytdagijgoegkphaa.Hand
open Go.RowKit Go.Shelf
def rgC (o : List Rg) : List Value := o.flatMap fun x => [.int .i64 x.lo, .int .i64 x.hi]
theorem rgC_length : ∀ o : List Rg, (rgC o).length = o.length * 2
  | [] => rfl
  | x :: o => by
    show (_ :: _ :: rgC o).length = _
    rw [List.length_cons, List.length_cons, rgC_length o, List.length_cons]; omega
theorem rgC_get : ∀ (o : List Rg) (b : Nat) (h : b < o.length), (rgC o)[b * 2]? = some (.int .i64 (o[b]).lo) ∧ (rgC o)[b * 2 + 1]? = some (.int .i64 (o[b]).hi)
  | x :: o, 0, _ => ⟨rfl, rfl⟩
  | x :: o, b + 1, h => by
    have := rgC_get o b (by simpa using h)
    rw [show (b + 1) * 2 = b * 2 + 1 + 1 by omega]
    exact this
theorem rgC_set : ∀ (o : List Rg) (b : Nat) (y : Rg), b < o.length → ((rgC o).set (b * 2) (.int .i64 y.lo)).set (b * 2 + 1) (.int .i64 y.hi) = rgC (o.set b y)
  | x :: o, 0, y, _ => rfl
  | x :: o, b + 1, y, h => by
    have := rgC_set o b y (by simpa using h)
    rw [show (b + 1) * 2 = b * 2 + 1 + 1 by omega]
    show _ :: _ :: ((rgC o).set (b * 2) _).set (b * 2 + 1) _ = _
    rw [this]
    rfl
def WiQ (B4 B5 B8 Bo : Nat) (o : List Rg) (b : Nat) (y : Rg) (a0 : Act) (w0 : World) (Q : Exit → Act → World → Prop) : Prop :=
  ∀ (a : Act) (W : World), a.defers = a0.defers → a.tmps.size = 49 → (∀ s, (s < 31 ∨ 43 < s) → a.tmps.getD s undef = a0.tmps.getD s undef) → Chg (fun k => k = Bo) w0 W → Blk W Bo (rgC (o.set b y)).toArray 47 → Q .normal a W
set_option maxHeartbeats 4000000 in
set_option maxRecDepth 10000 in
theorem widen_region (rd : Option Nat) (B4 B5 B8 Bo : Nat) (o : List Rg) (b : Nat) (hb : b < o.length) (ho : o.length ≤ 3) (x : Rg) (hx : o[b] = x) (r : Rt) (n : Int) (hn : r.get b = n) (k : Int) (first : Bool) (hfk : (k == 0) = first)
    (a0 : Act) (w0 : World) (Q : Exit → Act → World → Prop) (hsz : a0.tmps.size = 49)
    (f4 : a0.tmps.getD 4 undef = .pointer (some ⟨B4, 0, none⟩)) (f5 : a0.tmps.getD 5 undef = .pointer (some ⟨B5, 0, none⟩)) (f8 : a0.tmps.getD 8 undef = .pointer (some ⟨B8, 0, none⟩)) (f9 : a0.tmps.getD 9 undef = .int .i64 (b : Int))
    (h4 : Blk w0 B4 #[.slice (some ⟨Bo, 0, none⟩) o.length o.length] 37) (h5 : Blk w0 B5 #[.int .i64 k] 3) (h8 : Blk w0 B8 r.cells 101) (ho8 : Blk w0 Bo (rgC o).toArray 47)
    (hQ : WiQ B4 B5 B8 Bo o b (withV x n first) a0 w0 Q) :
    (Code.region 10 (opsOf Try.f24 10) true).wpIn { Fence.wide with round := rd } 0 Try.prog Q a0 w0 := by
  refine region_walk (rd := rd) 13 (fun i => i + 31) (by kernel_rfl) (by kernel_rfl) (by rw [hsz]; kernel_rfl)
    (fun W => Blk W B4 #[.slice (some ⟨Bo, 0, none⟩) o.length o.length] 37 ∧ Blk W B5 #[.int .i64 k] 3 ∧ Blk W B8 r.cells 101 ∧ Blk W Bo (rgC o).toArray 47 ∧ Below w0.heap.size w0 W)
    (fun i v W => match i with
      | 0 => v = .slice (some ⟨Bo, 0, none⟩) o.length o.length
      | 1 => v = .int .i64 (b : Int)
      | 2 => v = .slice (some ⟨Bo, 0, none⟩) o.length o.length
      | 3 => v = .int .i64 (b : Int)
      | 4 => v = .pointer (some ⟨Bo, b * 2, none⟩)
      | 5 => v = .agg #[.int .i64 x.lo, .int .i64 x.hi]
      | 6 => v = .int .i64 (b : Int)
      | 7 => v = .pointer (some ⟨B8, b, none⟩)
      | 8 => v = .int .i64 n
      | 9 => v = .int .i64 (k : Int)
      | 10 => v = .bool first
      | 11 => v = .agg #[.int .i64 (withV x n first).lo, .int .i64 (withV x n first).hi]
      | _ => v = .pointer (some ⟨Bo, b * 2, none⟩))
    (fun W W' hb h => ⟨h.1.below hb h.1.lt, h.2.1.below hb h.2.1.lt, h.2.2.1.below hb h.2.2.1.lt, h.2.2.2.1.below hb h.2.2.2.1.lt, h.2.2.2.2.trans (hb.mono h.2.2.2.2.size)⟩) ?hSp ⟨h4.drew, h5.drew, h8.drew, ho8.drew, (Below.refl _ _).drew⟩ ?hop ?hlast
  case hSp =>
    intro i v W W' hi hb h
    match i, h with
    | 0, h | 1, h | 2, h | 3, h | 4, h | 5, h | 6, h | 7, h | 8, h | 9, h | 10, h | 11, h => exact h
    | _ + 12, h => exact h
  case hop =>
    intro i a W hiB hN' hfix hBW hdep
    have f4 : a.tmps.getD 4 undef = .pointer (some ⟨B4, 0, none⟩) := (hfix 4 (fun j _ => by omega)).trans f4
    have f5 : a.tmps.getD 5 undef = .pointer (some ⟨B5, 0, none⟩) := (hfix 5 (fun j _ => by omega)).trans f5
    have f8 : a.tmps.getD 8 undef = .pointer (some ⟨B8, 0, none⟩) := (hfix 8 (fun j _ => by omega)).trans f8
    have f9 : a.tmps.getD 9 undef = .int .i64 (b : Int) := (hfix 9 (fun j _ => by omega)).trans f9
    have e0 : ∀ x, a.eval (.tmp x) = a.tmps.getD x undef := fun _ => rfl
    have g0 : W.cell? ⟨B4, 0, none⟩ = some (.slice (some ⟨Bo, 0, none⟩) o.length o.length) := hBW.1.cell 0
    have g1 : W.cell? ⟨B5, 0, none⟩ = some (.int .i64 k) := hBW.2.1.cell 0
    have g2 : W.cell? ⟨B8, b, none⟩ = some (.int .i64 n) := (hBW.2.2.1.cell b).trans ((Rt.cells_get r b (by omega)).trans (by rw [hn]))
    have g3 : W.cell? ⟨Bo, b * 2, none⟩ = some (.int .i64 x.lo) := (hBW.2.2.2.1.cell (b * 2)).trans (by rw [List.getElem?_toArray, (rgC_get o b hb).1, hx])
    have g4 : W.cell? ⟨Bo, b * 2 + 1, none⟩ = some (.int .i64 x.hi) := (hBW.2.2.2.1.cell (b * 2 + 1)).trans (by rw [List.getElem?_toArray, (rgC_get o b hb).2, hx])
    have hbz : (b : Int) < (o.length : Int) := by omega
    have hb3 : (b : Int) < 3 := by omega
    have hB0 := hBW.2.2.2.2
    clear hQ hBW hx hn
    match i, hN', hiB, hdep with
    | 0, _, _, hdep =>
      refine OpOk.val (v := .slice (some ⟨Bo, 0, none⟩) o.length o.length) (w' := W) ?_ ⟨Below.refl _ _, rfl⟩
      show (execOp a.eval { dst := some 31, op := Op.load 37 (.tmp 4), type := _, pos := _, after := _, guard := none }).run Try.prog W = _
      simp only [execOp, List.map_toArray, List.map_cons, List.map_nil, e0, f4]
      go_simp
    | 1, _, _, hdep =>
      refine OpOk.val (v := .int .i64 (b : Int)) (w' := W) ?_ ⟨Below.refl _ _, rfl⟩
      show (execOp a.eval { dst := some 32, op := Op.move (.tmp 9), type := _, pos := _, after := _, guard := none }).run Try.prog W = _
      simp only [execOp, List.map_toArray, List.map_cons, List.map_nil, e0, f9]
      go_simp
    | 2, _, _, hdep =>
      refine OpOk.val (v := .slice (some ⟨Bo, 0, none⟩) o.length o.length) (w' := W) ?_ ⟨Below.refl _ _, rfl⟩
      show (execOp a.eval { dst := some 33, op := Op.load 37 (.tmp 4), type := _, pos := _, after := _, guard := none }).run Try.prog W = _
      simp only [execOp, List.map_toArray, List.map_cons, List.map_nil, e0, f4]
      go_simp
    | 3, _, _, hdep =>
      refine OpOk.val (v := .int .i64 (b : Int)) (w' := W) ?_ ⟨Below.refl _ _, rfl⟩
      show (execOp a.eval { dst := some 34, op := Op.move (.tmp 9), type := _, pos := _, after := _, guard := none }).run Try.prog W = _
      simp only [execOp, List.map_toArray, List.map_cons, List.map_nil, e0, f9]
      go_simp
    | 4, _, _, hdep =>
      have d33 : a.tmps.getD 33 undef = .slice (some ⟨Bo, 0, none⟩) o.length o.length := hdep 2 rfl
      have d34 : a.tmps.getD 34 undef = .int .i64 (b : Int) := hdep 3 rfl
      refine OpOk.val (v := .pointer (some ⟨Bo, b * 2, none⟩)) (w' := W) ?_ ⟨Below.refl _ _, rfl⟩
      show (execOp a.eval { dst := some 35, op := Op.indexAddr 37 (.tmp 33) (.tmp 34), type := _, pos := _, after := _, guard := none }).run Try.prog W = _
      simp only [execOp, List.map_toArray, List.map_cons, List.map_nil, e0, d33, d34]
      go_simp
    | 5, _, _, hdep =>
      have d35 : a.tmps.getD 35 undef = .pointer (some ⟨Bo, b * 2, none⟩) := hdep 4 rfl
      refine OpOk.val (v := .agg #[.int .i64 x.lo, .int .i64 x.hi]) (w' := W) ?_ ⟨Below.refl _ _, rfl⟩
      show (execOp a.eval { dst := some 36, op := Op.load 47 (.tmp 35), type := _, pos := _, after := _, guard := none }).run Try.prog W = _
      simp only [execOp, List.map_toArray, List.map_cons, List.map_nil, e0, d35]
      go_simp
    | 6, _, _, hdep =>
      refine OpOk.val (v := .int .i64 (b : Int)) (w' := W) ?_ ⟨Below.refl _ _, rfl⟩
      show (execOp a.eval { dst := some 37, op := Op.move (.tmp 9), type := _, pos := _, after := _, guard := none }).run Try.prog W = _
      simp only [execOp, List.map_toArray, List.map_cons, List.map_nil, e0, f9]
      go_simp
    | 7, _, _, hdep =>
      have d37 : a.tmps.getD 37 undef = .int .i64 (b : Int) := hdep 6 rfl
      refine OpOk.val (v := .pointer (some ⟨B8, b, none⟩)) (w' := W) ?_ ⟨Below.refl _ _, rfl⟩
      show (execOp a.eval { dst := some 38, op := Op.indexAddr 101 (.tmp 8) (.tmp 37), type := _, pos := _, after := _, guard := none }).run Try.prog W = _
      simp only [execOp, List.map_toArray, List.map_cons, List.map_nil, e0, f8, d37]
      go_simp
    | 8, _, _, hdep =>
      have d38 : a.tmps.getD 38 undef = .pointer (some ⟨B8, b, none⟩) := hdep 7 rfl
      refine OpOk.val (v := .int .i64 n) (w' := W) ?_ ⟨Below.refl _ _, rfl⟩
      show (execOp a.eval { dst := some 39, op := Op.load 3 (.tmp 38), type := _, pos := _, after := _, guard := none }).run Try.prog W = _
      simp only [execOp, List.map_toArray, List.map_cons, List.map_nil, e0, d38]
      go_simp
    | 9, _, _, hdep =>
      refine OpOk.val (v := .int .i64 (k : Int)) (w' := W) ?_ ⟨Below.refl _ _, rfl⟩
      show (execOp a.eval { dst := some 40, op := Op.load 3 (.tmp 5), type := _, pos := _, after := _, guard := none }).run Try.prog W = _
      simp only [execOp, List.map_toArray, List.map_cons, List.map_nil, e0, f5]
      go_simp
    | 10, _, _, hdep =>
      have d40 : a.tmps.getD 40 undef = .int .i64 (k : Int) := hdep 9 rfl
      refine OpOk.val (v := .bool first) (w' := W) ?_ ⟨Below.refl _ _, rfl⟩
      show (execOp a.eval { dst := some 41, op := Op.binOp BinOp.eql 3 (.tmp 40) (.const (.int .i64 0)) 3, type := _, pos := _, after := _, guard := none }).run Try.prog W = _
      simp only [execOp, List.map_toArray, List.map_cons, List.map_nil, e0, d40]
      go_simp
      all_goals (first | rfl | assumption | exact Go.IntWalk.i64_left _ | exact congrArg Value.bool hfk)
    | 11, _, _, hdep =>
      have d36 : a.tmps.getD 36 undef = .agg #[.int .i64 x.lo, .int .i64 x.hi] := hdep 5 rfl
      have d39 : a.tmps.getD 39 undef = .int .i64 n := hdep 8 rfl
      have d41 : a.tmps.getD 41 undef = .bool first := hdep 10 rfl
      refine OpOk.call (f := 58) (args := #[.agg #[.int .i64 x.lo, .int .i64 x.hi], .int .i64 n, .bool first]) (w1 := W) ?_ ((with_any x n first W).mono ?_)
      · show (execOp a.eval { dst := some 42, op := Op.call { callee := .value (.func 58), args := #[(.tmp 36), (.tmp 39), (.tmp 41)], argTypes := #[47, 3, 4] }, type := _, pos := _, after := _, guard := none }).run Try.prog W = _
        have e58 : ∀ args w, (callFunc 58 args).run Try.prog w = .ok (.enter 58 args) w := enters_of Try.func58 (by kernel_rfl) rfl
        simp only [execOp, List.map_toArray, List.map_cons, List.map_nil, e0, d36, d39, d41]
        go_simp
      · rintro e w' ⟨rfl, hb⟩
        exact ⟨_, rfl, hb, rfl⟩
    | 12, _, _, hdep =>
      have d31 : a.tmps.getD 31 undef = .slice (some ⟨Bo, 0, none⟩) o.length o.length := hdep 0 rfl
      have d32 : a.tmps.getD 32 undef = .int .i64 (b : Int) := hdep 1 rfl
      refine OpOk.val (v := .pointer (some ⟨Bo, b * 2, none⟩)) (w' := W) ?_ ⟨Below.refl _ _, rfl⟩
      show (execOp a.eval { dst := some 43, op := Op.indexAddr 37 (.tmp 31) (.tmp 32), type := _, pos := _, after := _, guard := none }).run Try.prog W = _
      simp only [execOp, List.map_toArray, List.map_cons, List.map_nil, e0, d31, d32]
      go_simp
    | kk + 13, h, _, _ => exact absurd h (by omega)
  case hlast =>
    intro a W e1 e2 hfix hBW hall
    have d42 : a.tmps.getD 42 undef = .agg #[.int .i64 (withV x n first).lo, .int .i64 (withV x n first).hi] := hall 11 (by omega)
    have d43 : a.tmps.getD 43 undef = .pointer (some ⟨Bo, b * 2, none⟩) := hall 12 (by omega)
    have e0 : ∀ x, a.eval (.tmp x) = a.tmps.getD x undef := fun _ => rfl
    have g3 : W.cell? ⟨Bo, b * 2, none⟩ = some (.int .i64 x.lo) := (hBW.2.2.2.1.cell (b * 2)).trans (by rw [List.getElem?_toArray, (rgC_get o b hb).1, hx])
    have g4 : W.cell? ⟨Bo, b * 2 + 1, none⟩ = some (.int .i64 x.hi) := (hBW.2.2.2.1.cell (b * 2 + 1)).trans (by rw [List.getElem?_toArray, (rgC_get o b hb).2, hx])
    have z3 : W.frozen? ⟨Bo, b * 2, none⟩ = false := hBW.2.2.2.1.frozen _
    have z4 : W.frozen? ⟨Bo, b * 2 + 1, none⟩ = false := hBW.2.2.2.1.frozen _
    have hset : (((rgC o).toArray.setIfInBounds (b * 2) (.int .i64 (withV x n first).lo)).setIfInBounds (b * 2 + 1) (.int .i64 (withV x n first).hi)) = (rgC (o.set b (withV x n first))).toArray := by
      rw [List.setIfInBounds_toArray, List.setIfInBounds_toArray, rgC_set o b _ hb]
    have hbb : Blk ((W.setCell ⟨Bo, b * 2, none⟩ (.int .i64 (withV x n first).lo)).setCell ⟨Bo, b * 2 + 1, none⟩ (.int .i64 (withV x n first).hi)) Bo (rgC (o.set b (withV x n first))).toArray 47 := by
      rw [← hset]; exact (hBW.2.2.2.1.set _ _).set _ _
    have HBB := Aw.mk hbb
    have HQ := Aw.mk hQ
    have HBW := Aw.mk hBW
    clear hbb hset hQ hBW hx hn
    obtain ⟨y, hy⟩ : ∃ y, y = withV x n first := ⟨_, rfl⟩
    rw [← hy] at d42 HQ HBB
    clear hy
    refine OpOk.skip (w' := ((W.setCell ⟨Bo, b * 2, none⟩ (.int .i64 y.lo)).setCell ⟨Bo, b * 2 + 1, none⟩ (.int .i64 y.hi))) ?_ ?_
    · show (execOp a.eval { dst := none, op := Op.store 47 (.tmp 43) (.tmp 42), type := _, pos := _, after := _, guard := none }).run Try.prog W = _
      simp only [execOp, e0, d42, d43]
      go_simp
    · exact HQ.out _ _ e1 (e2.trans hsz) (fun s hs => hfix s (fun j hj => by omega)) (((Chg.below HBW.out.2.2.2.2 (fun k => k = Bo)).setCell (.inl rfl) _).setCell (.inl rfl) _) HBB.out
end Go.Proofs.Ytdagijgoegkphaa.Hand

namespace Go.Proofs.Ytdagijgoegkphaa.Hand
open Go.RowKit Go.Shelf
attribute [local go_sem] Oper.semAt_some
def rgStep (first : Bool) (o : List Rg) (r : Rt) : List Rg := o.mapIdx fun i x => withV x (r.get i) first
def accR (n : Nat) (l : List Rt) : List Rg := (l.foldl (fun (s : List Rg × Nat) r => (rgStep (s.2 == 0) s.1 r, s.2 + 1)) (List.replicate n ⟨0, 0⟩, 0)).1
theorem accR_len2 (n : Nat) : ∀ (l : List Rt), (l.foldl (fun (s : List Rg × Nat) r => (rgStep (s.2 == 0) s.1 r, s.2 + 1)) (List.replicate n ⟨0, 0⟩, 0)).2 = l.length := by
  have : ∀ (l : List Rt) (s : List Rg × Nat), (l.foldl (fun (s : List Rg × Nat) r => (rgStep (s.2 == 0) s.1 r, s.2 + 1)) s).2 = s.2 + l.length := by
    intro l
    induction l with
    | nil => intro s; rfl
    | cons r l ih => intro s; rw [List.foldl_cons, ih, List.length_cons]; simp only; omega
  intro l
  rw [this]; simp
theorem accR_snoc (n : Nat) (l : List Rt) (r : Rt) : accR n (l ++ [r]) = rgStep (l.length == 0) (accR n l) r := by
  unfold accR
  rw [List.foldl_append, List.foldl_cons, List.foldl_nil, accR_len2]
theorem accR_length (n : Nat) (l : List Rt) : (accR n l).length = n := by
  have key : ∀ (l : List Rt) (s : List Rg × Nat), (l.foldl (fun (s : List Rg × Nat) r => (rgStep (s.2 == 0) s.1 r, s.2 + 1)) s).1.length = s.1.length := by
    intro l
    induction l with
    | nil => intro s; rfl
    | cons r l ih => intro s; rw [List.foldl_cons, ih]; unfold rgStep; simp
  unfold accR
  rw [key]
  simp
def stepTo (first : Bool) (b : Nat) (o : List Rg) (r : Rt) : List Rg := o.mapIdx fun i x => if i < b then withV x (r.get i) first else x
theorem stepTo_zero (first : Bool) (o : List Rg) (r : Rt) : stepTo first 0 o r = o := by
  apply List.ext_getElem
  · simp [stepTo]
  · intro i h1 h2; simp [stepTo]
theorem stepTo_len (first : Bool) (o : List Rg) (r : Rt) : stepTo first o.length o r = rgStep first o r := by
  apply List.ext_getElem
  · simp [stepTo, rgStep]
  · intro i h1 h2
    simp only [stepTo, rgStep, List.getElem_mapIdx]
    rw [if_pos (by simpa [stepTo] using h1)]
theorem stepTo_succ (first : Bool) (b : Nat) (o : List Rg) (r : Rt) (h : b < o.length) : stepTo first (b + 1) o r = (stepTo first b o r).set b (withV o[b] (r.get b) first) := by
  apply List.ext_getElem
  · simp [stepTo]
  · intro i h1 h2
    simp only [stepTo, List.getElem_mapIdx, List.getElem_set]
    by_cases e : b = i
    · subst e; rw [if_pos (by omega), if_pos rfl]
    · rw [if_neg e]
      by_cases hl : i < b
      · rw [if_pos (by omega), if_pos hl]
      · rw [if_neg (by omega), if_neg hl]
theorem stepTo_length (first : Bool) (b : Nat) (o : List Rg) (r : Rt) : (stepTo first b o r).length = o.length := by simp [stepTo]
theorem stepTo_get (first : Bool) (b : Nat) (o : List Rg) (r : Rt) (h : b < o.length) (h' : b < (stepTo first b o r).length) : (stepTo first b o r)[b] = o[b] := by
  simp [stepTo]
theorem mk47 (n : Nat) (h1 : 1 ≤ n) (h3 : n ≤ 3) (W : World) : (Instr.makeSlice 37 (.int .i64 (n : Int)) (.int .i64 (n : Int))).run Try.prog W = .ok (.slice (some ⟨W.heap.size, 0, none⟩) n n) (W.alloc (.cells (rgC (List.replicate n ⟨0, 0⟩)).toArray 47)) := by
  obtain ⟨i0, hi, hzz⟩ := Option.map_eq_some_iff.1 (show (Try.prog.info? 47).map (fun i => (i.zero, i.size, i.bytes)) = some (some (.agg #[.int .i64 0, .int .i64 0]), 2, 16) by kernel_rfl)
  simp only [Prod.mk.injEq] at hzz
  have h := run_make (P := Try.prog) W 37 47 i0 (.agg #[.int .i64 0, .int .i64 0]) Try.underlying37 hi hzz.1 .i64 .i64 (n : Int) (n : Int) (by omega) (by omega) (by rw [hzz.2.2]; omega) (by omega)
  rw [hzz.2.1, Int.toNat_natCast] at h
  have e : madeCells (Value.agg #[.int .i64 0, .int .i64 0]).cells (n * 2) = (rgC (List.replicate n ⟨0, 0⟩)).toArray := by
    rcases (show n = 1 ∨ n = 2 ∨ n = 3 by omega) with rfl | rfl | rfl <;> kernel_rfl
  rw [e] at h
  exact h
def ratesV (ms : List Rg) (rs : List Rn) : List Rg × Int × Int := if possErr ms rs = 0 then (accR ms.length (good ms rs), (good ms rs).length, 0) else ([], 0, possErr ms rs)
def RgRow (w : World) (base : Nat) (v : Value) (o : List Rg) : Prop := (o = [] ∧ v = .slice none 0 0) ∨ (∃ b, v = .slice (some ⟨b, 0, none⟩) o.length o.length ∧ base ≤ b ∧ Blk w b (rgC o).toArray 47)
def RatesPost (ms : List Rg) (rs : List Rn) (w : World) (e : Ending) (w' : World) : Prop :=
  ∃ v, e = .returned (.tuple #[v, .int .i64 (ratesV ms rs).2.1, .int .i64 (ratesV ms rs).2.2]) ∧ RgRow w' w.heap.size v (ratesV ms rs).1 ∧ Below w.heap.size w w'
theorem results24 {tmps : Array Value} {W : World} {g h : Nat} {x y z : Value} (hp : tmps.getD 4 undef = .pointer (some ⟨g, 0, none⟩)) (hq : tmps.getD 5 undef = .pointer (some ⟨h, 0, none⟩)) (hz : tmps.getD 6 undef = z) (h1 : Blk W g #[x] 37) (h2 : Blk W h #[y] 3) :
    (results Try.f24 tmps).run Try.prog W = .ok (.tuple #[x, y, z]) W := by
  have c0 : W.cell? ⟨g, 0, none⟩ = some x := h1.cell 0
  have c1 : W.cell? ⟨h, 0, none⟩ = some y := h2.cell 0
  have e : Try.f24.results = #[.cell 4 37, .cell 5 3, .tmp 6] := rfl
  have hp' : tmps[4]?.getD undef = .pointer (some ⟨g, 0, none⟩) := by simpa using hp
  have hq' : tmps[5]?.getD undef = .pointer (some ⟨h, 0, none⟩) := by simpa using hq
  have hz' : tmps[6]?.getD undef = z := by simpa using hz
  unfold results
  simp only [e]
  go_simp
set_option maxHeartbeats 8000000 in
set_option maxRecDepth 10000 in
theorem Rates_any (A : Option Addr) (c : Nat) (ms : List Rg) (AR : Option Addr) (cR : Nat) (rs : List Rn) (w : World) (hz : Rg.At w A ms) (hr : RunsAt w AR rs) (hbig : ms.length ≤ 9223372036854775807) (hbig2 : rs.length ≤ 9223372036854775807) (hgl : enterErr ms rs = 0 → (good ms rs).length ≤ 9223372036854775807) :
    Calls Try.prog 24 #[.agg #[.slice A ms.length c], .slice AR rs.length cR] w (RatesPost ms rs w) := by
  obtain ⟨w1, hw1⟩ : ∃ w1, w1 = ((w.alloc (.cells #[.slice A ms.length c] 39)).alloc (.cells #[.slice none 0 0] 37)).alloc (.cells #[.int .i64 0] 3) := ⟨_, rfl⟩
  obtain ⟨B4, hB4⟩ : ∃ B4, B4 = w.heap.size + 1 := ⟨_, rfl⟩
  obtain ⟨B5, hB5⟩ : ∃ B5, B5 = w.heap.size + 1 + 1 := ⟨_, rfl⟩
  have hbel : Below w.heap.size w w1 := by rw [hw1]; exact (((Below.refl w.heap.size w).alloc (Nat.le_refl _) _).alloc (by simp) _).alloc (by simp; omega) _
  have h2 : Blk w1 w.heap.size #[.slice A ms.length c] 39 := by rw [hw1]; exact ((Blk.new w _ _).alloc _).alloc _
  have h4 : Blk w1 B4 #[.slice none 0 0] 37 := by
    have := Blk.new (w.alloc (.cells #[.slice A ms.length c] 39)) #[.slice none 0 0] 37
    rw [hw1, hB4]; exact (by simpa using this : Blk _ (w.heap.size + 1) _ _).alloc _
  have h5 : Blk w1 B5 #[.int .i64 0] 3 := by
    have := Blk.new ((w.alloc (.cells #[.slice A ms.length c] 39)).alloc (.cells #[.slice none 0 0] 37)) #[.int .i64 0] 3
    rw [hw1, hB5]; simpa using this
  have hsz1 : w1.heap.size = w.heap.size + 3 := by rw [hw1]; simp
  have hpo := possible_any A c ms AR cR rs w1 (hz.below hbel) (hr.below hbel) hbig hbig2
  have HB := Aw.mk hbel
  have H2 := Aw.mk h2
  have H4 := Aw.mk h4
  have H5 := Aw.mk h5
  have HSZ := Aw.mk hsz1
  have HB45 := Aw.mk (And.intro hB4 hB5)
  have HZ := Aw.mk hz
  have HR := Aw.mk hr
  have HZ1 := Aw.mk (hz.below hbel)
  have HR1 := Aw.mk (hr.below hbel)
  have HGL0 := Aw.mk hgl
  have HW := Aw.mk hw1
  have HPO := Aw.mk hpo
  rw [hw1] at HPO
  clear hz hr hbel h2 h4 h5 hpo hsz1 hgl
  refine (callsIn_wide (n := 0)).1 (callsIn_of_wp_marks Try.func24 rfl trivial ((wpIn_wide (n := 0)).2 ?_) rfl)
  simp only [Try.ntmps24, List.size_toArray, List.length_cons, List.length_nil, Nat.reduceAdd, Nat.reduceSub, Array.replicate_succ, Array.replicate_zero, List.push_toArray, List.append_toArray, List.nil_append, List.cons_append]
  clear hw1 hB4 hB5
  go_wp2_with fail
  rw [← HB45.out.2, ← HB45.out.1]
  refine HPO.out.mono ?_
  rw [← HW.out]
  rintro e w2 ⟨p, rfl, hb2, hp⟩
  have h22 := H2.out.below hb2 H2.out.lt
  have h42 := H4.out.below hb2 H4.out.lt
  have h52 := H5.out.below hb2 H5.out.lt
  have HBB2 := Aw.mk (HB.out.trans (hb2.mono HB.out.size))
  have HS2 := Aw.mk (show w.heap.size + 3 ≤ w2.heap.size by have := HSZ.out; have := hb2.size; omega)
  have d2 : w2.cell? ⟨w.heap.size, 0, none⟩ = some (.slice A ms.length c) := h22.cell 0
  have d4 : w2.cell? ⟨B4, 0, none⟩ = some (.slice none 0 0) := h42.cell 0
  have d5 : w2.cell? ⟨B5, 0, none⟩ = some (.int .i64 0) := h52.cell 0
  have z4 : w2.frozen? ⟨B4, 0, none⟩ = false := h42.frozen 0
  have z5 : w2.frozen? ⟨B5, 0, none⟩ = false := h52.frozen 0
  have l4 := h42.lt
  have l5 := h52.lt
  have n45 : B4 ≠ B5 := by have := HB45.out; omega
  have n54 : B5 ≠ B4 := by have := HB45.out; omega
  have H42 := Aw.mk h42
  have H52 := Aw.mk h52
  have HPV := Aw.mk (show ratesV ms rs = if possErr ms rs = 0 then (accR ms.length (good ms rs), ((good ms rs).length : Int), 0) else ([], 0, possErr ms rs) from rfl)
  rcases hp with ⟨rfl, hne⟩ | ⟨x, m, rfl, h0, hx, hm, hroom, hkn⟩
  · have hne' : (possErr ms rs != 0) = true := by simp [hne]
    have HV := Aw.mk (show ratesV ms rs = ([], 0, possErr ms rs) by rw [HPV.out, if_neg hne])
    clear HPV
    generalize possErr ms rs = er at *
    clear hne hb2 HPO h42 h52 h22
    go_wp2_with fail
    have hb4 := ((H42.out.set 0 (.slice none 0 0)).other (a := ⟨B5, 0, none⟩) n45 (.int .i64 0))
    have hb5 := ((H52.out.other (a := ⟨B4, 0, none⟩) n54 (.slice none 0 0)).set 0 (.int .i64 0))
    refine postM_ret0 rfl (results24 rfl rfl rfl hb4 hb5) ⟨.slice none 0 0, by rw [HV.out]; rfl, by rw [HV.out]; exact .inl ⟨rfl, rfl⟩, ?_⟩
    have hlt := HB45.out
    exact (((Chg.below HBB2.out (fun k => k = B4 ∨ k = B5)).setCell (p := ⟨B4, 0, none⟩) (.inl (.inl rfl)) _).setCell (p := ⟨B5, 0, none⟩) (.inl (.inr rfl)) _).toBelow (Nat.le_refl _) (fun k e => by omega)
  · rw [h0]
    have h00 : enterErr ms rs = 0 := by
      unfold possErr at h0
      split at h0
      · assumption
      · exact h0
    have hI : Inp A c ms AR cR rs w := enter_inp h00 HZ.out HR.out
    have HGL := Aw.mk (HGL0.out h00)
    have hri : RoomI w A c ms AR cR rs x m w2 := ⟨⟨HBB2.out.size, fun k hk _ => HBB2.out.block k hk⟩, hroom.blk⟩
    have HV := Aw.mk (show ratesV ms rs = (accR ms.length (good ms rs), ((good ms rs).length : Int), 0) by rw [HPV.out, if_pos h0])
    have hn3 := hI.len
    have HXM := Aw.mk (show w1.heap.size ≤ x ∧ w1.heap.size ≤ m from ⟨hx, hm⟩)
    have HRI := Aw.mk hri
    have HKN := Aw.mk hkn
    have HI := Aw.mk hI
    clear hroom hkn hx hm h0 h00 hb2 HPO h42 h52 h22 HPV hI hri
    have hmk := mk47 ms.length hn3.1 hn3.2 w2
    go_wp2_with fail
    clear hmk
    refine (every_any _ _).mono ?_
    rintro e w3 ⟨rfl, rfl⟩
    obtain ⟨n, hn⟩ : ∃ n, n = ms.length := ⟨_, rfl⟩
    rw [← hn]
    rw [← hn] at hn3
    obtain ⟨Bo, hBo⟩ : ∃ Bo, Bo = w2.heap.size := ⟨_, rfl⟩
    obtain ⟨wd, hwd⟩ : ∃ wd, wd = ((w2.setCell ⟨B4, 0, none⟩ (.slice (some ⟨w2.heap.size, 0, none⟩) n n)).alloc (.cells (rgC (List.replicate n ⟨0, 0⟩)).toArray 47)).alloc (.cells #[.pointer (some ⟨x, 0, none⟩)] 97) := ⟨_, rfl⟩
    rw [← hwd]
    rw [show ((w2.setCell ⟨B4, 0, none⟩ (.slice (some ⟨w2.heap.size, 0, none⟩) n n)).alloc (.cells (rgC (List.replicate n ⟨0, 0⟩)).toArray 47)).heap.size = Bo + 1 by rw [hBo]; simp [World.setCell], ← hBo]
    have hcd : Chg (fun k => k = B4) w2 wd := by rw [hwd]; exact (((Chg.refl (fun k => k = B4) w2).setCell (.inl rfl) _).alloc _).alloc _
    have h4d : Blk wd B4 #[.slice (some ⟨Bo, 0, none⟩) n n] 37 := by rw [hwd, hBo]; exact ((H42.out.set 0 _).alloc _).alloc _
    have h5d : Blk wd B5 #[.int .i64 0] 3 := H52.out.chg hcd n54
    have hod : Blk wd Bo (rgC (List.replicate n ⟨0, 0⟩)).toArray 47 := by
      have := Blk.new (w2.setCell ⟨B4, 0, none⟩ (.slice (some ⟨w2.heap.size, 0, none⟩) n n)) (rgC (List.replicate n ⟨0, 0⟩)).toArray 47
      rw [show (w2.setCell ⟨B4, 0, none⟩ (.slice (some ⟨w2.heap.size, 0, none⟩) n n)).heap.size = w2.heap.size by simp [World.setCell]] at this
      rw [hwd, hBo]; exact this.alloc _
    have h1d : Blk wd (Bo + 1) #[.pointer (some ⟨x, 0, none⟩)] 97 := by
      have := Blk.new ((w2.setCell ⟨B4, 0, none⟩ (.slice (some ⟨w2.heap.size, 0, none⟩) n n)).alloc (.cells (rgC (List.replicate n ⟨0, 0⟩)).toArray 47)) #[.pointer (some ⟨x, 0, none⟩)] 97
      rw [hwd, hBo]; simpa [World.setCell] using this
    have hszd : wd.heap.size = Bo + 2 := by rw [hwd, hBo]; simp [World.setCell]
    have hxl := HRI.out.blk.lt
    have hml := HKN.out.lt
    have hlt : w.heap.size < B4 ∧ B4 < B5 ∧ B5 < w.heap.size + 3 := by have := HB45.out; omega
    have hxm := HXM.out
    have hs1 : w.heap.size + 3 ≤ w1.heap.size := by have := HSZ.out; omega
    have hs2 := HS2.out
    have hrd := HRI.out.chg hcd (fun k e => by omega) (by omega)
    have hkd := HKN.out.chg hcd (by omega)
    have HCD := Aw.mk hcd
    have HRD := Aw.mk hrd
    have HKD := Aw.mk hkd
    have H1D := Aw.mk h1d
    have HN := Aw.mk hn
    have h6l : w.heap.size + 3 ≤ Bo ∧ x < Bo ∧ m < Bo ∧ w.heap.size + 3 ≤ x ∧ w.heap.size + 3 ≤ m ∧ Bo + 2 ≤ wd.heap.size ∧ x ≠ m := by
      refine ⟨by omega, by omega, by omega, by omega, by omega, by omega, ?_⟩
      obtain ⟨es, clock, q1, _⟩ := HKN.out
      exact not_map q1 HRI.out.blk
    clear hwd hBo d2 d4 d5 z4 z5 l4 l5 hszd hcd hn
    dsimp only [Exit.inBlock, Exit.then]
    go_wp2_with fail
    refine wpIn_wide.1 (every_range HI.out (by omega) (by omega) hrd hkd h1d rfl rfl (fun k => k = B5 ∨ k = Bo) (fun k => k = B4 ∨ k = B5 ∨ k = Bo)
      (fun pre W => Blk W B4 #[.slice (some ⟨Bo, 0, none⟩) n n] 37 ∧ Blk W B5 #[.int .i64 (pre.length : Int)] 3 ∧ Blk W Bo (rgC (accR n pre)).toArray 47)
      (fun cd W => False)
      (fun k hk => by rcases hk with rfl | rfl | rfl <;> omega)
      (fun pre => (Blk.local (.inl rfl)).and ((Blk.local (.inr (.inl rfl))).and (Blk.local (.inr (.inr rfl)))))
      (fun cd => Local.const _)
      ⟨h4d, h5d, hod⟩
      (fun _ r a' W b => (a'.defers = [] ∧ a'.tmps.size = 49 ∧ a'.tmps.getD 4 undef = .pointer (some ⟨B4, 0, none⟩) ∧ a'.tmps.getD 5 undef = .pointer (some ⟨B5, 0, none⟩) ∧ a'.tmps.getD 8 undef = .pointer (some ⟨b, 0, none⟩)) ∧ Blk W b r.cells 101)
      (fun _ _ _ b => (Local.const _).and (Blk.local (.inr rfl))) ?hassign ?hbody ?hdone ?hstop)
    case hassign =>
      intro l X pre r W hj hg hok hX
      simp only [List.zip_toArray, List.zip_cons_cons, List.zip_nil_left, List.zip_nil_right, List.foldl_toArray, List.foldl_cons, List.foldl_nil, List.setIfInBounds_toArray, List.set_cons_succ, List.set_cons_zero]
      clear hj hX
      unfold Rt.enc Rt.cells
      gi_wp2
      exact ⟨(Chg.refl _ _).alloc _, W.heap.size, .inl ⟨Nat.le_refl _, by simp⟩, ⟨trivial, rfl, rfl, rfl, rfl⟩, Blk.new W _ _⟩
    case hbody =>
      intro l X pre r a' W b hj hFa hb1 hb2 hbX hg hok hX
      obtain ⟨⟨hdf, hsz, hp4, hp5, hp8⟩, hb8⟩ := hFa
      have p4 : slot a' 4 = .pointer (some ⟨B4, 0, none⟩) := hp4
      have p5 : slot a' 5 = .pointer (some ⟨B5, 0, none⟩) := hp5
      have p8 : slot a' 8 = .pointer (some ⟨b, 0, none⟩) := hp8
      obtain ⟨k4, k5, k6⟩ := hj.p
      have e4 : W.cell? ⟨B4, 0, none⟩ = some (.slice (some ⟨Bo, 0, none⟩) n n) := k4.cell 0
      rw [frame_lit' a' 49 hsz, hdf]
      simp only [List.range, List.range.loop, List.map_cons, List.map_nil, p4, p5, p8]
      have HJ := Aw.mk hj
      have K4 := Aw.mk k4
      have K5 := Aw.mk k5
      have K6 := Aw.mk k6
      have HB8 := Aw.mk hb8
      have HG := Aw.mk hg
      have HBL := Aw.mk (show b ≠ B5 ∧ b ≠ Bo ∧ B4 ≠ Bo ∧ B5 ≠ Bo by rcases hb1 with h | rfl <;> omega)
      clear hj hdf hsz hp4 hp5 hp8 p4 p5 p8 k4 k5 k6 hX hbX hb1 hb8 hg
      generalize a' = a''
      obtain ⟨o, ho⟩ : ∃ o, o = accR n pre := ⟨_, rfl⟩
      have hol : o.length = n := by rw [ho]; exact accR_length n pre
      have HST := Aw.mk (show Chg (fun k => k = Bo) W W ∧ Blk W Bo (rgC (stepTo (pre.length == 0) 0 o r)).toArray 47 from ⟨Chg.refl _ _, by rw [stepTo_zero, ho]; exact K6.out⟩)
      have HO := Aw.mk ho
      have HOL := Aw.mk hol
      have hn1 : (n : Int) ≤ 3 := by omega
      clear ho hol
      gi_wp2_with fail
      gi_loopg [28] n (fun gg s28 wr => ∃ kk : Nat, kk ≤ n ∧ n - kk ≤ gg ∧ s28 = .int .i64 kk ∧ Aw (Chg (fun k => k = Bo) W wr ∧ Blk wr Bo (rgC (stepTo (pre.length == 0) kk o r)).toArray 47))
      case atStart => exact ⟨0, Nat.zero_le _, by omega, rfl, HST⟩
      case round =>
        obtain ⟨kk, hkk, hgg, rfl, HJR⟩ := hrel
        by_cases hlt : kk < n
        · have hltz : (kk : Int) < (n : Int) := by omega
          have wq : IntKind.i64.wrap ((kk : Int) + 1) = (kk : Int) + 1 := IntWalk.i64_in _ (by omega)
          gi_wp2_with fail
          have hol := HOL.out
          have hbl := HBL.out
          have hfk : (((pre.length : Nat) : Int) == 0) = (pre.length == 0) := by
            rw [Bool.eq_iff_iff]; simp
          have hs4 : Blk wr B4 #[.slice (some ⟨Bo, 0, none⟩) (stepTo (pre.length == 0) kk o r).length (stepTo (pre.length == 0) kk o r).length] 37 := by
            rw [stepTo_length, hol]; exact K4.out.chg HJR.out.1 hbl.2.2.1
          refine widen_region (some l) B4 B5 b Bo (stepTo (pre.length == 0) kk o r) kk (by rw [stepTo_length]; omega) (by rw [stepTo_length]; omega) (o[kk]'(by omega)) (stepTo_get _ _ _ _ (by omega) _) r (r.get kk) rfl (pre.length : Int) (pre.length == 0) hfk
            _ wr _ rfl rfl rfl rfl rfl hs4 (K5.out.chg HJR.out.1 hbl.2.2.2) (HB8.out.chg HJR.out.1 hbl.2.1) HJR.out.2 ?_
          intro a W2 hd hsz hfix hbW hbo
          have HJ4 : Aw (Chg (fun k => k = Bo) W W2 ∧ Blk W2 Bo (rgC (stepTo (pre.length == 0) (kk + 1) o r)).toArray 47) := ⟨HJR.out.1.trans (hbW.mono fun k _ e => .inl e), by
            rw [stepTo_succ _ _ _ _ (by omega)]; exact hbo⟩
          have hp : ∀ s, (s < 31 ∨ 43 < s) → slot a s = _ := hfix
          have p0 := hp 0 (by decide)
          have p1 := hp 1 (by decide)
          have p2 := hp 2 (by decide)
          have p3 := hp 3 (by decide)
          have p4 := hp 4 (by decide)
          have p5 := hp 5 (by decide)
          have p6 := hp 6 (by decide)
          have p7 := hp 7 (by decide)
          have p8 := hp 8 (by decide)
          have p9 := hp 9 (by decide)
          have p10 := hp 10 (by decide)
          have p11 := hp 11 (by decide)
          have p12 := hp 12 (by decide)
          have p13 := hp 13 (by decide)
          have p14 := hp 14 (by decide)
          have p15 := hp 15 (by decide)
          have p16 := hp 16 (by decide)
          have p17 := hp 17 (by decide)
          have p18 := hp 18 (by decide)
          have p19 := hp 19 (by decide)
          have p20 := hp 20 (by decide)
          have p21 := hp 21 (by decide)
          have p22 := hp 22 (by decide)
          have p23 := hp 23 (by decide)
          have p24 := hp 24 (by decide)
          have p25 := hp 25 (by decide)
          have p26 := hp 26 (by decide)
          have p27 := hp 27 (by decide)
          have p28 := hp 28 (by decide)
          have p29 := hp 29 (by decide)
          have p30 := hp 30 (by decide)
          have p44 := hp 44 (by decide)
          have p45 := hp 45 (by decide)
          have p46 := hp 46 (by decide)
          have p47 := hp 47 (by decide)
          have p48 := hp 48 (by decide)
          simp only [Array.getD_eq_getD_getElem?, List.getElem?_toArray, List.getElem?_cons_zero, List.getElem?_cons_succ, Option.getD_some] at p0 p1 p2 p3 p4 p5 p6 p7 p8 p9 p10 p11 p12 p13 p14 p15 p16 p17 p18 p19 p20 p21 p22 p23 p24 p25 p26 p27 p28 p29 p30 p44 p45 p46 p47 p48
          rw [frame_lit' a 49 hsz, hd]
          simp only [List.range, List.range.loop, List.map_cons, List.map_nil, p0, p1, p2, p3, p4, p5, p6, p7, p8, p9, p10, p11, p12, p13, p14, p15, p16, p17, p18, p19, p20, p21, p22, p23, p24, p25, p26, p27, p28, p29, p30, p44, p45, p46, p47, p48]
          clear p0 p1 p2 p3 p4 p5 p6 p7 p8 p9 p10 p11 p12 p13 p14 p15 p16 p17 p18 p19 p20 p21 p22 p23 p24 p25 p26 p27 p28 p29 p30 p44 p45 p46 p47 p48 hp hfix hd hsz hbW hbo hs4 hfk hbl hol
          generalize a = a'
          dsimp only [Exit.inBlock, Exit.then]
          gi_wp2_with fail
          gi_roundg (n - (kk + 1))
          case measure => omega
          case rel => exact ⟨kk + 1, by omega, by omega, by go_num, HJ4⟩
        · have hkl : kk = n := by omega
          subst hkl
          have hb5 := K5.out.chg HJR.out.1 HBL.out.2.2.2
          have e5 : wr.cell? ⟨B5, 0, none⟩ = some (.int .i64 (pre.length : Int)) := hb5.cell 0
          have y5 : wr.frozen? ⟨B5, 0, none⟩ = false := hb5.frozen 0
          have wq : IntKind.i64.wrap ((pre.length : Int) + 1) = (pre.length : Int) + 1 := IntWalk.i64_in _ (by have := HG.out.2; have := HGL.out; omega)
          have hrd' := HJ.out.round (R := fun k => k < w.heap.size ∨ k = x ∨ k = Bo + 1) (W' := wr.setCell ⟨B5, 0, none⟩ (.int .i64 ((pre.length : Int) + 1)))
            (P' := fun W => Blk W B4 #[.slice (some ⟨Bo, 0, none⟩) kk kk] 37 ∧ Blk W B5 #[.int .i64 ((pre ++ [r]).length : Int)] 3 ∧ Blk W Bo (rgC (accR kk (pre ++ [r]))).toArray 47) (fun k hk => by rcases hk with rfl | rfl <;> refine ⟨by omega, by omega, by omega⟩)
            ((HJR.out.1.mono (fun k _ e => .inr e)).setCell (.inl (.inl rfl)) _) (by
              have hch : Chg (fun k => k = B5) wr (wr.setCell ⟨B5, 0, none⟩ (.int .i64 ((pre.length : Int) + 1))) := (Chg.refl (fun k => k = B5) wr).setCell (.inl rfl) _
              refine ⟨(K4.out.chg HJR.out.1 HBL.out.2.2.1).chg hch n45, ?_, ?_⟩
              · rw [show ((pre ++ [r]).length : Int) = (pre.length : Int) + 1 by simp]; exact hb5.set 0 _
              · rw [accR_snoc, ← HO.out, ← stepTo_len, HOL.out]; exact HJR.out.2.chg hch (fun e => HBL.out.2.2.2 e.symm))
          have HP := Aw.mk (show rndPost X (fun k => k < w.heap.size ∨ k = x ∨ k = Bo + 1) (fun X pre W => JL wd m (fun k => k = B5 ∨ k = Bo) (fun W => Blk W B4 #[.slice (some ⟨Bo, 0, none⟩) kk kk] 37 ∧ Blk W B5 #[.int .i64 (pre.length : Int)] 3 ∧ Blk W Bo (rgC (accR kk pre)).toArray 47) X W)
            (fun c X _ W => (∃ r, r ∈ good ms rs) ∧ JL wd m (fun k => k = B5 ∨ k = Bo) (fun W => False) X W) (pre ++ [r]) W .normal a'' (wr.setCell ⟨B5, 0, none⟩ (.int .i64 ((pre.length : Int) + 1))) from hrd')
          clear hrd' hb5
          gi_wp2_with fail
          exact HP.out
    case hdone =>
      intro D W hD hj hk hDW
      obtain ⟨k4, k5, k6⟩ := hj.p
      have hch := hj.chg
      have HDW := Aw.mk hDW
      have K4 := Aw.mk k4
      have K5 := Aw.mk k5
      have K6 := Aw.mk k6
      have HCH := Aw.mk hch
      have HD := Aw.mk hD
      clear hj hk hDW k4 k5 k6 hch hD
      dsimp only [Exit.inBlock, Exit.then]
      go_wp2_with fail
      have e4 : W.cell? ⟨B4, 0, none⟩ = some (.slice (some ⟨Bo, 0, none⟩) n n) := K4.out.cell 0
      have y4 : W.frozen? ⟨B4, 0, none⟩ = false := K4.out.frozen 0
      have e5 : W.cell? ⟨B5, 0, none⟩ = some (.int .i64 ((good ms rs).length : Int)) := K5.out.cell 0
      have y5 : W.frozen? ⟨B5, 0, none⟩ = false := K5.out.frozen 0
      go_region
      all_goals
        obtain ⟨V, hVd⟩ : ∃ V, V = ((W.setCell ⟨B4, 0, none⟩ (.slice (some ⟨Bo, 0, none⟩) n n)).setCell ⟨B5, 0, none⟩ (.int .i64 ((good ms rs).length : Int))).drew := ⟨_, rfl⟩
        rw [← hVd]
        have hcV : Chg (fun k => k = B4 ∨ k = B5) W V := by rw [hVd]; exact (((Chg.refl (fun k => k = B4 ∨ k = B5) W).setCell (.inl (.inl rfl)) _).setCell (.inl (.inr rfl)) _).drew
        have hb4 : Blk V B4 #[.slice (some ⟨Bo, 0, none⟩) n n] 37 := by rw [hVd]; exact ((K4.out.set 0 _).other (a := ⟨B5, 0, none⟩) n45 _).drew
        have hb5 : Blk V B5 #[.int .i64 ((good ms rs).length : Int)] 3 := by rw [hVd]; exact ((K5.out.other (a := ⟨B4, 0, none⟩) n54 _).set 0 _).drew
        have HB4 := Aw.mk hb4
        have HB5 := Aw.mk hb5
        have HCV := Aw.mk hcV
        clear hVd hcV hb4 hb5
        dsimp only [Exit.then]
        go_wp2_with fail
        have hDd := HD.out
        have hDV : V.heap[D]? = some (.deferred (some [])) := (HCV.out.block D (Array.getElem?_eq_some_iff.1 HDW.out).1 (by omega)).trans HDW.out
        have hbl : Bo ≠ B4 ∧ Bo ≠ B5 := by omega
        refine postM_ret rfl hDV (results24 rfl rfl rfl (HB4.out.putOther hDV _) (HB5.out.putOther hDV _)) ⟨_, by rw [HV.out]; rfl, ?_, ?_⟩
        · rw [HV.out]
          refine .inr ⟨Bo, by rw [accR_length, HN.out], by omega, ?_⟩
          rw [← HN.out]
          exact (K6.out.chg HCV.out (by omega)).putOther hDV _
        · have h1 : Chg (fun k => k = B4 ∨ k = B5 ∨ k = Bo ∨ k = m) w W := (Chg.below HBB2.out _).trans ((HCD.out.mono fun k _ e => .inl (.inl e)).trans (HCH.out.mono fun k _ e => .inl (.inl (by rcases e with (e | e) | e; exact .inr (.inl e); exact .inr (.inr (.inl e)); exact .inr (.inr (.inr e))))))
          have h2 := h1.trans (HCV.out.mono fun k _ e => .inl (by rcases e with e | e; exact .inl e; exact .inr (.inl e)))
          exact (h2.putObj (.inr (by omega)) _).toBelow (Nat.le_refl _) (fun k e => by omega)
    case hstop => exact fun D c W hD hr hj => hj.p.elim
end Go.Proofs.Ytdagijgoegkphaa.Hand

namespace Go.Proofs.Ytdagijgoegkphaa.Hand
open Go.RowKit Go.Shelf
def planErr (ms : List Rg) (rs : List Rn) (ps : List Sg) : Int := if possErr ms rs = 0 then (if ps.length ≤ 8 ∧ ps.all (segB ms.length) = true then 0 else 2) else possErr ms rs
def PlanPost (A : Option Addr) (c : Nat) (ms : List Rg) (AR : Option Addr) (cR : Nat) (rs : List Rn) (ps : List Sg) (w : World) (e : Ending) (w' : World) : Prop :=
  ∃ p, e = .returned (.tuple #[.pointer p, .int .i64 (planErr ms rs ps)]) ∧ Below w.heap.size w w' ∧ ((p = none ∧ planErr ms rs ps ≠ 0) ∨ ∃ x m, p = some ⟨x, 0, none⟩ ∧ planErr ms rs ps = 0 ∧ w.heap.size ≤ x ∧ w.heap.size ≤ m ∧ RoomI w A c ms AR cR rs x m w' ∧ Known rs m w')
theorem RoomI.older {w w1 : World} {A : Option Addr} {c : Nat} {ms : List Rg} {AR : Option Addr} {cR : Nat} {rs : List Rn} {x m : Nat} {W : World} (h : RoomI w1 A c ms AR cR rs x m W) (hb : Below w.heap.size w w1) : RoomI w A c ms AR cR rs x m W :=
  ⟨⟨Nat.le_trans hb.size h.old.1, fun k hk hl => (h.old.2 k (Nat.lt_of_lt_of_le hk hb.size) (Nat.lt_of_lt_of_le hk hb.size)).trans (hb.block k hk)⟩, h.blk⟩
set_option maxHeartbeats 4000000 in
set_option maxRecDepth 10000 in
theorem planned_any (A : Option Addr) (c : Nat) (ms : List Rg) (AR : Option Addr) (cR : Nat) (rs : List Rn) (A2 : Option Addr) (c2 : Nat) (ps : List Sg) (w : World) (hz : Rg.At w A ms) (hr : RunsAt w AR rs) (hp : Sg.At w A2 ps) (hbig : ms.length ≤ 9223372036854775807) (hbig2 : rs.length ≤ 9223372036854775807) (hbig3 : ps.length ≤ 9223372036854775807) :
    Calls Try.prog 59 #[.agg #[.slice A ms.length c], .slice AR rs.length cR, .slice A2 ps.length c2] w (PlanPost A c ms AR cR rs ps w) := by
  obtain ⟨w1, hw1⟩ : ∃ w1, w1 = w.alloc (.cells #[.slice A ms.length c] 39) := ⟨_, rfl⟩
  have hbel : Below w.heap.size w w1 := by rw [hw1]; exact (Below.refl w.heap.size w).alloc (Nat.le_refl _) _
  have h2 : Blk w1 w.heap.size #[.slice A ms.length c] 39 := by rw [hw1]; exact Blk.new w _ _
  have hpo := possible_any A c ms AR cR rs w1 (hz.below hbel) (hr.below hbel) hbig hbig2
  have HB := Aw.mk hbel
  have H2 := Aw.mk h2
  have HP := Aw.mk (hp.below hbel)
  have HW := Aw.mk hw1
  have HPO := Aw.mk hpo
  have e83 : ∀ args w, (callFunc 83 args).run Try.prog w = .ok (.enter 83 args) w := enters_of Try.func83 (by kernel_rfl) rfl
  have HAL := Aw.mk (fun W (h : Sg.At W A2 ps) => Sg.all_any (segB ms.length) (fun _ => True) 83 #[.agg #[.slice A ms.length c]] #[] e83 A2 c2 ps W (segP A ms.length c hbig W) (fun _ _ => trivial) h hbig3)
  have HPV : Aw (planErr ms rs ps = if possErr ms rs = 0 then (if ps.length ≤ 8 ∧ ps.all (segB ms.length) = true then 0 else 2) else possErr ms rs) := ⟨rfl⟩
  rw [hw1] at HPO
  clear hz hr hp hbel h2 hpo hw1 e83
  go_enter Try.func59, Try.ntmps59
  go_wp2_with fail
  refine HPO.out.mono ?_
  rw [← HW.out]
  rintro e w2 ⟨p, rfl, hb2, hp⟩
  have HBB2 := Aw.mk (HB.out.trans (hb2.mono HB.out.size))
  rcases hp with ⟨rfl, hne⟩ | ⟨x, m, rfl, h0, hx, hm, hroom, hkn⟩
  · have hne' : (possErr ms rs != 0) = true := by simp [hne]
    have HV := Aw.mk (show planErr ms rs ps = possErr ms rs by rw [HPV.out, if_neg hne])
    have HN := Aw.mk hne
    clear HPV
    generalize possErr ms rs = er at *
    clear hne hb2 HPO
    go_wp2_with fail
    refine bodyPost_ret (results_tmp2 rfl _ _ _) rfl ⟨none, by rw [HV.out]; rfl, HBB2.out, .inl ⟨rfl, by rw [HV.out]; exact HN.out⟩⟩
  · rw [h0]
    have HE := Aw.mk (show planErr ms rs ps = if ps.length ≤ 8 ∧ ps.all (segB ms.length) = true then 0 else 2 by rw [HPV.out, if_pos h0])
    have HRI := Aw.mk (hroom.older HB.out)
    have HKN := Aw.mk hkn
    have HXM := Aw.mk (show w.heap.size ≤ x ∧ w.heap.size ≤ m from ⟨Nat.le_trans HB.out.size hx, Nat.le_trans HB.out.size hm⟩)
    have c1 : w2.cell? ⟨w.heap.size, 0, none⟩ = some (.slice A ms.length c) := (H2.out.below hb2 H2.out.lt).cell 0
    have l1 := (H2.out.below hb2 H2.out.lt).lt
    have HP2 := Aw.mk (HP.out.below hb2)
    clear hroom hkn hx hm h0 hb2 HPO HPV
    by_cases h8 : ps.length ≤ 8
    · have d8 : decide ((8 : Int) < (ps.length : Int)) = false := decide_eq_false (by omega)
      cases hal : ps.all (segB ms.length) with
      | true =>
        have HV := Aw.mk (show planErr ms rs ps = 0 by rw [HE.out, if_pos ⟨h8, hal⟩])
        have HA := Aw.mk hal
        clear hal
        go_wp2_with fail
        refine (HAL.out w2 HP2.out).mono ?_
        rw [HA.out]
        rintro e w3 ⟨rfl, hb3⟩
        have HB3 := Aw.mk hb3
        clear hb3
        go_wp2_with fail
        have hc3 : Chg (fun _ => False) w2 w3 := Chg.below HB3.out _
        refine bodyPost_ret (results_tmp2 rfl _ _ _) rfl ⟨_, by rw [HV.out]; rfl, HBB2.out.trans (HB3.out.mono HBB2.out.size), .inr ⟨x, m, rfl, HV.out, HXM.out.1, HXM.out.2, HRI.out.chg hc3 (fun _ h => h.elim) (fun h => h), HKN.out.chg hc3 (fun h => h)⟩⟩
      | false =>
        have HV := Aw.mk (show planErr ms rs ps = 2 by rw [HE.out, if_neg (by rw [hal]; simp)])
        have HA := Aw.mk hal
        clear hal
        go_wp2_with fail
        refine (HAL.out w2 HP2.out).mono ?_
        rw [HA.out]
        rintro e w3 ⟨rfl, hb3⟩
        have HB3 := Aw.mk hb3
        clear hb3
        go_wp2_with fail
        refine bodyPost_ret (results_tmp2 rfl _ _ _) rfl ⟨none, by rw [HV.out]; rfl, HBB2.out.trans (HB3.out.mono HBB2.out.size), .inl ⟨rfl, by rw [HV.out]; decide⟩⟩
    · have d8 : decide ((8 : Int) < (ps.length : Int)) = true := decide_eq_true (by omega)
      have HV := Aw.mk (show planErr ms rs ps = 2 by rw [HE.out, if_neg (fun h => h8 h.1)])
      clear h8
      go_wp2_with fail
      refine bodyPost_ret (results_tmp2 rfl _ _ _) rfl ⟨none, by rw [HV.out]; rfl, HBB2.out, .inl ⟨rfl, by rw [HV.out]; decide⟩⟩
end Go.Proofs.Ytdagijgoegkphaa.Hand

namespace Go.Proofs.Ytdagijgoegkphaa.Hand
open Go.RowKit Go.Shelf
theorem wanted_ofF {ops : Array Oper} {o : Oper} {j d : Nat} {g : Bool} {a : Act} (hg : o.guard = some (j, false)) (hd : (ops[j]?).bind (·.dst) = some d) (hv : a.tmps.getD d undef = .bool g) :
    Region.wanted o (yielded ops a.tmps) = !g := by
  unfold Region.wanted yielded
  rw [hg]
  simp only
  rw [hd]
  have hv' : a.tmps[d]? = some (.bool g) := by
    rw [Array.getD_eq_getD_getElem?] at hv
    cases h : a.tmps[d]? with
    | none => rw [h] at hv; simp [undef] at hv
    | some v => rw [h] at hv; simp at hv; rw [hv]
  simp only [Option.bind_some, hv']
  cases g <;> rfl
theorem field470 (x y : Int) (W : World) : (Instr.field 47 (.agg #[.int .i64 x, .int .i64 y]) 0).run Try.prog W = .ok (.int .i64 x) W := by
  have p0 := part3 #[.int .i64 x, .int .i64 y] 0 (.int .i64 x) rfl
  unfold Instr.field
  simp only [Sem.run_bind, run_underlying Try.underlying47 W, Result.andThen_ok]
  exact p0 W
theorem field471 (x y : Int) (W : World) : (Instr.field 47 (.agg #[.int .i64 x, .int .i64 y]) 1).run Try.prog W = .ok (.int .i64 y) W := by
  have p0 := part3 #[.int .i64 x, .int .i64 y] 1 (.int .i64 y) rfl
  unfold Instr.field
  simp only [Sem.run_bind, run_underlying Try.underlying47 W, Result.andThen_ok]
  exact p0 W
attribute [local go_sem] field470 field471
set_option maxHeartbeats 8000000 in
set_option maxRecDepth 10000 in
theorem less_region (rd : Option Nat) (B3 B4 B6 B8 : Nat) (first : Bool) (lo hi : Int) (A2 : Option Addr) (c2 : Nat) (ps : List Sg) (r : Rt) (L H : Int) (a0 : Act) (w0 : World) (Q : Exit → Act → World → Prop) (hsz : a0.tmps.size = 43)
    (hst : ∀ W, Sg.At W A2 ps → Calls Try.prog 61 #[.slice A2 ps.length c2, .agg #[.int .i64 r.r0, .int .i64 r.r1, .int .i64 r.r2]] W fun e w' => e = .returned (.agg #[.int .i64 L, .int .i64 H]) ∧ Below W.heap.size W w')
    (f3 : a0.tmps.getD 3 undef = .pointer (some ⟨B3, 0, none⟩)) (f4 : a0.tmps.getD 4 undef = .pointer (some ⟨B4, 0, none⟩)) (f6 : a0.tmps.getD 6 undef = .pointer (some ⟨B6, 0, none⟩)) (f8 : a0.tmps.getD 8 undef = .pointer (some ⟨B8, 0, none⟩))
    (hz : Sg.At w0 A2 ps) (h3 : Blk w0 B3 #[.slice A2 ps.length c2] 50) (h4 : Blk w0 B4 r.cells 101) (h6 : Blk w0 B6 #[.bool first] 4) (h8 : Blk w0 B8 #[.int .i64 lo, .int .i64 hi] 47)
    (hQ : ∀ (a : Act) (W : World), a.defers = a0.defers → a.tmps.size = 43 → a.tmps.getD 25 undef = .bool (first || decide (lo < L)) → (∀ s, (s < 16 ∨ 25 < s) → a.tmps.getD s undef = a0.tmps.getD s undef) → Below w0.heap.size w0 W → Q .normal a W) :
    (Code.region 5 (opsOf Try.f60 5) true).wpIn { Fence.wide with round := rd } 0 Try.prog Q a0 w0 := by
  have HZ := Aw.mk hz
  refine region_walk2 (rd := rd) 9 (fun i => i + 16) (by kernel_rfl) (by kernel_rfl) (by rw [hsz]; kernel_rfl)
    (fun _ _ W => Blk W B3 #[.slice A2 ps.length c2] 50 ∧ Blk W B4 r.cells 101 ∧ Blk W B6 #[.bool first] 4 ∧ Blk W B8 #[.int .i64 lo, .int .i64 hi] 47 ∧ Below w0.heap.size w0 W)
    (fun _ W W' => Below W.heap.size W W')
    (fun _ i v W => match i with
      | 0 => v = .bool first
      | 1 => v = .bool first
      | 2 => (first = false → v = .pointer (some ⟨B8, 0, none⟩))
      | 3 => (first = false → v = .int .i64 lo)
      | 4 => (first = false → v = .slice A2 ps.length c2)
      | 5 => (first = false → v = .agg #[.int .i64 r.r0, .int .i64 r.r1, .int .i64 r.r2])
      | 6 => (first = false → v = .agg #[.int .i64 L, .int .i64 H])
      | 7 => (first = false → v = .int .i64 L)
      | _ => (first = false → v = .bool (decide (lo < L))))
    ?hSp ?hL (fun _ _ _ _ _ _ _ h => h) ⟨h3.drew, h4.drew, h6.drew, h8.drew, (Below.refl _ _).drew⟩ ?hop ?hlast
  case hSp =>
    intro L j i v W W' _ hi _ _ _ _ hb h
    match i, h with
    | 0, h | 1, h | 2, h | 3, h | 4, h | 5, h | 6, h | 7, h => exact h
    | _ + 8, h => exact h
  case hL =>
    intro L L' j v W _ h
    exact h
  case hop =>
    intro Ls i a W hiB hN _ hfix hBW hnl _ _ hdep
    have f3 : a.tmps.getD 3 undef = .pointer (some ⟨B3, 0, none⟩) := (hfix 3 (fun j _ => by omega)).trans f3
    have f4 : a.tmps.getD 4 undef = .pointer (some ⟨B4, 0, none⟩) := (hfix 4 (fun j _ => by omega)).trans f4
    have f6 : a.tmps.getD 6 undef = .pointer (some ⟨B6, 0, none⟩) := (hfix 6 (fun j _ => by omega)).trans f6
    have f8 : a.tmps.getD 8 undef = .pointer (some ⟨B8, 0, none⟩) := (hfix 8 (fun j _ => by omega)).trans f8
    have e0 : ∀ x, a.eval (.tmp x) = a.tmps.getD x undef := fun _ => rfl
    have g3 : W.cell? ⟨B3, 0, none⟩ = some (.slice A2 ps.length c2) := hBW.1.cell 0
    have g40 : W.cell? ⟨B4, 0, none⟩ = some (.int .i64 r.r0) := hBW.2.1.cell 0
    have g41 : W.cell? ⟨B4, 1, none⟩ = some (.int .i64 r.r1) := hBW.2.1.cell 1
    have g42 : W.cell? ⟨B4, 2, none⟩ = some (.int .i64 r.r2) := hBW.2.1.cell 2
    have g6 : W.cell? ⟨B6, 0, none⟩ = some (.bool first) := hBW.2.2.1.cell 0
    have g80 : W.cell? ⟨B8, 0, none⟩ = some (.int .i64 lo) := hBW.2.2.2.1.cell 0
    have g81 : W.cell? ⟨B8, 1, none⟩ = some (.int .i64 hi) := hBW.2.2.2.1.cell 1
    have hBs : ∀ {W' : World}, Below W.heap.size W W' → (Blk W' B3 #[.slice A2 ps.length c2] 50 ∧ Blk W' B4 r.cells 101 ∧ Blk W' B6 #[.bool first] 4 ∧ Blk W' B8 #[.int .i64 lo, .int .i64 hi] 47 ∧ Below w0.heap.size w0 W') := fun hb => ⟨hBW.1.below hb hBW.1.lt, hBW.2.1.below hb hBW.2.1.lt, hBW.2.2.1.below hb hBW.2.2.1.lt, hBW.2.2.2.1.below hb hBW.2.2.2.1.lt, hBW.2.2.2.2.trans (hb.mono hBW.2.2.2.2.size)⟩
    clear hQ
    match i, hN, hiB, hdep with
    | 0, _, _, hdep =>
      refine ⟨fun _ => ?_, fun h => absurd (show true = false from h) (by decide)⟩
      refine OpOk.val (v := .bool first) (w' := W) ?_ ⟨Below.refl _ _, rfl, hBW⟩
      show (execOp a.eval { dst := some 16, op := Op.load 4 (.tmp 6), type := _, pos := _, after := _, guard := none }).run Try.prog W = _
      simp only [execOp, List.map_toArray, List.map_cons, List.map_nil, e0, f6]
      go_simp
    | 1, _, _, hdep =>
      refine ⟨fun _ => ?_, fun h => absurd (show true = false from h) (by decide)⟩
      have d16 : a.tmps.getD 16 undef = .bool first := hdep 0 rfl
      refine OpOk.val (v := .bool first) (w' := W) ?_ ⟨Below.refl _ _, rfl, hBW⟩
      show (execOp a.eval { dst := some 17, op := Op.move (.tmp 16), type := _, pos := _, after := _, guard := none }).run Try.prog W = _
      simp only [execOp, List.map_toArray, List.map_cons, List.map_nil, e0, d16]
      go_simp
    | 2, _, _, hdep =>
      have hvg : a.tmps.getD 17 undef = .bool first := hdep 1 rfl
      refine ⟨fun hw => ?_, fun hw => ⟨Below.refl _ _, fun hg => absurd ((wanted_ofF (j := 1) (d := 17) rfl rfl hvg).symm.trans hw) (by rw [hg]; decide), hBW⟩⟩
      have hg : first = false := by have := (wanted_ofF (j := 1) (d := 17) rfl rfl hvg).symm.trans hw; simpa using this
      refine OpOk.val (v := .pointer (some ⟨B8, 0, none⟩)) (w' := W) ?_ ⟨Below.refl _ _, fun _ => rfl, hBW⟩
      show (execOp a.eval { dst := some 18, op := Op.fieldAddr 47 (.tmp 8) 0, type := _, pos := _, after := _, guard := some (1, false) }).run Try.prog W = _
      simp only [execOp, List.map_toArray, List.map_cons, List.map_nil, e0, f8]
      go_simp
    | 3, _, _, hdep =>
      have hvg : a.tmps.getD 17 undef = .bool first := hdep 1 rfl
      refine ⟨fun hw => ?_, fun hw => ⟨Below.refl _ _, fun hg => absurd ((wanted_ofF (j := 1) (d := 17) rfl rfl hvg).symm.trans hw) (by rw [hg]; decide), hBW⟩⟩
      have hg : first = false := by have := (wanted_ofF (j := 1) (d := 17) rfl rfl hvg).symm.trans hw; simpa using this
      have d18 : a.tmps.getD 18 undef = .pointer (some ⟨B8, 0, none⟩) := hdep 2 rfl hg
      refine OpOk.val (v := .int .i64 lo) (w' := W) ?_ ⟨Below.refl _ _, fun _ => rfl, hBW⟩
      show (execOp a.eval { dst := some 19, op := Op.load 3 (.tmp 18), type := _, pos := _, after := _, guard := some (1, false) }).run Try.prog W = _
      simp only [execOp, List.map_toArray, List.map_cons, List.map_nil, e0, d18]
      go_simp
    | 4, _, _, hdep =>
      have hvg : a.tmps.getD 17 undef = .bool first := hdep 1 rfl
      refine ⟨fun hw => ?_, fun hw => ⟨Below.refl _ _, fun hg => absurd ((wanted_ofF (j := 1) (d := 17) rfl rfl hvg).symm.trans hw) (by rw [hg]; decide), hBW⟩⟩
      have hg : first = false := by have := (wanted_ofF (j := 1) (d := 17) rfl rfl hvg).symm.trans hw; simpa using this
      refine OpOk.val (v := .slice A2 ps.length c2) (w' := W) ?_ ⟨Below.refl _ _, fun _ => rfl, hBW⟩
      show (execOp a.eval { dst := some 20, op := Op.load 50 (.tmp 3), type := _, pos := _, after := _, guard := some (1, false) }).run Try.prog W = _
      simp only [execOp, List.map_toArray, List.map_cons, List.map_nil, e0, f3]
      go_simp
    | 5, _, _, hdep =>
      have hvg : a.tmps.getD 17 undef = .bool first := hdep 1 rfl
      refine ⟨fun hw => ?_, fun hw => ⟨Below.refl _ _, fun hg => absurd ((wanted_ofF (j := 1) (d := 17) rfl rfl hvg).symm.trans hw) (by rw [hg]; decide), hBW⟩⟩
      have hg : first = false := by have := (wanted_ofF (j := 1) (d := 17) rfl rfl hvg).symm.trans hw; simpa using this
      refine OpOk.val (v := .agg #[.int .i64 r.r0, .int .i64 r.r1, .int .i64 r.r2]) (w' := W) ?_ ⟨Below.refl _ _, fun _ => rfl, hBW⟩
      show (execOp a.eval { dst := some 21, op := Op.load 101 (.tmp 4), type := _, pos := _, after := _, guard := some (1, false) }).run Try.prog W = _
      simp only [execOp, List.map_toArray, List.map_cons, List.map_nil, e0, f4]
      go_simp
    | 6, _, _, hdep =>
      have hvg : a.tmps.getD 17 undef = .bool first := hdep 1 rfl
      refine ⟨fun hw => ?_, fun hw => ⟨Below.refl _ _, fun hg => absurd ((wanted_ofF (j := 1) (d := 17) rfl rfl hvg).symm.trans hw) (by rw [hg]; decide), hBW⟩⟩
      have hg : first = false := by have := (wanted_ofF (j := 1) (d := 17) rfl rfl hvg).symm.trans hw; simpa using this
      have d20 : a.tmps.getD 20 undef = .slice A2 ps.length c2 := hdep 4 rfl hg
      have d21 : a.tmps.getD 21 undef = .agg #[.int .i64 r.r0, .int .i64 r.r1, .int .i64 r.r2] := hdep 5 rfl hg
      refine OpOk.call (f := 61) (args := #[.slice A2 ps.length c2, .agg #[.int .i64 r.r0, .int .i64 r.r1, .int .i64 r.r2]]) (w1 := W) ?_ ((hst W (HZ.out.below hBW.2.2.2.2)).mono ?_)
      · show (execOp a.eval { dst := some 22, op := Op.call { callee := .value (.func 61), args := #[(.tmp 20), (.tmp 21)], argTypes := #[50, 101] }, type := _, pos := _, after := _, guard := some (1, false) }).run Try.prog W = _
        have e61 : ∀ args w, (callFunc 61 args).run Try.prog w = .ok (.enter 61 args) w := enters_of Try.func61 (by kernel_rfl) rfl
        simp only [execOp, List.map_toArray, List.map_cons, List.map_nil, e0, d20, d21]
        go_simp
      · rintro e w' ⟨rfl, hb⟩
        exact ⟨_, rfl, hb, fun _ => rfl, hBs hb⟩
    | 7, _, _, hdep =>
      have hvg : a.tmps.getD 17 undef = .bool first := hdep 1 rfl
      refine ⟨fun hw => ?_, fun hw => ⟨Below.refl _ _, fun hg => absurd ((wanted_ofF (j := 1) (d := 17) rfl rfl hvg).symm.trans hw) (by rw [hg]; decide), hBW⟩⟩
      have hg : first = false := by have := (wanted_ofF (j := 1) (d := 17) rfl rfl hvg).symm.trans hw; simpa using this
      have d22 : a.tmps.getD 22 undef = .agg #[.int .i64 L, .int .i64 H] := hdep 6 rfl hg
      refine OpOk.val (v := .int .i64 L) (w' := W) ?_ ⟨Below.refl _ _, fun _ => rfl, hBW⟩
      show (execOp a.eval { dst := some 23, op := Op.field 47 (.tmp 22) 0, type := _, pos := _, after := _, guard := some (1, false) }).run Try.prog W = _
      simp only [execOp, List.map_toArray, List.map_cons, List.map_nil, e0, d22]
      go_simp
    | 8, _, _, hdep =>
      have hvg : a.tmps.getD 17 undef = .bool first := hdep 1 rfl
      refine ⟨fun hw => ?_, fun hw => ⟨Below.refl _ _, fun hg => absurd ((wanted_ofF (j := 1) (d := 17) rfl rfl hvg).symm.trans hw) (by rw [hg]; decide), hBW⟩⟩
      have hg : first = false := by have := (wanted_ofF (j := 1) (d := 17) rfl rfl hvg).symm.trans hw; simpa using this
      have d19 : a.tmps.getD 19 undef = .int .i64 lo := hdep 3 rfl hg
      have d23 : a.tmps.getD 23 undef = .int .i64 L := hdep 7 rfl hg
      refine OpOk.val (v := .bool (decide (lo < L))) (w' := W) ?_ ⟨Below.refl _ _, fun _ => rfl, hBW⟩
      show (execOp a.eval { dst := some 24, op := Op.binOp BinOp.lss 3 (.tmp 19) (.tmp 23) 3, type := _, pos := _, after := _, guard := some (1, false) }).run Try.prog W = _
      simp only [execOp, List.map_toArray, List.map_cons, List.map_nil, e0, d19, d23]
      go_simp
    | kk + 9, h, _, _ => exact absurd h (by omega)
  case hlast =>
    intro a W e1 e2 hfix hBW hall
    have d1 : a.tmps.getD 17 undef = .bool first := hall (fun _ => True) (fun _ _ => trivial) 1 (by decide)
    have d8 : first = false → a.tmps.getD 24 undef = .bool (decide (lo < L)) := hall (fun _ => True) (fun _ _ => trivial) 8 (by decide)
    have e0 : ∀ x, a.eval (.tmp x) = a.tmps.getD x undef := fun _ => rfl
    refine OpOk.val (v := .bool (first || decide (lo < L))) (w' := W) ?_ ?_
    · show (execOp a.eval { dst := some 25, op := Op.pick (.tmp 17) (.const (.bool true)) (.tmp 24), type := _, pos := _, after := _, guard := none }).run Try.prog W = _
      cases first with
      | true =>
        simp only [execOp, List.map_toArray, List.map_cons, List.map_nil, e0, d1]
        go_simp
      | false =>
        have d8 := d8 rfl
        rw [Bool.false_or]
        simp only [execOp, List.map_toArray, List.map_cons, List.map_nil, e0, d1, d8]
        go_simp
    · have hz : a.tmps.size = 43 := e2.trans hsz
      refine hQ _ _ e1 ?_ ?_ ?_ (hBW (fun _ => True) (fun _ _ => trivial)).2.2.2.2
      · show (a.tmps.setIfInBounds 25 _).size = 43
        simp [hz]
      · show (a.tmps.setIfInBounds 25 _).getD 25 undef = _
        simp [hz]
      · intro s hs
        show (a.tmps.setIfInBounds 25 _).getD s undef = _
        rw [Array.getD_eq_getD_getElem?, Array.getElem?_setIfInBounds_ne (by omega), ← Array.getD_eq_getD_getElem?]
        exact hfix s (fun j _ => by omega)
set_option maxHeartbeats 8000000 in
set_option maxRecDepth 10000 in
theorem more_region (rd : Option Nat) (B3 B4 B6 B8 : Nat) (first : Bool) (lo hi : Int) (A2 : Option Addr) (c2 : Nat) (ps : List Sg) (r : Rt) (L H : Int) (a0 : Act) (w0 : World) (Q : Exit → Act → World → Prop) (hsz : a0.tmps.size = 43)
    (hst : ∀ W, Sg.At W A2 ps → Calls Try.prog 61 #[.slice A2 ps.length c2, .agg #[.int .i64 r.r0, .int .i64 r.r1, .int .i64 r.r2]] W fun e w' => e = .returned (.agg #[.int .i64 L, .int .i64 H]) ∧ Below W.heap.size W w')
    (f3 : a0.tmps.getD 3 undef = .pointer (some ⟨B3, 0, none⟩)) (f4 : a0.tmps.getD 5 undef = .pointer (some ⟨B4, 0, none⟩)) (f6 : a0.tmps.getD 6 undef = .pointer (some ⟨B6, 0, none⟩)) (f8 : a0.tmps.getD 9 undef = .pointer (some ⟨B8, 0, none⟩))
    (hz : Sg.At w0 A2 ps) (h3 : Blk w0 B3 #[.slice A2 ps.length c2] 50) (h4 : Blk w0 B4 r.cells 101) (h6 : Blk w0 B6 #[.bool first] 4) (h8 : Blk w0 B8 #[.int .i64 lo, .int .i64 hi] 47)
    (hQ : ∀ (a : Act) (W : World), a.defers = a0.defers → a.tmps.size = 43 → a.tmps.getD 39 undef = .bool (first || decide (H < hi)) → (∀ s, (s < 30 ∨ 39 < s) → a.tmps.getD s undef = a0.tmps.getD s undef) → Below w0.heap.size w0 W → Q .normal a W) :
    (Code.region 8 (opsOf Try.f60 8) true).wpIn { Fence.wide with round := rd } 0 Try.prog Q a0 w0 := by
  have HZ := Aw.mk hz
  refine region_walk2 (rd := rd) 9 (fun i => i + 30) (by kernel_rfl) (by kernel_rfl) (by rw [hsz]; kernel_rfl)
    (fun _ _ W => Blk W B3 #[.slice A2 ps.length c2] 50 ∧ Blk W B4 r.cells 101 ∧ Blk W B6 #[.bool first] 4 ∧ Blk W B8 #[.int .i64 lo, .int .i64 hi] 47 ∧ Below w0.heap.size w0 W)
    (fun _ W W' => Below W.heap.size W W')
    (fun _ i v W => match i with
      | 0 => v = .bool first
      | 1 => v = .bool first
      | 2 => (first = false → v = .pointer (some ⟨B8, 1, none⟩))
      | 3 => (first = false → v = .int .i64 hi)
      | 4 => (first = false → v = .slice A2 ps.length c2)
      | 5 => (first = false → v = .agg #[.int .i64 r.r0, .int .i64 r.r1, .int .i64 r.r2])
      | 6 => (first = false → v = .agg #[.int .i64 L, .int .i64 H])
      | 7 => (first = false → v = .int .i64 H)
      | _ => (first = false → v = .bool (decide (H < hi))))
    ?hSp ?hL (fun _ _ _ _ _ _ _ h => h) ⟨h3.drew, h4.drew, h6.drew, h8.drew, (Below.refl _ _).drew⟩ ?hop ?hlast
  case hSp =>
    intro L j i v W W' _ hi _ _ _ _ hb h
    match i, h with
    | 0, h | 1, h | 2, h | 3, h | 4, h | 5, h | 6, h | 7, h => exact h
    | _ + 8, h => exact h
  case hL =>
    intro L L' j v W _ h
    exact h
  case hop =>
    intro Ls i a W hiB hN _ hfix hBW hnl _ _ hdep
    have f3 : a.tmps.getD 3 undef = .pointer (some ⟨B3, 0, none⟩) := (hfix 3 (fun j _ => by omega)).trans f3
    have f4 : a.tmps.getD 5 undef = .pointer (some ⟨B4, 0, none⟩) := (hfix 5 (fun j _ => by omega)).trans f4
    have f6 : a.tmps.getD 6 undef = .pointer (some ⟨B6, 0, none⟩) := (hfix 6 (fun j _ => by omega)).trans f6
    have f8 : a.tmps.getD 9 undef = .pointer (some ⟨B8, 0, none⟩) := (hfix 9 (fun j _ => by omega)).trans f8
    have e0 : ∀ x, a.eval (.tmp x) = a.tmps.getD x undef := fun _ => rfl
    have g3 : W.cell? ⟨B3, 0, none⟩ = some (.slice A2 ps.length c2) := hBW.1.cell 0
    have g40 : W.cell? ⟨B4, 0, none⟩ = some (.int .i64 r.r0) := hBW.2.1.cell 0
    have g41 : W.cell? ⟨B4, 1, none⟩ = some (.int .i64 r.r1) := hBW.2.1.cell 1
    have g42 : W.cell? ⟨B4, 2, none⟩ = some (.int .i64 r.r2) := hBW.2.1.cell 2
    have g6 : W.cell? ⟨B6, 0, none⟩ = some (.bool first) := hBW.2.2.1.cell 0
    have g80 : W.cell? ⟨B8, 0, none⟩ = some (.int .i64 lo) := hBW.2.2.2.1.cell 0
    have g81 : W.cell? ⟨B8, 1, none⟩ = some (.int .i64 hi) := hBW.2.2.2.1.cell 1
    have hBs : ∀ {W' : World}, Below W.heap.size W W' → (Blk W' B3 #[.slice A2 ps.length c2] 50 ∧ Blk W' B4 r.cells 101 ∧ Blk W' B6 #[.bool first] 4 ∧ Blk W' B8 #[.int .i64 lo, .int .i64 hi] 47 ∧ Below w0.heap.size w0 W') := fun hb => ⟨hBW.1.below hb hBW.1.lt, hBW.2.1.below hb hBW.2.1.lt, hBW.2.2.1.below hb hBW.2.2.1.lt, hBW.2.2.2.1.below hb hBW.2.2.2.1.lt, hBW.2.2.2.2.trans (hb.mono hBW.2.2.2.2.size)⟩
    clear hQ
    match i, hN, hiB, hdep with
    | 0, _, _, hdep =>
      refine ⟨fun _ => ?_, fun h => absurd (show true = false from h) (by decide)⟩
      refine OpOk.val (v := .bool first) (w' := W) ?_ ⟨Below.refl _ _, rfl, hBW⟩
      show (execOp a.eval { dst := some 30, op := Op.load 4 (.tmp 6), type := _, pos := _, after := _, guard := none }).run Try.prog W = _
      simp only [execOp, List.map_toArray, List.map_cons, List.map_nil, e0, f6]
      go_simp
    | 1, _, _, hdep =>
      refine ⟨fun _ => ?_, fun h => absurd (show true = false from h) (by decide)⟩
      have d30 : a.tmps.getD 30 undef = .bool first := hdep 0 rfl
      refine OpOk.val (v := .bool first) (w' := W) ?_ ⟨Below.refl _ _, rfl, hBW⟩
      show (execOp a.eval { dst := some 31, op := Op.move (.tmp 30), type := _, pos := _, after := _, guard := none }).run Try.prog W = _
      simp only [execOp, List.map_toArray, List.map_cons, List.map_nil, e0, d30]
      go_simp
    | 2, _, _, hdep =>
      have hvg : a.tmps.getD 31 undef = .bool first := hdep 1 rfl
      refine ⟨fun hw => ?_, fun hw => ⟨Below.refl _ _, fun hg => absurd ((wanted_ofF (j := 1) (d := 31) rfl rfl hvg).symm.trans hw) (by rw [hg]; decide), hBW⟩⟩
      have hg : first = false := by have := (wanted_ofF (j := 1) (d := 31) rfl rfl hvg).symm.trans hw; simpa using this
      refine OpOk.val (v := .pointer (some ⟨B8, 1, none⟩)) (w' := W) ?_ ⟨Below.refl _ _, fun _ => rfl, hBW⟩
      show (execOp a.eval { dst := some 32, op := Op.fieldAddr 47 (.tmp 9) 1, type := _, pos := _, after := _, guard := some (1, false) }).run Try.prog W = _
      simp only [execOp, List.map_toArray, List.map_cons, List.map_nil, e0, f8]
      go_simp
    | 3, _, _, hdep =>
      have hvg : a.tmps.getD 31 undef = .bool first := hdep 1 rfl
      refine ⟨fun hw => ?_, fun hw => ⟨Below.refl _ _, fun hg => absurd ((wanted_ofF (j := 1) (d := 31) rfl rfl hvg).symm.trans hw) (by rw [hg]; decide), hBW⟩⟩
      have hg : first = false := by have := (wanted_ofF (j := 1) (d := 31) rfl rfl hvg).symm.trans hw; simpa using this
      have d32 : a.tmps.getD 32 undef = .pointer (some ⟨B8, 1, none⟩) := hdep 2 rfl hg
      refine OpOk.val (v := .int .i64 hi) (w' := W) ?_ ⟨Below.refl _ _, fun _ => rfl, hBW⟩
      show (execOp a.eval { dst := some 33, op := Op.load 3 (.tmp 32), type := _, pos := _, after := _, guard := some (1, false) }).run Try.prog W = _
      simp only [execOp, List.map_toArray, List.map_cons, List.map_nil, e0, d32]
      go_simp
    | 4, _, _, hdep =>
      have hvg : a.tmps.getD 31 undef = .bool first := hdep 1 rfl
      refine ⟨fun hw => ?_, fun hw => ⟨Below.refl _ _, fun hg => absurd ((wanted_ofF (j := 1) (d := 31) rfl rfl hvg).symm.trans hw) (by rw [hg]; decide), hBW⟩⟩
      have hg : first = false := by have := (wanted_ofF (j := 1) (d := 31) rfl rfl hvg).symm.trans hw; simpa using this
      refine OpOk.val (v := .slice A2 ps.length c2) (w' := W) ?_ ⟨Below.refl _ _, fun _ => rfl, hBW⟩
      show (execOp a.eval { dst := some 34, op := Op.load 50 (.tmp 3), type := _, pos := _, after := _, guard := some (1, false) }).run Try.prog W = _
      simp only [execOp, List.map_toArray, List.map_cons, List.map_nil, e0, f3]
      go_simp
    | 5, _, _, hdep =>
      have hvg : a.tmps.getD 31 undef = .bool first := hdep 1 rfl
      refine ⟨fun hw => ?_, fun hw => ⟨Below.refl _ _, fun hg => absurd ((wanted_ofF (j := 1) (d := 31) rfl rfl hvg).symm.trans hw) (by rw [hg]; decide), hBW⟩⟩
      have hg : first = false := by have := (wanted_ofF (j := 1) (d := 31) rfl rfl hvg).symm.trans hw; simpa using this
      refine OpOk.val (v := .agg #[.int .i64 r.r0, .int .i64 r.r1, .int .i64 r.r2]) (w' := W) ?_ ⟨Below.refl _ _, fun _ => rfl, hBW⟩
      show (execOp a.eval { dst := some 35, op := Op.load 101 (.tmp 5), type := _, pos := _, after := _, guard := some (1, false) }).run Try.prog W = _
      simp only [execOp, List.map_toArray, List.map_cons, List.map_nil, e0, f4]
      go_simp
    | 6, _, _, hdep =>
      have hvg : a.tmps.getD 31 undef = .bool first := hdep 1 rfl
      refine ⟨fun hw => ?_, fun hw => ⟨Below.refl _ _, fun hg => absurd ((wanted_ofF (j := 1) (d := 31) rfl rfl hvg).symm.trans hw) (by rw [hg]; decide), hBW⟩⟩
      have hg : first = false := by have := (wanted_ofF (j := 1) (d := 31) rfl rfl hvg).symm.trans hw; simpa using this
      have d34 : a.tmps.getD 34 undef = .slice A2 ps.length c2 := hdep 4 rfl hg
      have d35 : a.tmps.getD 35 undef = .agg #[.int .i64 r.r0, .int .i64 r.r1, .int .i64 r.r2] := hdep 5 rfl hg
      refine OpOk.call (f := 61) (args := #[.slice A2 ps.length c2, .agg #[.int .i64 r.r0, .int .i64 r.r1, .int .i64 r.r2]]) (w1 := W) ?_ ((hst W (HZ.out.below hBW.2.2.2.2)).mono ?_)
      · show (execOp a.eval { dst := some 36, op := Op.call { callee := .value (.func 61), args := #[(.tmp 34), (.tmp 35)], argTypes := #[50, 101] }, type := _, pos := _, after := _, guard := some (1, false) }).run Try.prog W = _
        have e61 : ∀ args w, (callFunc 61 args).run Try.prog w = .ok (.enter 61 args) w := enters_of Try.func61 (by kernel_rfl) rfl
        simp only [execOp, List.map_toArray, List.map_cons, List.map_nil, e0, d34, d35]
        go_simp
      · rintro e w' ⟨rfl, hb⟩
        exact ⟨_, rfl, hb, fun _ => rfl, hBs hb⟩
    | 7, _, _, hdep =>
      have hvg : a.tmps.getD 31 undef = .bool first := hdep 1 rfl
      refine ⟨fun hw => ?_, fun hw => ⟨Below.refl _ _, fun hg => absurd ((wanted_ofF (j := 1) (d := 31) rfl rfl hvg).symm.trans hw) (by rw [hg]; decide), hBW⟩⟩
      have hg : first = false := by have := (wanted_ofF (j := 1) (d := 31) rfl rfl hvg).symm.trans hw; simpa using this
      have d36 : a.tmps.getD 36 undef = .agg #[.int .i64 L, .int .i64 H] := hdep 6 rfl hg
      refine OpOk.val (v := .int .i64 H) (w' := W) ?_ ⟨Below.refl _ _, fun _ => rfl, hBW⟩
      show (execOp a.eval { dst := some 37, op := Op.field 47 (.tmp 36) 1, type := _, pos := _, after := _, guard := some (1, false) }).run Try.prog W = _
      simp only [execOp, List.map_toArray, List.map_cons, List.map_nil, e0, d36]
      go_simp
    | 8, _, _, hdep =>
      have hvg : a.tmps.getD 31 undef = .bool first := hdep 1 rfl
      refine ⟨fun hw => ?_, fun hw => ⟨Below.refl _ _, fun hg => absurd ((wanted_ofF (j := 1) (d := 31) rfl rfl hvg).symm.trans hw) (by rw [hg]; decide), hBW⟩⟩
      have hg : first = false := by have := (wanted_ofF (j := 1) (d := 31) rfl rfl hvg).symm.trans hw; simpa using this
      have d33 : a.tmps.getD 33 undef = .int .i64 hi := hdep 3 rfl hg
      have d37 : a.tmps.getD 37 undef = .int .i64 H := hdep 7 rfl hg
      refine OpOk.val (v := .bool (decide (H < hi))) (w' := W) ?_ ⟨Below.refl _ _, fun _ => rfl, hBW⟩
      show (execOp a.eval { dst := some 38, op := Op.binOp BinOp.gtr 3 (.tmp 33) (.tmp 37) 3, type := _, pos := _, after := _, guard := some (1, false) }).run Try.prog W = _
      simp only [execOp, List.map_toArray, List.map_cons, List.map_nil, e0, d33, d37]
      go_simp
    | kk + 9, h, _, _ => exact absurd h (by omega)
  case hlast =>
    intro a W e1 e2 hfix hBW hall
    have d1 : a.tmps.getD 31 undef = .bool first := hall (fun _ => True) (fun _ _ => trivial) 1 (by decide)
    have d8 : first = false → a.tmps.getD 38 undef = .bool (decide (H < hi)) := hall (fun _ => True) (fun _ _ => trivial) 8 (by decide)
    have e0 : ∀ x, a.eval (.tmp x) = a.tmps.getD x undef := fun _ => rfl
    refine OpOk.val (v := .bool (first || decide (H < hi))) (w' := W) ?_ ?_
    · show (execOp a.eval { dst := some 39, op := Op.pick (.tmp 31) (.const (.bool true)) (.tmp 38), type := _, pos := _, after := _, guard := none }).run Try.prog W = _
      cases first with
      | true =>
        simp only [execOp, List.map_toArray, List.map_cons, List.map_nil, e0, d1]
        go_simp
      | false =>
        have d8 := d8 rfl
        rw [Bool.false_or]
        simp only [execOp, List.map_toArray, List.map_cons, List.map_nil, e0, d1, d8]
        go_simp
    · have hz : a.tmps.size = 43 := e2.trans hsz
      refine hQ _ _ e1 ?_ ?_ ?_ (hBW (fun _ => True) (fun _ _ => trivial)).2.2.2.2
      · show (a.tmps.setIfInBounds 39 _).size = 43
        simp [hz]
      · show (a.tmps.setIfInBounds 39 _).getD 39 undef = _
        simp [hz]
      · intro s hs
        show (a.tmps.setIfInBounds 39 _).getD s undef = _
        rw [Array.getD_eq_getD_getElem?, Array.getElem?_setIfInBounds_ne (by omega), ← Array.getD_eq_getD_getElem?]
        exact hfix s (fun j _ => by omega)
end Go.Proofs.Ytdagijgoegkphaa.Hand

namespace Go.Proofs.Ytdagijgoegkphaa.Hand
open Go.RowKit Go.Shelf
attribute [local go_sem] Oper.semAt_some
def endStep (ps : List Sg) (s : Rt × Rt × Bool) (r : Rt) : Rt × Rt × Bool :=
  (if s.2.2 || decide (stLo r ps < stLo s.1 ps) then r else s.1, if s.2.2 || decide (stHi s.2.1 ps < stHi r ps) then r else s.2.1, false)
def endsA (ps : List Sg) (l : List Rt) : Rt × Rt × Bool := l.foldl (endStep ps) (⟨0, 0, 0⟩, ⟨0, 0, 0⟩, true)
theorem endsA_snoc (ps : List Sg) (l : List Rt) (r : Rt) : endsA ps (l ++ [r]) = endStep ps (endsA ps l) r := by
  unfold endsA
  rw [List.foldl_append, List.foldl_cons, List.foldl_nil]
theorem endStep_ok {ps : List Sg} {s : Rt × Rt × Bool} {r : Rt} (h1 : s.1.ok) (h2 : s.2.1.ok) (hr : r.ok) : (endStep ps s r).1.ok ∧ (endStep ps s r).2.1.ok := by
  unfold endStep
  constructor
  · show (if _ then r else s.1).ok
    split
    · exact hr
    · exact h1
  · show (if _ then r else s.2.1).ok
    split
    · exact hr
    · exact h2
theorem zero_ok : (⟨0, 0, 0⟩ : Rt).ok := fun k hk => by match k, hk with | 0, _ | 1, _ | 2, _ => decide
structure EB (B3 B4 B5 B6 b : Nat) (A2 : Option Addr) (c2 : Nat) (ps : List Sg) (le mo : Rt) (first : Bool) (r : Rt) (W : World) : Prop where
  h3 : Blk W B3 #[.slice A2 ps.length c2] 50
  h4 : Blk W B4 le.cells 101
  h5 : Blk W B5 mo.cells 101
  h6 : Blk W B6 #[.bool first] 4
  hb : Blk W b r.cells 101
  hz : Sg.At W A2 ps
  n1 : B3 ≠ B4 ∧ B3 ≠ B5 ∧ B3 ≠ B6 ∧ B4 ≠ B5 ∧ B4 ≠ B6 ∧ B5 ≠ B6 ∧ b ≠ B4 ∧ b ≠ B5 ∧ b ≠ B6
  n2 : ∀ a, A2 = some a → 0 < ps.length → a.block ≠ B4 ∧ a.block ≠ B5 ∧ a.block ≠ B6
theorem Sg.At.chg {X : Nat → Prop} {w W : World} {A : Option Addr} {l : List Sg} (h : Sg.At w A l) (hc : Chg X w W) (hx : ∀ a, A = some a → 0 < l.length → ¬ X a.block) : Sg.At W A l := fun i hi => by
  obtain ⟨b, off, hA, hlt, h0, h1, h2⟩ := h i hi
  have hb := hc.block b hlt (hx _ hA (by omega))
  have hcc : ∀ o, W.cell? ⟨b, o, none⟩ = w.cell? ⟨b, o, none⟩ := fun o => World.cell?_of_block (w := w) hb
  exact ⟨b, off, hA, Nat.lt_of_lt_of_le hlt hc.size, (hcc _).trans h0, (hcc _).trans h1, (hcc _).trans h2⟩
theorem EB.below {B3 B4 B5 B6 b : Nat} {A2 : Option Addr} {c2 : Nat} {ps : List Sg} {le mo : Rt} {first : Bool} {r : Rt} {W W' : World} (h : EB B3 B4 B5 B6 b A2 c2 ps le mo first r W) (hb : Below W.heap.size W W') : EB B3 B4 B5 B6 b A2 c2 ps le mo first r W' :=
  ⟨h.h3.below hb h.h3.lt, h.h4.below hb h.h4.lt, h.h5.below hb h.h5.lt, h.h6.below hb h.h6.lt, h.hb.below hb h.hb.lt, h.hz.below hb, h.n1, h.n2⟩
theorem chg3 (W : World) (B : Nat) (x y z : Value) : Chg (fun k => k = B) W (((W.setCell ⟨B, 0, none⟩ x).setCell ⟨B, 1, none⟩ y).setCell ⟨B, 2, none⟩ z) := (((Chg.refl (fun k => k = B) W).setCell (.inl rfl) _).setCell (.inl rfl) _).setCell (.inl rfl) _
theorem EB.setLeast {B3 B4 B5 B6 b : Nat} {A2 : Option Addr} {c2 : Nat} {ps : List Sg} {le mo : Rt} {first : Bool} {r : Rt} {W : World} (h : EB B3 B4 B5 B6 b A2 c2 ps le mo first r W) (s : Rt) :
    EB B3 B4 B5 B6 b A2 c2 ps s mo first r (((W.setCell ⟨B4, 0, none⟩ (.int .i64 s.r0)).setCell ⟨B4, 1, none⟩ (.int .i64 s.r1)).setCell ⟨B4, 2, none⟩ (.int .i64 s.r2)) := by
  have n := h.n1
  have hc := chg3 W B4 (.int .i64 s.r0) (.int .i64 s.r1) (.int .i64 s.r2)
  exact ⟨h.h3.chg hc n.1, ((h.h4.set 0 _).set 1 _).set 2 _, h.h5.chg hc (fun e => n.2.2.2.1 e.symm), h.h6.chg hc (fun e => n.2.2.2.2.1 e.symm), h.hb.chg hc n.2.2.2.2.2.2.1, h.hz.chg hc (fun a ha hl => (h.n2 a ha hl).1), n, h.n2⟩
theorem EB.setMost {B3 B4 B5 B6 b : Nat} {A2 : Option Addr} {c2 : Nat} {ps : List Sg} {le mo : Rt} {first : Bool} {r : Rt} {W : World} (h : EB B3 B4 B5 B6 b A2 c2 ps le mo first r W) (s : Rt) :
    EB B3 B4 B5 B6 b A2 c2 ps le s first r (((W.setCell ⟨B5, 0, none⟩ (.int .i64 s.r0)).setCell ⟨B5, 1, none⟩ (.int .i64 s.r1)).setCell ⟨B5, 2, none⟩ (.int .i64 s.r2)) := by
  have n := h.n1
  have hc := chg3 W B5 (.int .i64 s.r0) (.int .i64 s.r1) (.int .i64 s.r2)
  exact ⟨h.h3.chg hc n.2.1, h.h4.chg hc n.2.2.2.1, ((h.h5.set 0 _).set 1 _).set 2 _, h.h6.chg hc (fun e => n.2.2.2.2.2.1 e.symm), h.hb.chg hc n.2.2.2.2.2.2.2.1, h.hz.chg hc (fun a ha hl => (h.n2 a ha hl).2.1), n, h.n2⟩
theorem results60 {tmps : Array Value} {W : World} {g h : Nat} {x y : Rt} (hp : tmps.getD 4 undef = .pointer (some ⟨g, 0, none⟩)) (hq : tmps.getD 5 undef = .pointer (some ⟨h, 0, none⟩)) (h1 : Blk W g x.cells 101) (h2 : Blk W h y.cells 101) :
    (results Try.f60 tmps).run Try.prog W = .ok (.tuple #[x.enc, y.enc]) W := by
  have c0 : W.cell? ⟨g, 0, none⟩ = some (.int .i64 x.r0) := h1.cell 0
  have c1 : W.cell? ⟨g, 1, none⟩ = some (.int .i64 x.r1) := h1.cell 1
  have c2 : W.cell? ⟨g, 2, none⟩ = some (.int .i64 x.r2) := h1.cell 2
  have d0 : W.cell? ⟨h, 0, none⟩ = some (.int .i64 y.r0) := h2.cell 0
  have d1 : W.cell? ⟨h, 1, none⟩ = some (.int .i64 y.r1) := h2.cell 1
  have d2 : W.cell? ⟨h, 2, none⟩ = some (.int .i64 y.r2) := h2.cell 2
  have e : Try.f60.results = #[.cell 4 101, .cell 5 101] := rfl
  have hp' : tmps[4]?.getD undef = .pointer (some ⟨g, 0, none⟩) := by simpa using hp
  have hq' : tmps[5]?.getD undef = .pointer (some ⟨h, 0, none⟩) := by simpa using hq
  unfold results Rt.enc Rt.cells
  simp only [e]
  go_simp
def EndsPost (ps : List Sg) (l : List Rt) (rs : List Rn) (m : Nat) (w : World) (e : Ending) (w' : World) : Prop :=
  e = .returned (.tuple #[(endsA ps l).1.enc, (endsA ps l).2.1.enc]) ∧ Chg (fun k => k = m) w w' ∧ Known rs m w'
set_option maxHeartbeats 16000000 in
set_option maxRecDepth 10000 in
theorem ends_any (w0 : World) (A : Option Addr) (c : Nat) (ms : List Rg) (AR : Option Addr) (cR : Nat) (rs : List Rn) (hI : Inp A c ms AR cR rs w0) (x m : Nat) (w : World) (hx : w0.heap.size ≤ x) (hm : w0.heap.size ≤ m) (hR : RoomI w0 A c ms AR cR rs x m w) (hK : Known rs m w)
    (A2 : Option Addr) (c2 : Nat) (ps : List Sg) (hz : Sg.At w0 A2 ps) (hlen : ps.length ≤ 8) (hok : ∀ s ∈ ps, s.ok) :
    Calls Try.prog 60 #[.pointer (some ⟨x, 0, none⟩), .slice A2 ps.length c2] w (EndsPost ps (good ms rs) rs m w) := by
  obtain ⟨B3, hB3⟩ : ∃ B3, B3 = w.heap.size := ⟨_, rfl⟩
  obtain ⟨B4, hB4⟩ : ∃ B4, B4 = w.heap.size + 1 := ⟨_, rfl⟩
  obtain ⟨B5, hB5⟩ : ∃ B5, B5 = w.heap.size + 1 + 1 := ⟨_, rfl⟩
  obtain ⟨B6, hB6⟩ : ∃ B6, B6 = w.heap.size + 1 + 1 + 1 := ⟨_, rfl⟩
  have HI := Aw.mk hI
  have HR := Aw.mk hR
  have HK := Aw.mk hK
  have HZ := Aw.mk hz
  have HOK := Aw.mk hok
  have HXM := Aw.mk (And.intro hx hm)
  have HB := Aw.mk (And.intro hB3 (And.intro hB4 (And.intro hB5 hB6)))
  clear hI hR hK hz hok hx hm
  refine (callsIn_wide (n := 0)).1 (callsIn_of_wp_marks Try.func60 rfl trivial ((wpIn_wide (n := 0)).2 ?_) rfl)
  simp only [Try.ntmps60, List.size_toArray, List.length_cons, List.length_nil, Nat.reduceAdd, Nat.reduceSub, Array.replicate_succ, Array.replicate_zero, List.push_toArray, List.append_toArray, List.nil_append, List.cons_append]
  clear hB3 hB4 hB5 hB6
  go_wp2_with fail
  refine (every_any _ _).mono ?_
  rintro e w3 ⟨rfl, rfl⟩
  obtain ⟨wd, hwd⟩ : ∃ wd, wd = ((((w.alloc (.cells #[.slice A2 ps.length c2] 50)).alloc (.cells #[.int .i64 0, .int .i64 0, .int .i64 0] 101)).alloc (.cells #[.int .i64 0, .int .i64 0, .int .i64 0] 101)).alloc (.cells #[.bool true] 4)).alloc (.cells #[.pointer (some ⟨x, 0, none⟩)] 97) := ⟨_, rfl⟩
  rw [← hwd]
  rw [show ((((w.alloc (.cells #[.slice A2 ps.length c2] 50)).alloc (.cells #[.int .i64 0, .int .i64 0, .int .i64 0] 101)).alloc (.cells #[.int .i64 0, .int .i64 0, .int .i64 0] 101)).alloc (.cells #[.bool true] 4)).heap.size = B6 + 1 by have := HB.out.2.2.2; simp; omega]
  rw [← HB.out.2.2.2, ← HB.out.2.2.1, ← HB.out.2.1, ← HB.out.1]
  have hbd : Below w.heap.size w wd := by rw [hwd]; exact (((((Below.refl w.heap.size w).alloc (Nat.le_refl _) _).alloc (by simp) _).alloc (by simp; omega) _).alloc (by simp; omega) _).alloc (by simp; omega) _
  have h3d : Blk wd B3 #[.slice A2 ps.length c2] 50 := by rw [hwd, HB.out.1]; exact ((((Blk.new w _ _).alloc _).alloc _).alloc _).alloc _
  have h4d : Blk wd B4 (⟨0, 0, 0⟩ : Rt).cells 101 := by
    have := Blk.new (w.alloc (.cells #[.slice A2 ps.length c2] 50)) #[.int .i64 0, .int .i64 0, .int .i64 0] 101
    rw [hwd, HB.out.2.1]; exact (((by simpa using this : Blk _ (w.heap.size + 1) #[.int .i64 0, .int .i64 0, .int .i64 0] 101).alloc _).alloc _).alloc _
  have h5d : Blk wd B5 (⟨0, 0, 0⟩ : Rt).cells 101 := by
    have := Blk.new ((w.alloc (.cells #[.slice A2 ps.length c2] 50)).alloc (.cells #[.int .i64 0, .int .i64 0, .int .i64 0] 101)) #[.int .i64 0, .int .i64 0, .int .i64 0] 101
    rw [hwd, HB.out.2.2.1]; exact ((by simpa using this : Blk _ (w.heap.size + 1 + 1) #[.int .i64 0, .int .i64 0, .int .i64 0] 101).alloc _).alloc _
  have h6d : Blk wd B6 #[.bool true] 4 := by
    have := Blk.new (((w.alloc (.cells #[.slice A2 ps.length c2] 50)).alloc (.cells #[.int .i64 0, .int .i64 0, .int .i64 0] 101)).alloc (.cells #[.int .i64 0, .int .i64 0, .int .i64 0] 101)) #[.bool true] 4
    rw [hwd, HB.out.2.2.2]; exact (by simpa using this : Blk _ (w.heap.size + 1 + 1 + 1) #[.bool true] 4).alloc _
  have h1d : Blk wd (B6 + 1) #[.pointer (some ⟨x, 0, none⟩)] 97 := by
    have := Blk.new ((((w.alloc (.cells #[.slice A2 ps.length c2] 50)).alloc (.cells #[.int .i64 0, .int .i64 0, .int .i64 0] 101)).alloc (.cells #[.int .i64 0, .int .i64 0, .int .i64 0] 101)).alloc (.cells #[.bool true] 4)) #[.pointer (some ⟨x, 0, none⟩)] 97
    rw [hwd, HB.out.2.2.2]; simpa using this
  have hszd : wd.heap.size = B6 + 2 := by rw [hwd]; have := HB.out.2.2.2; simp; omega
  have hxl := HR.out.blk.lt
  have hml := HK.out.lt
  have hxm := HXM.out
  have hol := HR.out.old.1
  have hrd := HR.out.chg (Chg.below hbd (fun _ => False)) (fun _ h => h.elim) (fun h => h)
  have hkd := HK.out.below hbd
  have HBD := Aw.mk hbd
  have hlt : w0.heap.size ≤ w.heap.size ∧ w.heap.size ≤ B3 ∧ B3 < B4 ∧ B4 < B5 ∧ B5 < B6 ∧ B6 + 2 ≤ wd.heap.size ∧ x < B3 ∧ m < B3 ∧ w0.heap.size ≤ x ∧ w0.heap.size ≤ m := by have := HB.out; omega
  clear hwd hszd hxl hml hxm hol
  dsimp only [Exit.inBlock, Exit.then]
  go_wp2_with fail
  refine wpIn_wide.1 (every_range HI.out (by omega) (by omega) hrd hkd h1d rfl rfl (fun k => k = B4 ∨ k = B5 ∨ k = B6) (fun k => k = B3 ∨ k = B4 ∨ k = B5 ∨ k = B6)
    (fun pre W => Blk W B3 #[.slice A2 ps.length c2] 50 ∧ Blk W B4 (endsA ps pre).1.cells 101 ∧ Blk W B5 (endsA ps pre).2.1.cells 101 ∧ Blk W B6 #[.bool (endsA ps pre).2.2] 4 ∧ (endsA ps pre).1.ok ∧ (endsA ps pre).2.1.ok)
    (fun cd W => False)
    (fun k hk => by rcases hk with rfl | rfl | rfl | rfl <;> omega)
    (fun pre => (Blk.local (.inl rfl)).and ((Blk.local (.inr (.inl rfl))).and ((Blk.local (.inr (.inr (.inl rfl)))).and ((Blk.local (.inr (.inr (.inr rfl)))).and (Local.const _)))))
    (fun cd => Local.const _)
    ⟨h3d, h4d, h5d, h6d, zero_ok, zero_ok⟩
    (fun _ r a' W b => (a'.defers = [] ∧ a'.tmps.size = 43 ∧ a'.tmps.getD 3 undef = .pointer (some ⟨B3, 0, none⟩) ∧ a'.tmps.getD 4 undef = .pointer (some ⟨B4, 0, none⟩) ∧ a'.tmps.getD 5 undef = .pointer (some ⟨B5, 0, none⟩) ∧ a'.tmps.getD 6 undef = .pointer (some ⟨B6, 0, none⟩) ∧ a'.tmps.getD 7 undef = .pointer (some ⟨b, 0, none⟩)) ∧ Blk W b r.cells 101)
    (fun _ _ _ b => (Local.const _).and (Blk.local (.inr rfl))) ?hassign ?hbody ?hdone ?hstop)
  case hassign =>
    intro l X pre r W hj hg hok hX
    simp only [List.zip_toArray, List.zip_cons_cons, List.zip_nil_left, List.zip_nil_right, List.foldl_toArray, List.foldl_cons, List.foldl_nil, List.setIfInBounds_toArray, List.set_cons_succ, List.set_cons_zero]
    clear hj hX
    unfold Rt.enc Rt.cells
    gi_wp2
    exact ⟨(Chg.refl _ _).alloc _, W.heap.size, .inl ⟨Nat.le_refl _, by simp⟩, ⟨trivial, rfl, rfl, rfl, rfl, rfl, rfl⟩, Blk.new W _ _⟩
  case hbody =>
    intro l X pre r a' W b hj hFa hb1 hb2 hbX hg hrok hX
    obtain ⟨⟨hdf, hsz, hp3, hp4, hp5, hp6, hp7⟩, hbb⟩ := hFa
    have p3 : slot a' 3 = .pointer (some ⟨B3, 0, none⟩) := hp3
    have p4 : slot a' 4 = .pointer (some ⟨B4, 0, none⟩) := hp4
    have p5 : slot a' 5 = .pointer (some ⟨B5, 0, none⟩) := hp5
    have p6 : slot a' 6 = .pointer (some ⟨B6, 0, none⟩) := hp6
    have p7 : slot a' 7 = .pointer (some ⟨b, 0, none⟩) := hp7
    obtain ⟨k3, k4, k5, k6, ok4, ok5⟩ := hj.p
    obtain ⟨st, hstD⟩ : ∃ st, st = endsA ps pre := ⟨_, rfl⟩
    rw [← hstD] at k4 k5 k6 ok4 ok5
    obtain ⟨le, mo, first⟩ := st
    dsimp only at k4 k5 k6 ok4 ok5
    have hzW : Sg.At W A2 ps := by
      have hk : Keep (fun k => k < w0.heap.size) w0 W := hrd.old.trans (hj.chg.keep fun k hk _ e => by omega)
      exact HZ.out.stays (stays_keep hk)
    have E0 := Aw.mk (show EB B3 B4 B5 B6 b A2 c2 ps le mo first r W from ⟨k3, k4, k5, k6, hbb, hzW, by rcases hb1 with h | rfl <;> omega, fun a ha hl => by
      obtain ⟨b', off', q1, q2, _⟩ := HZ.out 0 hl
      rw [q1] at ha; cases ha
      simp only
      omega⟩)
    have HSR := Aw.mk (fun V (h : Sg.At V A2 ps) => stretch_any A2 c2 ps r V h hlen HOK.out hrok)
    have HSL := Aw.mk (fun V (h : Sg.At V A2 ps) => stretch_any A2 c2 ps le V h hlen HOK.out ok4)
    have HSM := Aw.mk (fun V (h : Sg.At V A2 ps) => stretch_any A2 c2 ps mo V h hlen HOK.out ok5)
    unfold Rt.enc Rt.cells at HSR HSL HSM
    have HFIN := Aw.mk (show ∀ (le' mo' : Rt) (V : World), Chg (fun k => k = B4 ∨ k = B5 ∨ k = B6) W V → EB B3 B4 B5 B6 b A2 c2 ps le' mo' first r V → le' = (endStep ps (le, mo, first) r).1 → mo' = (endStep ps (le, mo, first) r).2.1 → ∀ a,
        rndPost X (fun k => k < w0.heap.size ∨ k = x ∨ k = B6 + 1) (fun X pre W => JL wd m (fun k => k = B4 ∨ k = B5 ∨ k = B6) (fun W => Blk W B3 #[.slice A2 ps.length c2] 50 ∧ Blk W B4 (endsA ps pre).1.cells 101 ∧ Blk W B5 (endsA ps pre).2.1.cells 101 ∧ Blk W B6 #[.bool (endsA ps pre).2.2] 4 ∧ (endsA ps pre).1.ok ∧ (endsA ps pre).2.1.ok) X W)
          (fun c X _ W => (∃ r, r ∈ good ms rs) ∧ JL wd m (fun k => k = B4 ∨ k = B5 ∨ k = B6) (fun W => False) X W) (pre ++ [r]) W .normal a (V.setCell ⟨B6, 0, none⟩ (.bool false)) from by
      intro le' mo' V hc hE h1 h2 a
      have hst2 : endsA ps (pre ++ [r]) = endStep ps (le, mo, first) r := by rw [endsA_snoc, ← hstD]
      have hok2 := endStep_ok (ps := ps) (s := (le, mo, first)) ok4 ok5 hrok
      have hc6 : Chg (fun k => k = B6) V (V.setCell ⟨B6, 0, none⟩ (.bool false)) := (Chg.refl (fun k => k = B6) V).setCell (.inl rfl) _
      refine hj.round (fun k hk => by rcases hk with rfl | rfl | rfl <;> refine ⟨by omega, by omega, by omega⟩) (hc.trans (hc6.mono fun k _ e => .inl (.inr (.inr e)))) ?_
      rw [hst2, ← h1, ← h2]
      exact ⟨hE.h3.chg hc6 (by omega), hE.h4.chg hc6 (by omega), hE.h5.chg hc6 (by omega), hE.h6.set 0 _, by rw [h1]; exact hok2.1, by rw [h2]; exact hok2.2⟩)
    obtain ⟨n34, n35, n36, n45, n46, n56, nb4, nb5, nb6⟩ := E0.out.n1
    have n54 := n45.symm
    have n64 := n46.symm
    have n65 := n56.symm
    have HC0 := Aw.mk (Chg.refl (fun k => k = B4 ∨ k = B5 ∨ k = B6) W)
    rw [frame_lit' a' 43 hsz, hdf]
    simp only [List.range, List.range.loop, List.map_cons, List.map_nil, p3, p4, p5, p6, p7]
    clear hj hdf hsz hp3 hp4 hp5 hp6 hp7 p3 p4 p5 p6 p7 k3 k4 k5 k6 hX hbX hb1 hb2 hbb hg ok4 ok5 hzW hrok hstD
    generalize a' = a''
    have g3 : W.cell? ⟨B3, 0, none⟩ = some (.slice A2 ps.length c2) := E0.out.h3.cell 0
    have b0 : W.cell? ⟨b, 0, none⟩ = some (.int .i64 r.r0) := E0.out.hb.cell 0
    have b1 : W.cell? ⟨b, 1, none⟩ = some (.int .i64 r.r1) := E0.out.hb.cell 1
    have b2 : W.cell? ⟨b, 2, none⟩ = some (.int .i64 r.r2) := E0.out.hb.cell 2
    gi_wp2_with fail
    refine ⟨trivial, rfl, (CallsIn.inRound l (callsIn_wide.2 (HSR.out _ E0.out.hz))).mono ?_⟩
    rintro e V ⟨rfl, hbv⟩
    have E1 := Aw.mk (E0.out.below hbv)
    have HC1 := Aw.mk (HC0.out.andBelow hbv)
    clear hbv g3 b0 b1 b2
    gi_wp2_with fail
    obtain ⟨V', hV'⟩ : ∃ V', V' = V.alloc (.cells #[.int .i64 (stLo r ps), .int .i64 (stHi r ps)] 47) := ⟨_, rfl⟩
    rw [← hV']
    have hb4 : Below V.heap.size V V' := by rw [hV']; exact (Below.refl _ _).alloc (Nat.le_refl _) _
    have h8 : Blk V' V.heap.size #[.int .i64 (stLo r ps), .int .i64 (stHi r ps)] 47 := by rw [hV']; exact Blk.new _ _ _
    have E1' := Aw.mk (E1.out.below hb4)
    have HC1' := Aw.mk (HC1.out.andBelow hb4)
    clear hV' hb4
    refine less_region (some l) B3 B4 B6 V.heap.size first (stLo r ps) (stHi r ps) A2 c2 ps le (stLo le ps) (stHi le ps) _ V' _ rfl HSL.out rfl rfl rfl rfl E1'.out.hz E1'.out.h3 E1'.out.h4 E1'.out.h6 h8 ?_
    intro a U2 hd hsz hv hfix hbW
    have E2 := Aw.mk (E1'.out.below hbW)
    have HC2 := Aw.mk (HC1'.out.andBelow hbW)
    obtain ⟨v1, hv1⟩ : ∃ v1, v1 = (first || decide (stLo r ps < stLo le ps)) := ⟨_, rfl⟩
    rw [← hv1] at hv
    have HV1 := Aw.mk hv1
    clear hv1 h8 E1 HC1 E1' HC1'
    have hp : ∀ s, (s < 16 ∨ 25 < s) → slot a s = _ := hfix
    have p0 := hp 0 (by decide)
    have p1 := hp 1 (by decide)
    have p2 := hp 2 (by decide)
    have p3 := hp 3 (by decide)
    have p4 := hp 4 (by decide)
    have p5 := hp 5 (by decide)
    have p6 := hp 6 (by decide)
    have p7 := hp 7 (by decide)
    have p8 := hp 8 (by decide)
    have p9 := hp 9 (by decide)
    have p10 := hp 10 (by decide)
    have p11 := hp 11 (by decide)
    have p12 := hp 12 (by decide)
    have p13 := hp 13 (by decide)
    have p14 := hp 14 (by decide)
    have p15 := hp 15 (by decide)
    have p26 := hp 26 (by decide)
    have p27 := hp 27 (by decide)
    have p28 := hp 28 (by decide)
    have p29 := hp 29 (by decide)
    have p30 := hp 30 (by decide)
    have p31 := hp 31 (by decide)
    have p32 := hp 32 (by decide)
    have p33 := hp 33 (by decide)
    have p34 := hp 34 (by decide)
    have p35 := hp 35 (by decide)
    have p36 := hp 36 (by decide)
    have p37 := hp 37 (by decide)
    have p38 := hp 38 (by decide)
    have p39 := hp 39 (by decide)
    have p40 := hp 40 (by decide)
    have p41 := hp 41 (by decide)
    have p42 := hp 42 (by decide)
    have q25 : slot a 25 = .bool v1 := hv
    simp only [Array.getD_eq_getD_getElem?, List.getElem?_toArray, List.getElem?_cons_zero, List.getElem?_cons_succ, Option.getD_some] at p0 p1 p2 p3 p4 p5 p6 p7 p8 p9 p10 p11 p12 p13 p14 p15 p26 p27 p28 p29 p30 p31 p32 p33 p34 p35 p36 p37 p38 p39 p40 p41 p42
    rw [frame_lit' a 43 hsz, hd]
    simp only [List.range, List.range.loop, List.map_cons, List.map_nil, q25, p0, p1, p2, p3, p4, p5, p6, p7, p8, p9, p10, p11, p12, p13, p14, p15, p26, p27, p28, p29, p30, p31, p32, p33, p34, p35, p36, p37, p38, p39, p40, p41, p42]
    clear p0 p1 p2 p3 p4 p5 p6 p7 p8 p9 p10 p11 p12 p13 p14 p15 p26 p27 p28 p29 p30 p31 p32 p33 p34 p35 p36 p37 p38 p39 p40 p41 p42 q25 hp hfix hd hsz hv hbW
    generalize a = a1
    dsimp only [Exit.inBlock, Exit.then]
    cases v1 with
    | true =>
      have EL := Aw.mk (E2.out.setLeast r)
      have HCL := Aw.mk ((((HC2.out.setCell (p := ⟨B4, 0, none⟩) (.inl (.inl rfl)) (.int .i64 r.r0)).setCell (p := ⟨B4, 1, none⟩) (.inl (.inl rfl)) (.int .i64 r.r1)).setCell (p := ⟨B4, 2, none⟩) (.inl (.inl rfl)) (.int .i64 r.r2)))
      have s0 : U2.cell? ⟨B4, 0, none⟩ = some (.int .i64 le.r0) := E2.out.h4.cell 0
      have s1 : U2.cell? ⟨B4, 1, none⟩ = some (.int .i64 le.r1) := E2.out.h4.cell 1
      have s2 : U2.cell? ⟨B4, 2, none⟩ = some (.int .i64 le.r2) := E2.out.h4.cell 2
      have t0 : U2.frozen? ⟨B4, 0, none⟩ = false := E2.out.h4.frozen 0
      have t1 : U2.frozen? ⟨B4, 1, none⟩ = false := E2.out.h4.frozen 1
      have t2 : U2.frozen? ⟨B4, 2, none⟩ = false := E2.out.h4.frozen 2
      have g3 : U2.cell? ⟨B3, 0, none⟩ = some (.slice A2 ps.length c2) := E2.out.h3.cell 0
      have b0 : U2.cell? ⟨b, 0, none⟩ = some (.int .i64 r.r0) := E2.out.hb.cell 0
      have b1 : U2.cell? ⟨b, 1, none⟩ = some (.int .i64 r.r1) := E2.out.hb.cell 1
      have b2 : U2.cell? ⟨b, 2, none⟩ = some (.int .i64 r.r2) := E2.out.hb.cell 2
      have lb := E2.out.hb.lt
      have l4 := E2.out.h4.lt
      have l5 := E2.out.h5.lt
      have l6 := E2.out.h6.lt
      gi_wp2_with fail
      obtain ⟨T, hT⟩ : ∃ T, T = ((U2.setCell ⟨B4, 0, none⟩ (.int .i64 r.r0)).setCell ⟨B4, 1, none⟩ (.int .i64 r.r1)).setCell ⟨B4, 2, none⟩ (.int .i64 r.r2) := ⟨_, rfl⟩
      rw [← hT]
      rw [← hT] at EL HCL
      clear hT s0 s1 s2 t0 t1 t2
      refine ⟨trivial, rfl, (CallsIn.inRound l (callsIn_wide.2 (HSR.out _ (EL.out.hz)))).mono ?_⟩
      rintro e V ⟨rfl, hbv⟩
      have E3 := Aw.mk (EL.out.below hbv)
      have HC3 := Aw.mk (HCL.out.andBelow hbv)
      clear g3 b0 b1 b2 lb l4 l5 l6
      clear hbv
      gi_wp2_with fail
      obtain ⟨V', hV'⟩ : ∃ V', V' = V.alloc (.cells #[.int .i64 (stLo r ps), .int .i64 (stHi r ps)] 47) := ⟨_, rfl⟩
      rw [← hV']
      have hb4 : Below V.heap.size V V' := by rw [hV']; exact (Below.refl _ _).alloc (Nat.le_refl _) _
      have h9 : Blk V' V.heap.size #[.int .i64 (stLo r ps), .int .i64 (stHi r ps)] 47 := by rw [hV']; exact Blk.new _ _ _
      have E4 := Aw.mk (E3.out.below hb4)
      have HC4 := Aw.mk (HC3.out.andBelow hb4)
      clear hV' hb4
      refine more_region (some l) B3 B5 B6 V.heap.size first (stLo r ps) (stHi r ps) A2 c2 ps mo (stLo mo ps) (stHi mo ps) _ V' _ rfl HSM.out rfl rfl rfl rfl E4.out.hz E4.out.h3 E4.out.h5 E4.out.h6 h9 ?_
      intro a U hd hsz hv hfix hbW
      have E5 := Aw.mk (E4.out.below hbW)
      have HC5 := Aw.mk (HC4.out.andBelow hbW)
      obtain ⟨v2, hv2⟩ : ∃ v2, v2 = (first || decide (stHi mo ps < stHi r ps)) := ⟨_, rfl⟩
      rw [← hv2] at hv
      have HV2 := Aw.mk hv2
      clear hv2 h9 E3 HC3 E4 HC4
      have hp : ∀ s, (s < 30 ∨ 39 < s) → slot a s = _ := hfix
      have p0 := hp 0 (by decide)
      have p1 := hp 1 (by decide)
      have p2 := hp 2 (by decide)
      have p3 := hp 3 (by decide)
      have p4 := hp 4 (by decide)
      have p5 := hp 5 (by decide)
      have p6 := hp 6 (by decide)
      have p7 := hp 7 (by decide)
      have p8 := hp 8 (by decide)
      have p9 := hp 9 (by decide)
      have p10 := hp 10 (by decide)
      have p11 := hp 11 (by decide)
      have p12 := hp 12 (by decide)
      have p13 := hp 13 (by decide)
      have p14 := hp 14 (by decide)
      have p15 := hp 15 (by decide)
      have p16 := hp 16 (by decide)
      have p17 := hp 17 (by decide)
      have p18 := hp 18 (by decide)
      have p19 := hp 19 (by decide)
      have p20 := hp 20 (by decide)
      have p21 := hp 21 (by decide)
      have p22 := hp 22 (by decide)
      have p23 := hp 23 (by decide)
      have p24 := hp 24 (by decide)
      have p25 := hp 25 (by decide)
      have p26 := hp 26 (by decide)
      have p27 := hp 27 (by decide)
      have p28 := hp 28 (by decide)
      have p29 := hp 29 (by decide)
      have p40 := hp 40 (by decide)
      have p41 := hp 41 (by decide)
      have p42 := hp 42 (by decide)
      have q39 : slot a 39 = .bool v2 := hv
      simp only [Array.getD_eq_getD_getElem?, List.getElem?_toArray, List.getElem?_cons_zero, List.getElem?_cons_succ, Option.getD_some] at p0 p1 p2 p3 p4 p5 p6 p7 p8 p9 p10 p11 p12 p13 p14 p15 p16 p17 p18 p19 p20 p21 p22 p23 p24 p25 p26 p27 p28 p29 p40 p41 p42
      rw [frame_lit' a 43 hsz, hd]
      simp only [List.range, List.range.loop, List.map_cons, List.map_nil, q39, p0, p1, p2, p3, p4, p5, p6, p7, p8, p9, p10, p11, p12, p13, p14, p15, p16, p17, p18, p19, p20, p21, p22, p23, p24, p25, p26, p27, p28, p29, p40, p41, p42]
      clear p0 p1 p2 p3 p4 p5 p6 p7 p8 p9 p10 p11 p12 p13 p14 p15 p16 p17 p18 p19 p20 p21 p22 p23 p24 p25 p26 p27 p28 p29 p40 p41 p42 q39 hp hfix hd hsz hv hbW
      generalize a = a1
      dsimp only [Exit.inBlock, Exit.then]
      cases v2 with
      | true =>
        have E6 := Aw.mk (E5.out.setMost r)
        have HC6 := Aw.mk ((((HC5.out.setCell (p := ⟨B5, 0, none⟩) (.inl (.inr (.inl rfl))) (.int .i64 r.r0)).setCell (p := ⟨B5, 1, none⟩) (.inl (.inr (.inl rfl))) (.int .i64 r.r1)).setCell (p := ⟨B5, 2, none⟩) (.inl (.inr (.inl rfl))) (.int .i64 r.r2)))
        have f0 : U.cell? ⟨B6, 0, none⟩ = some (.bool first) := E5.out.h6.cell 0
        have f1 : U.frozen? ⟨B6, 0, none⟩ = false := E5.out.h6.frozen 0
        have g3 : U.cell? ⟨B3, 0, none⟩ = some (.slice A2 ps.length c2) := E5.out.h3.cell 0
        have b0 : U.cell? ⟨b, 0, none⟩ = some (.int .i64 r.r0) := E5.out.hb.cell 0
        have b1 : U.cell? ⟨b, 1, none⟩ = some (.int .i64 r.r1) := E5.out.hb.cell 1
        have b2 : U.cell? ⟨b, 2, none⟩ = some (.int .i64 r.r2) := E5.out.hb.cell 2
        have lb := E5.out.hb.lt
        have l4 := E5.out.h4.lt
        have l5 := E5.out.h5.lt
        have l6 := E5.out.h6.lt
        have s0 : U.cell? ⟨B5, 0, none⟩ = some (.int .i64 mo.r0) := E5.out.h5.cell 0
        have s1 : U.cell? ⟨B5, 1, none⟩ = some (.int .i64 mo.r1) := E5.out.h5.cell 1
        have s2 : U.cell? ⟨B5, 2, none⟩ = some (.int .i64 mo.r2) := E5.out.h5.cell 2
        have t0 : U.frozen? ⟨B5, 0, none⟩ = false := E5.out.h5.frozen 0
        have t1 : U.frozen? ⟨B5, 1, none⟩ = false := E5.out.h5.frozen 1
        have t2 : U.frozen? ⟨B5, 2, none⟩ = false := E5.out.h5.frozen 2
        have HP := Aw.mk (HFIN.out r r _ HC6.out E6.out (by unfold endStep; dsimp only; rw [← HV1.out]; rfl) (by unfold endStep; dsimp only; rw [← HV2.out]; rfl) a')
        gi_wp2_with fail
        exact HP.out
      | false =>
        have f0 : U.cell? ⟨B6, 0, none⟩ = some (.bool first) := E5.out.h6.cell 0
        have f1 : U.frozen? ⟨B6, 0, none⟩ = false := E5.out.h6.frozen 0
        have HP := Aw.mk (HFIN.out r mo _ HC5.out E5.out (by unfold endStep; dsimp only; rw [← HV1.out]; rfl) (by unfold endStep; dsimp only; rw [← HV2.out]; rfl) a')
        gi_wp2_with fail
        exact HP.out
    | false =>
      have g3 : U2.cell? ⟨B3, 0, none⟩ = some (.slice A2 ps.length c2) := E2.out.h3.cell 0
      have b0 : U2.cell? ⟨b, 0, none⟩ = some (.int .i64 r.r0) := E2.out.hb.cell 0
      have b1 : U2.cell? ⟨b, 1, none⟩ = some (.int .i64 r.r1) := E2.out.hb.cell 1
      have b2 : U2.cell? ⟨b, 2, none⟩ = some (.int .i64 r.r2) := E2.out.hb.cell 2
      have lb := E2.out.hb.lt
      have l4 := E2.out.h4.lt
      have l5 := E2.out.h5.lt
      have l6 := E2.out.h6.lt
      gi_wp2_with fail
      refine ⟨trivial, rfl, (CallsIn.inRound l (callsIn_wide.2 (HSR.out _ (E2.out.hz)))).mono ?_⟩
      rintro e V ⟨rfl, hbv⟩
      have E3 := Aw.mk (E2.out.below hbv)
      have HC3 := Aw.mk (HC2.out.andBelow hbv)
      clear g3 b0 b1 b2 lb l4 l5 l6
      clear hbv
      gi_wp2_with fail
      obtain ⟨V', hV'⟩ : ∃ V', V' = V.alloc (.cells #[.int .i64 (stLo r ps), .int .i64 (stHi r ps)] 47) := ⟨_, rfl⟩
      rw [← hV']
      have hb4 : Below V.heap.size V V' := by rw [hV']; exact (Below.refl _ _).alloc (Nat.le_refl _) _
      have h9 : Blk V' V.heap.size #[.int .i64 (stLo r ps), .int .i64 (stHi r ps)] 47 := by rw [hV']; exact Blk.new _ _ _
      have E4 := Aw.mk (E3.out.below hb4)
      have HC4 := Aw.mk (HC3.out.andBelow hb4)
      clear hV' hb4
      refine more_region (some l) B3 B5 B6 V.heap.size first (stLo r ps) (stHi r ps) A2 c2 ps mo (stLo mo ps) (stHi mo ps) _ V' _ rfl HSM.out rfl rfl rfl rfl E4.out.hz E4.out.h3 E4.out.h5 E4.out.h6 h9 ?_
      intro a U hd hsz hv hfix hbW
      have E5 := Aw.mk (E4.out.below hbW)
      have HC5 := Aw.mk (HC4.out.andBelow hbW)
      obtain ⟨v2, hv2⟩ : ∃ v2, v2 = (first || decide (stHi mo ps < stHi r ps)) := ⟨_, rfl⟩
      rw [← hv2] at hv
      have HV2 := Aw.mk hv2
      clear hv2 h9 E3 HC3 E4 HC4
      have hp : ∀ s, (s < 30 ∨ 39 < s) → slot a s = _ := hfix
      have p0 := hp 0 (by decide)
      have p1 := hp 1 (by decide)
      have p2 := hp 2 (by decide)
      have p3 := hp 3 (by decide)
      have p4 := hp 4 (by decide)
      have p5 := hp 5 (by decide)
      have p6 := hp 6 (by decide)
      have p7 := hp 7 (by decide)
      have p8 := hp 8 (by decide)
      have p9 := hp 9 (by decide)
      have p10 := hp 10 (by decide)
      have p11 := hp 11 (by decide)
      have p12 := hp 12 (by decide)
      have p13 := hp 13 (by decide)
      have p14 := hp 14 (by decide)
      have p15 := hp 15 (by decide)
      have p16 := hp 16 (by decide)
      have p17 := hp 17 (by decide)
      have p18 := hp 18 (by decide)
      have p19 := hp 19 (by decide)
      have p20 := hp 20 (by decide)
      have p21 := hp 21 (by decide)
      have p22 := hp 22 (by decide)
      have p23 := hp 23 (by decide)
      have p24 := hp 24 (by decide)
      have p25 := hp 25 (by decide)
      have p26 := hp 26 (by decide)
      have p27 := hp 27 (by decide)
      have p28 := hp 28 (by decide)
      have p29 := hp 29 (by decide)
      have p40 := hp 40 (by decide)
      have p41 := hp 41 (by decide)
      have p42 := hp 42 (by decide)
      have q39 : slot a 39 = .bool v2 := hv
      simp only [Array.getD_eq_getD_getElem?, List.getElem?_toArray, List.getElem?_cons_zero, List.getElem?_cons_succ, Option.getD_some] at p0 p1 p2 p3 p4 p5 p6 p7 p8 p9 p10 p11 p12 p13 p14 p15 p16 p17 p18 p19 p20 p21 p22 p23 p24 p25 p26 p27 p28 p29 p40 p41 p42
      rw [frame_lit' a 43 hsz, hd]
      simp only [List.range, List.range.loop, List.map_cons, List.map_nil, q39, p0, p1, p2, p3, p4, p5, p6, p7, p8, p9, p10, p11, p12, p13, p14, p15, p16, p17, p18, p19, p20, p21, p22, p23, p24, p25, p26, p27, p28, p29, p40, p41, p42]
      clear p0 p1 p2 p3 p4 p5 p6 p7 p8 p9 p10 p11 p12 p13 p14 p15 p16 p17 p18 p19 p20 p21 p22 p23 p24 p25 p26 p27 p28 p29 p40 p41 p42 q39 hp hfix hd hsz hv hbW
      generalize a = a1
      dsimp only [Exit.inBlock, Exit.then]
      cases v2 with
      | true =>
        have E6 := Aw.mk (E5.out.setMost r)
        have HC6 := Aw.mk ((((HC5.out.setCell (p := ⟨B5, 0, none⟩) (.inl (.inr (.inl rfl))) (.int .i64 r.r0)).setCell (p := ⟨B5, 1, none⟩) (.inl (.inr (.inl rfl))) (.int .i64 r.r1)).setCell (p := ⟨B5, 2, none⟩) (.inl (.inr (.inl rfl))) (.int .i64 r.r2)))
        have f0 : U.cell? ⟨B6, 0, none⟩ = some (.bool first) := E5.out.h6.cell 0
        have f1 : U.frozen? ⟨B6, 0, none⟩ = false := E5.out.h6.frozen 0
        have g3 : U.cell? ⟨B3, 0, none⟩ = some (.slice A2 ps.length c2) := E5.out.h3.cell 0
        have b0 : U.cell? ⟨b, 0, none⟩ = some (.int .i64 r.r0) := E5.out.hb.cell 0
        have b1 : U.cell? ⟨b, 1, none⟩ = some (.int .i64 r.r1) := E5.out.hb.cell 1
        have b2 : U.cell? ⟨b, 2, none⟩ = some (.int .i64 r.r2) := E5.out.hb.cell 2
        have lb := E5.out.hb.lt
        have l4 := E5.out.h4.lt
        have l5 := E5.out.h5.lt
        have l6 := E5.out.h6.lt
        have s0 : U.cell? ⟨B5, 0, none⟩ = some (.int .i64 mo.r0) := E5.out.h5.cell 0
        have s1 : U.cell? ⟨B5, 1, none⟩ = some (.int .i64 mo.r1) := E5.out.h5.cell 1
        have s2 : U.cell? ⟨B5, 2, none⟩ = some (.int .i64 mo.r2) := E5.out.h5.cell 2
        have t0 : U.frozen? ⟨B5, 0, none⟩ = false := E5.out.h5.frozen 0
        have t1 : U.frozen? ⟨B5, 1, none⟩ = false := E5.out.h5.frozen 1
        have t2 : U.frozen? ⟨B5, 2, none⟩ = false := E5.out.h5.frozen 2
        have HP := Aw.mk (HFIN.out le r _ HC6.out E6.out (by unfold endStep; dsimp only; rw [← HV1.out]; rfl) (by unfold endStep; dsimp only; rw [← HV2.out]; rfl) a')
        gi_wp2_with fail
        exact HP.out
      | false =>
        have f0 : U.cell? ⟨B6, 0, none⟩ = some (.bool first) := E5.out.h6.cell 0
        have f1 : U.frozen? ⟨B6, 0, none⟩ = false := E5.out.h6.frozen 0
        have HP := Aw.mk (HFIN.out le mo _ HC5.out E5.out (by unfold endStep; dsimp only; rw [← HV1.out]; rfl) (by unfold endStep; dsimp only; rw [← HV2.out]; rfl) a')
        gi_wp2_with fail
        exact HP.out
  case hdone =>
    intro D W hD hj hk hDW
    obtain ⟨k3, k4, k5, k6, ok4, ok5⟩ := hj.p
    obtain ⟨st, hst⟩ : ∃ st, st = endsA ps (good ms rs) := ⟨_, rfl⟩
    rw [← hst] at k4 k5 k6 ok4 ok5
    have HST := Aw.mk hst
    clear hst
    obtain ⟨le, mo, first⟩ := st
    dsimp only at k4 k5 k6 ok4 ok5
    have HDW := Aw.mk hDW
    have K4 := Aw.mk k4
    have K5 := Aw.mk k5
    have HCH := Aw.mk hj.chg
    have HD := Aw.mk hD
    have HK2 := Aw.mk hk
    have e40 : W.cell? ⟨B4, 0, none⟩ = some (.int .i64 le.r0) := k4.cell 0
    have e41 : W.cell? ⟨B4, 1, none⟩ = some (.int .i64 le.r1) := k4.cell 1
    have e42 : W.cell? ⟨B4, 2, none⟩ = some (.int .i64 le.r2) := k4.cell 2
    have e50 : W.cell? ⟨B5, 0, none⟩ = some (.int .i64 mo.r0) := k5.cell 0
    have e51 : W.cell? ⟨B5, 1, none⟩ = some (.int .i64 mo.r1) := k5.cell 1
    have e52 : W.cell? ⟨B5, 2, none⟩ = some (.int .i64 mo.r2) := k5.cell 2
    have y40 : W.frozen? ⟨B4, 0, none⟩ = false := k4.frozen 0
    have y41 : W.frozen? ⟨B4, 1, none⟩ = false := k4.frozen 1
    have y42 : W.frozen? ⟨B4, 2, none⟩ = false := k4.frozen 2
    have y50 : W.frozen? ⟨B5, 0, none⟩ = false := k5.frozen 0
    have y51 : W.frozen? ⟨B5, 1, none⟩ = false := k5.frozen 1
    have y52 : W.frozen? ⟨B5, 2, none⟩ = false := k5.frozen 2
    have n45 : B4 ≠ B5 := by omega
    have n54 : B5 ≠ B4 := by omega
    clear hj hk hDW k3 k4 k5 k6 ok4 ok5 hD
    dsimp only [Exit.inBlock, Exit.then]
    go_wp2_with fail
    go_region
    all_goals
      obtain ⟨V, hVd⟩ : ∃ V, V = ((((((W.setCell ⟨B4, 0, none⟩ (.int .i64 le.r0)).setCell ⟨B4, 1, none⟩ (.int .i64 le.r1)).setCell ⟨B4, 2, none⟩ (.int .i64 le.r2)).setCell ⟨B5, 0, none⟩ (.int .i64 mo.r0)).setCell ⟨B5, 1, none⟩ (.int .i64 mo.r1)).setCell ⟨B5, 2, none⟩ (.int .i64 mo.r2)).drew := ⟨_, rfl⟩
      rw [← hVd]
      have hcV : Chg (fun k => k = B4 ∨ k = B5) W V := by
        rw [hVd]
        exact ((((((((Chg.refl (fun k => k = B4 ∨ k = B5) W).setCell (.inl (.inl rfl)) _).setCell (.inl (.inl rfl)) _).setCell (.inl (.inl rfl)) _).setCell (.inl (.inr rfl)) _).setCell (.inl (.inr rfl)) _).setCell (.inl (.inr rfl)) _)).drew
      have hb4 : Blk V B4 le.cells 101 := by
        rw [hVd]
        exact ((((((K4.out.set 0 _).set 1 _).set 2 _).other (a := ⟨B5, 0, none⟩) n45 _).other (a := ⟨B5, 1, none⟩) n45 _).other (a := ⟨B5, 2, none⟩) n45 _).drew
      have hb5 : Blk V B5 mo.cells 101 := by
        rw [hVd]
        exact ((((((K5.out.other (a := ⟨B4, 0, none⟩) n54 _).other (a := ⟨B4, 1, none⟩) n54 _).other (a := ⟨B4, 2, none⟩) n54 _).set 0 _).set 1 _).set 2 _).drew
      have HB4 := Aw.mk hb4
      have HB5 := Aw.mk hb5
      have HCV := Aw.mk hcV
      clear hVd hcV hb4 hb5
      dsimp only [Exit.then]
      go_wp2_with fail
      have hDd := HD.out
      have hDV : V.heap[D]? = some (.deferred (some [])) := (HCV.out.block D (Array.getElem?_eq_some_iff.1 HDW.out).1 (by omega)).trans HDW.out
      have hpo : Chg (fun k => k = D) V (V.putObj D (.deferred none)) := (Chg.refl (fun k => k = D) V).putObj (.inl rfl) _
      refine postM_ret rfl hDV (results60 rfl rfl (HB4.out.putOther hDV _) (HB5.out.putOther hDV _)) ⟨by rw [← HST.out], ?_, (HK2.out.chg HCV.out (by omega)).chg hpo (by omega)⟩
      have h1 : Chg (fun k => k = m) w wd := Chg.below HBD.out _
      have h2 := h1.trans (HCH.out.mono fun k _ e => by rcases e with (e | e | e) | e; exact .inr (by omega); exact .inr (by omega); exact .inr (by omega); exact .inl e)
      have h3 := h2.trans (HCV.out.mono fun k _ e => by rcases e with e | e; exact .inr (by omega); exact .inr (by omega))
      exact h3.putObj (.inr (by omega)) _
  case hstop => exact fun D c W hD hr hj => hj.p.elim
end Go.Proofs.Ytdagijgoegkphaa.Hand

namespace Go.Proofs.Ytdagijgoegkphaa.Hand
open Go.RowKit Go.Shelf
attribute [local go_sem] field470 field471
set_option maxHeartbeats 4000000 in
set_option maxRecDepth 10000 in
theorem both_region (A2 : Option Addr) (c2 : Nat) (ps : List Sg) (le mo : Rt) (B6 B10 B11 : Nat) (L L2 H1 H : Int) (a0 : Act) (w0 : World) (Q : Exit → Act → World → Prop) (hsz : a0.tmps.size = 38) (hdf : a0.defers = [])
    (hl : ∀ W, Sg.At W A2 ps → Calls Try.prog 61 #[.slice A2 ps.length c2, .agg #[.int .i64 le.r0, .int .i64 le.r1, .int .i64 le.r2]] W fun e w' => e = .returned (.agg #[.int .i64 L, .int .i64 L2]) ∧ Below W.heap.size W w')
    (hm : ∀ W, Sg.At W A2 ps → Calls Try.prog 61 #[.slice A2 ps.length c2, .agg #[.int .i64 mo.r0, .int .i64 mo.r1, .int .i64 mo.r2]] W fun e w' => e = .returned (.agg #[.int .i64 H1, .int .i64 H]) ∧ Below W.heap.size W w')
    (f2 : a0.tmps.getD 2 undef = .slice A2 ps.length c2) (f6 : a0.tmps.getD 6 undef = .pointer (some ⟨B6, 0, none⟩)) (f10 : a0.tmps.getD 10 undef = .pointer (some ⟨B10, 0, none⟩)) (f11 : a0.tmps.getD 11 undef = .pointer (some ⟨B11, 0, none⟩))
    (hz : Sg.At w0 A2 ps) (h6 : Blk w0 B6 #[.int .i64 0, .int .i64 0] 47) (h10 : Blk w0 B10 le.cells 101) (h11 : Blk w0 B11 mo.cells 101)
    (hQ : ∀ (a : Act) (W : World), a.defers = [] → a.tmps.size = 38 → a.tmps.getD 6 undef = .pointer (some ⟨B6, 0, none⟩) → a.tmps.getD 7 undef = .int .i64 0 → Chg (fun k => k = B6) w0 W → Blk W B6 #[.int .i64 L, .int .i64 H] 47 → Q .normal a W) :
    (Code.region 5 (opsOf Try.f25 5) true).wpIn Fence.wide 0 Try.prog Q a0 w0 := by
  have HZ := Aw.mk hz
  refine region_walk (rd := none) 9 (fun i => i + 29) (by kernel_rfl) (by kernel_rfl) (by rw [hsz]; kernel_rfl)
    (fun W => Blk W B6 #[.int .i64 0, .int .i64 0] 47 ∧ Blk W B10 le.cells 101 ∧ Blk W B11 mo.cells 101 ∧ Below w0.heap.size w0 W)
    (fun i v W => match i with
      | 0 => v = .slice A2 ps.length c2
      | 1 => v = .agg #[.int .i64 le.r0, .int .i64 le.r1, .int .i64 le.r2]
      | 2 => v = .agg #[.int .i64 L, .int .i64 L2]
      | 3 => v = .int .i64 L
      | 4 => v = .slice A2 ps.length c2
      | 5 => v = .agg #[.int .i64 mo.r0, .int .i64 mo.r1, .int .i64 mo.r2]
      | 6 => v = .agg #[.int .i64 H1, .int .i64 H]
      | 7 => v = .int .i64 H
      | _ => v = .agg #[.int .i64 L, .int .i64 H])
    (fun W W' hb h => ⟨h.1.below hb h.1.lt, h.2.1.below hb h.2.1.lt, h.2.2.1.below hb h.2.2.1.lt, h.2.2.2.trans (hb.mono h.2.2.2.size)⟩) ?hSp ⟨h6.drew, h10.drew, h11.drew, (Below.refl _ _).drew⟩ ?hop ?hlast
  case hSp =>
    intro i v W W' hi hb h
    match i, h with
    | 0, h | 1, h | 2, h | 3, h | 4, h | 5, h | 6, h | 7, h => exact h
    | _ + 8, h => exact h
  case hop =>
    intro i a W hiB hN' hfix hBW hdep
    have f2 : a.tmps.getD 2 undef = .slice A2 ps.length c2 := (hfix 2 (fun j _ => by omega)).trans f2
    have f10 : a.tmps.getD 10 undef = .pointer (some ⟨B10, 0, none⟩) := (hfix 10 (fun j _ => by omega)).trans f10
    have f11 : a.tmps.getD 11 undef = .pointer (some ⟨B11, 0, none⟩) := (hfix 11 (fun j _ => by omega)).trans f11
    have e0 : ∀ x, a.eval (.tmp x) = a.tmps.getD x undef := fun _ => rfl
    have g0 : W.cell? ⟨B10, 0, none⟩ = some (.int .i64 le.r0) := hBW.2.1.cell 0
    have g1 : W.cell? ⟨B10, 1, none⟩ = some (.int .i64 le.r1) := hBW.2.1.cell 1
    have g2 : W.cell? ⟨B10, 2, none⟩ = some (.int .i64 le.r2) := hBW.2.1.cell 2
    have g3 : W.cell? ⟨B11, 0, none⟩ = some (.int .i64 mo.r0) := hBW.2.2.1.cell 0
    have g4 : W.cell? ⟨B11, 1, none⟩ = some (.int .i64 mo.r1) := hBW.2.2.1.cell 1
    have g5 : W.cell? ⟨B11, 2, none⟩ = some (.int .i64 mo.r2) := hBW.2.2.1.cell 2
    have hB0 := hBW.2.2.2
    clear hQ hBW
    match i, hN', hiB, hdep with
    | 0, _, _, hdep =>
      refine OpOk.val (v := .slice A2 ps.length c2) (w' := W) ?_ ⟨Below.refl _ _, rfl⟩
      show (execOp a.eval { dst := some 29, op := Op.move (.tmp 2), type := _, pos := _, after := _, guard := none }).run Try.prog W = _
      simp only [execOp, List.map_toArray, List.map_cons, List.map_nil, e0, f2]
      go_simp
    | 1, _, _, hdep =>
      refine OpOk.val (v := .agg #[.int .i64 le.r0, .int .i64 le.r1, .int .i64 le.r2]) (w' := W) ?_ ⟨Below.refl _ _, rfl⟩
      show (execOp a.eval { dst := some 30, op := Op.load 101 (.tmp 10), type := _, pos := _, after := _, guard := none }).run Try.prog W = _
      simp only [execOp, List.map_toArray, List.map_cons, List.map_nil, e0, f10]
      go_simp
    | 2, _, _, hdep =>
      have d29 : a.tmps.getD 29 undef = .slice A2 ps.length c2 := hdep 0 rfl
      have d30 : a.tmps.getD 30 undef = .agg #[.int .i64 le.r0, .int .i64 le.r1, .int .i64 le.r2] := hdep 1 rfl
      refine OpOk.call (f := 61) (args := #[.slice A2 ps.length c2, .agg #[.int .i64 le.r0, .int .i64 le.r1, .int .i64 le.r2]]) (w1 := W) ?_ ((hl W (HZ.out.below hB0)).mono ?_)
      · show (execOp a.eval { dst := some 31, op := Op.call { callee := .value (.func 61), args := #[(.tmp 29), (.tmp 30)], argTypes := #[50, 101] }, type := _, pos := _, after := _, guard := none }).run Try.prog W = _
        have e61 : ∀ args w, (callFunc 61 args).run Try.prog w = .ok (.enter 61 args) w := enters_of Try.func61 (by kernel_rfl) rfl
        simp only [execOp, List.map_toArray, List.map_cons, List.map_nil, e0, d29, d30]
        go_simp
      · rintro e w' ⟨rfl, hb⟩
        exact ⟨_, rfl, hb, rfl⟩
    | 3, _, _, hdep =>
      have d31 : a.tmps.getD 31 undef = .agg #[.int .i64 L, .int .i64 L2] := hdep 2 rfl
      refine OpOk.val (v := .int .i64 L) (w' := W) ?_ ⟨Below.refl _ _, rfl⟩
      show (execOp a.eval { dst := some 32, op := Op.field 47 (.tmp 31) 0, type := _, pos := _, after := _, guard := none }).run Try.prog W = _
      simp only [execOp, List.map_toArray, List.map_cons, List.map_nil, e0, d31]
      go_simp
    | 4, _, _, hdep =>
      refine OpOk.val (v := .slice A2 ps.length c2) (w' := W) ?_ ⟨Below.refl _ _, rfl⟩
      show (execOp a.eval { dst := some 33, op := Op.move (.tmp 2), type := _, pos := _, after := _, guard := none }).run Try.prog W = _
      simp only [execOp, List.map_toArray, List.map_cons, List.map_nil, e0, f2]
      go_simp
    | 5, _, _, hdep =>
      refine OpOk.val (v := .agg #[.int .i64 mo.r0, .int .i64 mo.r1, .int .i64 mo.r2]) (w' := W) ?_ ⟨Below.refl _ _, rfl⟩
      show (execOp a.eval { dst := some 34, op := Op.load 101 (.tmp 11), type := _, pos := _, after := _, guard := none }).run Try.prog W = _
      simp only [execOp, List.map_toArray, List.map_cons, List.map_nil, e0, f11]
      go_simp
    | 6, _, _, hdep =>
      have d33 : a.tmps.getD 33 undef = .slice A2 ps.length c2 := hdep 4 rfl
      have d34 : a.tmps.getD 34 undef = .agg #[.int .i64 mo.r0, .int .i64 mo.r1, .int .i64 mo.r2] := hdep 5 rfl
      refine OpOk.call (f := 61) (args := #[.slice A2 ps.length c2, .agg #[.int .i64 mo.r0, .int .i64 mo.r1, .int .i64 mo.r2]]) (w1 := W) ?_ ((hm W (HZ.out.below hB0)).mono ?_)
      · show (execOp a.eval { dst := some 35, op := Op.call { callee := .value (.func 61), args := #[(.tmp 33), (.tmp 34)], argTypes := #[50, 101] }, type := _, pos := _, after := _, guard := none }).run Try.prog W = _
        have e61 : ∀ args w, (callFunc 61 args).run Try.prog w = .ok (.enter 61 args) w := enters_of Try.func61 (by kernel_rfl) rfl
        simp only [execOp, List.map_toArray, List.map_cons, List.map_nil, e0, d33, d34]
        go_simp
      · rintro e w' ⟨rfl, hb⟩
        exact ⟨_, rfl, hb, rfl⟩
    | 7, _, _, hdep =>
      have d35 : a.tmps.getD 35 undef = .agg #[.int .i64 H1, .int .i64 H] := hdep 6 rfl
      refine OpOk.val (v := .int .i64 H) (w' := W) ?_ ⟨Below.refl _ _, rfl⟩
      show (execOp a.eval { dst := some 36, op := Op.field 47 (.tmp 35) 1, type := _, pos := _, after := _, guard := none }).run Try.prog W = _
      simp only [execOp, List.map_toArray, List.map_cons, List.map_nil, e0, d35]
      go_simp
    | 8, _, _, hdep =>
      have d32 : a.tmps.getD 32 undef = .int .i64 L := hdep 3 rfl
      have d36 : a.tmps.getD 36 undef = .int .i64 H := hdep 7 rfl
      refine OpOk.val (v := .agg #[.int .i64 L, .int .i64 H]) (w' := W) ?_ ⟨Below.refl _ _, rfl⟩
      show (execOp a.eval { dst := some 37, op := Op.build 47 #[(0, (.tmp 32)), (1, (.tmp 36))], type := _, pos := _, after := _, guard := none }).run Try.prog W = _
      simp only [execOp, List.map_toArray, List.map_cons, List.map_nil, e0, d32, d36]
      go_simp
      all_goals (first | rfl | assumption | exact Go.IntWalk.i64_left _ | exact rfl)
    | kk + 9, h, _, _ => exact absurd h (by omega)
  case hlast =>
    intro a W e1 e2 hfix hBW hall
    have f6 : a.tmps.getD 6 undef = .pointer (some ⟨B6, 0, none⟩) := (hfix 6 (fun j _ => by omega)).trans f6
    have d37 : a.tmps.getD 37 undef = .agg #[.int .i64 L, .int .i64 H] := hall 8 (by omega)
    have e0 : ∀ x, a.eval (.tmp x) = a.tmps.getD x undef := fun _ => rfl
    have g0 : W.cell? ⟨B6, 0, none⟩ = some (.int .i64 0) := hBW.1.cell 0
    have g1 : W.cell? ⟨B6, 1, none⟩ = some (.int .i64 0) := hBW.1.cell 1
    have z0 : W.frozen? ⟨B6, 0, none⟩ = false := hBW.1.frozen 0
    have z1 : W.frozen? ⟨B6, 1, none⟩ = false := hBW.1.frozen 1
    refine OpOk.skip (w' := ((W.setCell ⟨B6, 0, none⟩ (.int .i64 L)).setCell ⟨B6, 1, none⟩ (.int .i64 H))) ?_ ?_
    · show (execOp a.eval { dst := none, op := Op.store 47 (.tmp 6) (.tmp 37), type := _, pos := _, after := _, guard := none }).run Try.prog W = _
      simp only [execOp, e0, f6, d37]
      go_simp
    · refine OpOk.val (v := .int .i64 0) (w' := ((W.setCell ⟨B6, 0, none⟩ (.int .i64 L)).setCell ⟨B6, 1, none⟩ (.int .i64 H))) ?_ ?_
      · show (execOp (a.put none undef).eval { dst := some 7, op := Op.assign (.const (.int .i64 0)), type := _, pos := _, after := _, guard := none }).run Try.prog _ = _
        simp only [execOp]
        go_simp
      · refine hQ _ _ (e1.trans hdf) ?_ ?_ ?_ (((Chg.below hBW.2.2.2 (fun k => k = B6)).setCell (.inl rfl) _).setCell (.inl rfl) _) ((hBW.1.set 0 _).set 1 _)
        · show (a.tmps.setIfInBounds 7 _).size = 38
          simp [e2, hsz]
        · show (a.tmps.setIfInBounds 7 _).getD 6 undef = _
          rw [getD_put _ _ _ _ (by rw [e2, hsz]; omega), if_neg (by decide)]; exact f6
        · show (a.tmps.setIfInBounds 7 _).getD 7 undef = _
          rw [getD_put _ _ _ _ (by rw [e2, hsz]; omega), if_pos rfl]
theorem results25 {tmps : Array Value} {W : World} {g : Nat} {x0 x1 y : Value} (hp : tmps.getD 6 undef = .pointer (some ⟨g, 0, none⟩)) (hy : tmps.getD 7 undef = y) (h : Blk W g #[x0, x1] 47) :
    (results Try.f25 tmps).run Try.prog W = .ok (.tuple #[.agg #[x0, x1], y]) W := by
  have c0 : W.cell? ⟨g, 0, none⟩ = some x0 := h.cell 0
  have c1 : W.cell? ⟨g, 1, none⟩ = some x1 := h.cell 1
  have e : Try.f25.results = #[.cell 6 47, .tmp 7] := rfl
  have hp' : tmps[6]?.getD undef = .pointer (some ⟨g, 0, none⟩) := by simpa using hp
  have hy' : tmps[7]?.getD undef = y := by simpa using hy
  unfold results
  simp only [e]
  go_simp
def stretchV (ms : List Rg) (rs : List Rn) (ps : List Sg) : Int × Int × Int :=
  if planErr ms rs ps = 0 then (stLo (endsA ps (good ms rs)).1 ps, stHi (endsA ps (good ms rs)).2.1 ps, 0) else (0, 0, planErr ms rs ps)
theorem plan_ok {ms : List Rg} {rs : List Rn} {ps : List Sg} (h : planErr ms rs ps = 0) : enterErr ms rs = 0 ∧ good ms rs ≠ [] ∧ ps.length ≤ 8 ∧ (∀ s ∈ ps, s.ok) ∧ ps.all (segB ms.length) = true := by
  unfold planErr at h
  split at h
  · rename_i hp
    split at h
    · rename_i hs
      unfold possErr at hp
      split at hp
      · rename_i he
        split at hp
        · cases hp
        · rename_i hg
          exact ⟨he, hg, hs.1, fun s hm => segB_ok (enter_ok he).1.2 (List.all_eq_true.1 hs.2 s hm), hs.2⟩
      · contradiction
    · cases h
  · contradiction
theorem endsA_ok {ms : List Rg} {rs : List Rn} (hv : ∀ m ∈ ms, 0 ≤ m.lo ∧ m.hi ≤ 1000) (ps : List Sg) : (endsA ps (good ms rs)).1.ok ∧ (endsA ps (good ms rs)).2.1.ok := by
  have key : ∀ (l : List Rt) (s : Rt × Rt × Bool), (∀ r ∈ l, r.ok) → s.1.ok → s.2.1.ok → (l.foldl (endStep ps) s).1.ok ∧ (l.foldl (endStep ps) s).2.1.ok := by
    intro l
    induction l with
    | nil => exact fun s _ h1 h2 => ⟨h1, h2⟩
    | cons r l ih =>
      intro s hl h1 h2
      have h3 := endStep_ok (ps := ps) h1 h2 (hl r (by simp))
      exact ih _ (fun r' hr' => hl r' (by simp [hr'])) h3.1 h3.2
  exact key _ _ (fun r hr => lists_ok hv r (List.mem_filter.1 hr).1) zero_ok zero_ok
set_option maxHeartbeats 8000000 in
set_option maxRecDepth 10000 in
theorem Stretch_any (A : Option Addr) (c : Nat) (ms : List Rg) (AR : Option Addr) (cR : Nat) (rs : List Rn) (A2 : Option Addr) (c2 : Nat) (ps : List Sg) (w : World) (hz : Rg.At w A ms) (hr : RunsAt w AR rs) (hp : Sg.At w A2 ps) (hbig : ms.length ≤ 9223372036854775807) (hbig2 : rs.length ≤ 9223372036854775807) (hbig3 : ps.length ≤ 9223372036854775807) :
    Calls Try.prog 25 #[.agg #[.slice A ms.length c], .slice AR rs.length cR, .slice A2 ps.length c2] w fun e w' => e = .returned (.tuple #[.agg #[.int .i64 (stretchV ms rs ps).1, .int .i64 (stretchV ms rs ps).2.1], .int .i64 (stretchV ms rs ps).2.2]) ∧ Below w.heap.size w w' := by
  obtain ⟨w1, hw1⟩ : ∃ w1, w1 = (w.alloc (.cells #[.slice A ms.length c] 39)).alloc (.cells #[.int .i64 0, .int .i64 0] 47) := ⟨_, rfl⟩
  obtain ⟨B6, hB6⟩ : ∃ B6, B6 = w.heap.size + 1 := ⟨_, rfl⟩
  have hbel : Below w.heap.size w w1 := by rw [hw1]; exact ((Below.refl w.heap.size w).alloc (Nat.le_refl _) _).alloc (by simp) _
  have h6 : Blk w1 B6 #[.int .i64 0, .int .i64 0] 47 := by
    have := Blk.new (w.alloc (.cells #[.slice A ms.length c] 39)) #[.int .i64 0, .int .i64 0] 47
    rw [hw1, hB6]; simpa using this
  have hpl := planned_any A c ms AR cR rs A2 c2 ps w1 (hz.below hbel) (hr.below hbel) (hp.below hbel) hbig hbig2 hbig3
  have HB := Aw.mk hbel
  have H6 := Aw.mk h6
  have HB6 := Aw.mk hB6
  have HZ := Aw.mk hz
  have HR := Aw.mk hr
  have HP := Aw.mk hp
  have HW := Aw.mk hw1
  have HPL := Aw.mk hpl
  have HPV : Aw (stretchV ms rs ps = if planErr ms rs ps = 0 then (stLo (endsA ps (good ms rs)).1 ps, stHi (endsA ps (good ms rs)).2.1 ps, 0) else (0, 0, planErr ms rs ps)) := ⟨rfl⟩
  rw [hw1] at HPL
  clear hz hr hp hbel h6 hpl hw1 hB6
  go_enter Try.func25, Try.ntmps25
  go_wp2_with fail
  rw [← HB6.out]
  refine HPL.out.mono ?_
  rw [← HW.out]
  rintro e w2 ⟨p, rfl, hb2, hp⟩
  have h62 := H6.out.below hb2 H6.out.lt
  have HBB2 := Aw.mk (HB.out.trans (hb2.mono HB.out.size))
  have d0 : w2.cell? ⟨B6, 0, none⟩ = some (.int .i64 0) := h62.cell 0
  have d1 : w2.cell? ⟨B6, 1, none⟩ = some (.int .i64 0) := h62.cell 1
  have z0 : w2.frozen? ⟨B6, 0, none⟩ = false := h62.frozen 0
  have z1 : w2.frozen? ⟨B6, 1, none⟩ = false := h62.frozen 1
  have l6 := h62.lt
  have H62 := Aw.mk h62
  rcases hp with ⟨rfl, hne⟩ | ⟨x, m, rfl, h0, hx, hm, hroom, hkn⟩
  · have hne' : (planErr ms rs ps != 0) = true := by simp [hne]
    have HV := Aw.mk (show stretchV ms rs ps = (0, 0, planErr ms rs ps) by rw [HPV.out, if_neg hne])
    clear HPV
    generalize planErr ms rs ps = er at *
    clear hne hb2 HPL h62
    go_wp2_with fail
    refine bodyPost_ret (results25 rfl rfl ((H62.out.set 0 (.int .i64 0)).set 1 (.int .i64 0))) rfl ⟨by rw [HV.out]; rfl, ?_⟩
    exact ((HBB2.out.setCell (p := ⟨B6, 0, none⟩) (by have := HB6.out; show _ ≤ B6; omega) _).setCell (p := ⟨B6, 1, none⟩) (by have := HB6.out; show _ ≤ B6; omega) _)
  · rw [h0]
    have hok := plan_ok h0
    have hI : Inp A c ms AR cR rs w := enter_inp hok.1 HZ.out HR.out
    have hri := hroom.older HB.out
    have HV := Aw.mk (show stretchV ms rs ps = (stLo (endsA ps (good ms rs)).1 ps, stHi (endsA ps (good ms rs)).2.1 ps, 0) by rw [HPV.out, if_pos h0])
    have HEN := Aw.mk (ends_any w A c ms AR cR rs hI x m w2 (Nat.le_trans HB.out.size hx) (Nat.le_trans HB.out.size hm) hri hkn A2 c2 ps HP.out hok.2.2.1 hok.2.2.2.1)
    have HEO := Aw.mk (endsA_ok (rs := rs) hI.rates ps)
    have HOK := Aw.mk hok
    have HXM := Aw.mk (show w1.heap.size ≤ x ∧ w1.heap.size ≤ m from ⟨hx, hm⟩)
    have HM6 := Aw.mk (show B6 ≠ m from by obtain ⟨es, clock, q1, _⟩ := hkn; exact not_map q1 H62.out)
    have HP2 := Aw.mk ((HP.out.below HBB2.out))
    clear hroom hkn hx hm h0 hb2 HPL h62 HPV hok hI hri
    go_wp2_with fail
    refine HEN.out.mono ?_
    rintro e w3 ⟨rfl, hc3, hk3⟩
    obtain ⟨st, hst⟩ : ∃ st, st = endsA ps (good ms rs) := ⟨_, rfl⟩
    rw [← hst]
    rw [← hst] at HV HEO
    obtain ⟨le, mo, fs⟩ := st
    dsimp only at HV HEO ⊢
    have h63 := H62.out.chg hc3 HM6.out
    have l63 := h63.lt
    have HH63 := Aw.mk h63
    have HC3 := Aw.mk hc3
    have hz3 : Sg.At w3 A2 ps := by
      have hk : Keep (fun k => k < w.heap.size) w w3 := (show Keep (fun k => k < w.heap.size) w w2 from ⟨HBB2.out.size, fun k hk _ => HBB2.out.block k hk⟩).trans (hc3.keep fun k hk _ e => by have := HXM.out; have := HB.out.size; omega)
      exact HP.out.stays (stays_keep hk)
    have HZ3 := Aw.mk hz3
    clear hst hc3 hk3 HEN h63 hz3 d0 d1 z0 z1 l6
    unfold Rt.enc Rt.cells
    go_wp2_with fail
    obtain ⟨w4, hw4⟩ : ∃ w4, w4 = (w3.alloc (.cells le.cells 101)).alloc (.cells mo.cells 101) := ⟨_, rfl⟩
    have hb4 : Below w3.heap.size w3 w4 := by rw [hw4]; exact ((Below.refl _ _).alloc (Nat.le_refl _) _).alloc (by simp) _
    have h10 : Blk w4 w3.heap.size le.cells 101 := by rw [hw4]; exact (Blk.new _ _ _).alloc _
    have h11 : Blk w4 (w3.heap.size + 1) mo.cells 101 := by
      have := Blk.new (w3.alloc (.cells le.cells 101)) mo.cells 101
      rw [hw4]; simpa using this
    rw [show (w3.alloc (.cells #[.int .i64 le.r0, .int .i64 le.r1, .int .i64 le.r2] 101)).alloc (.cells #[.int .i64 mo.r0, .int .i64 mo.r1, .int .i64 mo.r2] 101) = w4 from hw4.symm]
    refine wpIn_wide.1 (both_region A2 c2 ps le mo B6 w3.heap.size (w3.heap.size + 1) (stLo le ps) (stHi le ps) (stLo mo ps) (stHi mo ps) _ w4 _ rfl rfl (fun W h => stretch_any A2 c2 ps le W h HOK.out.2.2.1 HOK.out.2.2.2.1 HEO.out.1) (fun W h => stretch_any A2 c2 ps mo W h HOK.out.2.2.1 HOK.out.2.2.2.1 HEO.out.2) rfl rfl rfl rfl (HZ3.out.below hb4) (HH63.out.below hb4 HH63.out.lt) h10 h11 ?_)
    intro a W hd hsz p6 p7 hcW hb6
    have q6 : slot a 6 = .pointer (some ⟨B6, 0, none⟩) := p6
    have q7 : slot a 7 = .int .i64 0 := p7
    have hcw : Below w.heap.size w W := (((Chg.below HBB2.out (fun k => k = B6 ∨ k = m)).trans (HC3.out.mono fun k _ e => .inl (.inr e))).andBelow hb4 |>.trans (hcW.mono fun k _ e => .inl (.inl e))).toBelow (Nat.le_refl _) (fun k e => by have := HXM.out; have := HB.out.size; have := HB6.out; omega)
    have HCW := Aw.mk hcw
    have HH6 := Aw.mk hb6
    rw [frame_lit' a 38 hsz, hd]
    simp only [List.range, List.range.loop, List.map_cons, List.map_nil, q6, q7]
    clear hd hsz p6 p7 q6 q7 hcW hb6 hcw hw4 hb4 h10 h11
    generalize a = a'
    dsimp only [Exit.then]
    go_wp2_with fail
    refine bodyPost_ret (results25 rfl rfl HH6.out) rfl ⟨by rw [HV.out]; rfl, HCW.out⟩
end Go.Proofs.Ytdagijgoegkphaa.Hand

namespace Go.Proofs.Ytdagijgoegkphaa.Hand
open Go.RowKit Go.Shelf
def ivs (l : List Int) : List Value := l.map fun x => .int .i64 x
def ClonePost (l : List Int) (w : World) (e : Ending) (w' : World) : Prop :=
  ∃ v, e = .returned v ∧ w'.ownsRow w.heap.size 3 1 v l.length (ivs l) ∧ Below w.heap.size w w'
theorem own_none3 (w : World) : (w.alloc (.cells #[] 3)).ownsRow w.heap.size 3 1 (.slice (some ⟨w.heap.size, 0, none⟩) 0 0) 0 [] :=
  ⟨rfl, .inr ⟨w.heap.size, 0, #[], rfl, Nat.le_refl _, Blk.new w #[] 3, Nat.le_refl _, by decide, rfl, rfl⟩⟩
theorem addr_add (b off j : Nat) : (⟨b, off, none⟩ : Addr).add j = ⟨b, off + j, none⟩ := by
  unfold Addr.add
  split
  · rename_i hz; rw [hz, Nat.add_zero]
  · rfl
set_option maxHeartbeats 2000000 in
set_option maxRecDepth 100000 in
theorem clone_any (l : List Int) (hl : l.length ≤ 1000) (b off c : Nat) (w : World) (hlt : b < w.heap.size) (hat : Nm.At w (some ⟨b, off, none⟩) (l.map Nm.mk)) : Calls Try.prog 65 #[.slice (some ⟨b, off, none⟩) l.length c] w (ClonePost l w) := by
  have HN := Aw.mk (show ∀ (j : Nat) (u : Value), (ivs l)[j]? = some u → (w.alloc (.cells #[] 3)).cell? ((⟨b, off, none⟩ : Addr).add j) = some u from fun j u hj => by
    have hjl : j < l.length := by
      rcases Nat.lt_or_ge j l.length with h | h
      · exact h
      · unfold ivs at hj; rw [List.getElem?_eq_none (by simpa using h)] at hj; cases hj
    obtain ⟨b', off', e1, _, h0⟩ := hat j (by simpa using hjl)
    cases e1
    rw [addr_add]
    have hu : u = .int .i64 l[j] := by
      unfold ivs at hj
      rw [List.getElem?_map, List.getElem?_eq_getElem hjl] at hj
      exact (Option.some.inj hj).symm
    rw [hu]
    have h1 : (w.alloc (.cells #[] 3)).cell? ⟨b, off + j, none⟩ = w.cell? ⟨b, off + j, none⟩ := World.cell?_of_block (w := w) (Below.heap_alloc w _ b hlt)
    rw [h1, h0]
    simp)
  have HO := Aw.mk (own_none3 w)
  have HR := Aw.mk ((Below.refl w.heap.size w).alloc (Nat.le_refl _) (.cells #[] 3))
  have hz : (w.alloc (.cells #[] 3)).heap.size = w.heap.size + 1 := World.size_alloc ..
  have HZ := Aw.mk hz
  have HU := Aw.mk (show ∀ u ∈ ivs l, u.oneCell' = true from fun u hu => by unfold ivs at hu; obtain ⟨x, _, rfl⟩ := List.mem_map.1 hu; rfl)
  have HLN := Aw.mk (show (ivs l).length = l.length * 1 by simp [ivs])
  clear hat hz
  obtain ⟨i0, hi, hz0, hz1, hz2⟩ := info_parts infoI3
  have hn := fun W => Lib.run_eql_slice_nil (P := Try.prog) W 31 3 (some ⟨b, off, none⟩) l.length c 0 0 Try.underlying31
  obtain ⟨n, hnn⟩ : ∃ n, n = l.length := ⟨_, rfl⟩
  rw [← hnn] at hn hl HLN ⊢
  have HNN := Aw.mk hnn
  clear hnn
  go_enter Try.func65, Try.ntmps65
  go_wp2_with (at_builtin; refine wpList_append_own _ rfl (.tmp 5) (.tmp 6) 31 rfl w.heap.size 3 i0 (.int .i64 0) 1 8 Try.underlying31 hi hz0 hz1 hz2 rfl (by decide) _ 0 [] rfl HO.out ⟨b, off, none⟩ n c (ivs l) rfl HLN.out HN.out HU.out (by simp only [maxLen]; omega) (by omega) (by rw [HZ.out]; omega) ?_; intro v' w1 hown1 hgrow1 hnil1; have HO1 := Aw.mk hown1; have HG1 := Aw.mk hgrow1; clear hown1 hgrow1 hnil1)
  go_ret
  refine ⟨v', rfl, ?_, HR.out.grown HG1.out HR.out.size (fun k e => by cases e; exact Nat.le_refl _)⟩
  have := HO1.out
  rw [Nat.zero_add, List.nil_append, HNN.out] at this
  exact this
theorem clone_nil (w : World) : Calls Try.prog 65 #[.slice none 0 0] w (ClonePost [] w) := by
  have hn := fun W => Lib.run_eql_slice_nil (P := Try.prog) W 31 3 none 0 0 0 0 Try.underlying31
  go_enter Try.func65, Try.ntmps65
  go_wp2
  go_ret
  exact ⟨_, rfl, World.ownsRow_nil _ _ _ _, Below.refl _ _⟩
end Go.Proofs.Ytdagijgoegkphaa.Hand

namespace Go.Proofs.Ytdagijgoegkphaa.Hand
open Go.RowKit Go.Shelf
def Rt.list (r : Rt) (n : Nat) : List Int := [r.r0, r.r1, r.r2].take n
def showsV (ms : List Rg) (rs : List Rn) (ps : List Sg) (high : Bool) : List Int × Int :=
  if planErr ms rs ps = 0 then ((if high then (endsA ps (good ms rs)).2.1 else (endsA ps (good ms rs)).1).list ms.length, 0) else ([], planErr ms rs ps)
def ShowsPost (l : List Int) (er : Int) (w : World) (e : Ending) (w' : World) : Prop :=
  ∃ v, e = .returned (.tuple #[v, .int .i64 er]) ∧ w'.ownsRow w.heap.size 3 1 v l.length (ivs l) ∧ Below w.heap.size w w'
theorem Blk.rtAt {w : World} {b : Nat} {r : Rt} (h : Blk w b r.cells 101) (n : Nat) : Nm.At w (some ⟨b, 0, none⟩) ((r.list n).map Nm.mk) := by
  intro i hi
  have hi3 : i < 3 := by simp [Rt.list] at hi; omega
  refine ⟨b, 0, rfl, h.lt, ?_⟩
  rw [Nat.zero_add, h.cell i, Rt.cells_get r i hi3]
  have e : (((r.list n).map Nm.mk)[i]).n = r.get i := by
    simp only [List.getElem_map, Rt.list, List.getElem_take]
    match i, hi3 with
    | 0, _ => rfl
    | 1, _ => rfl
    | 2, _ => rfl
  rw [e]
theorem ownsRow_older {W : World} {b1 b0 : Nat} {e : TypeId} {size n : Nat} {v : Value} {xs : List Value} (h : W.ownsRow b1 e size v n xs) (hb : b0 ≤ b1) : W.ownsRow b0 e size v n xs := by
  obtain ⟨h1, h2⟩ := h
  refine ⟨h1, h2.imp id ?_⟩
  rintro ⟨g, cap, cur, a1, a2, a3⟩
  exact ⟨g, cap, cur, a1, Nat.le_trans hb a2, a3⟩
set_option maxHeartbeats 8000000 in
set_option maxRecDepth 10000 in
theorem Shows_any (A : Option Addr) (c : Nat) (ms : List Rg) (AR : Option Addr) (cR : Nat) (rs : List Rn) (A2 : Option Addr) (c2 : Nat) (ps : List Sg) (high : Bool) (w : World) (hz : Rg.At w A ms) (hr : RunsAt w AR rs) (hp : Sg.At w A2 ps) (hbig : ms.length ≤ 9223372036854775807) (hbig2 : rs.length ≤ 9223372036854775807) (hbig3 : ps.length ≤ 9223372036854775807) :
    Calls Try.prog 35 #[.agg #[.slice A ms.length c], .slice AR rs.length cR, .slice A2 ps.length c2, .bool high] w (ShowsPost (showsV ms rs ps high).1 (showsV ms rs ps high).2 w) := by
  obtain ⟨w1, hw1⟩ : ∃ w1, w1 = w.alloc (.cells #[.slice A ms.length c] 39) := ⟨_, rfl⟩
  have hbel : Below w.heap.size w w1 := by rw [hw1]; exact (Below.refl w.heap.size w).alloc (Nat.le_refl _) _
  have h2 : Blk w1 w.heap.size #[.slice A ms.length c] 39 := by rw [hw1]; exact Blk.new w _ _
  have hpl := planned_any A c ms AR cR rs A2 c2 ps w1 (hz.below hbel) (hr.below hbel) (hp.below hbel) hbig hbig2 hbig3
  have HB := Aw.mk hbel
  have H2 := Aw.mk h2
  have HZ := Aw.mk hz
  have HR := Aw.mk hr
  have HP := Aw.mk hp
  have HW := Aw.mk hw1
  have HPL := Aw.mk hpl
  have HPV : Aw (showsV ms rs ps high = if planErr ms rs ps = 0 then ((if high then (endsA ps (good ms rs)).2.1 else (endsA ps (good ms rs)).1).list ms.length, 0) else ([], planErr ms rs ps)) := ⟨rfl⟩
  rw [hw1] at HPL
  clear hz hr hp hbel h2 hpl hw1
  go_enter Try.func35, Try.ntmps35
  go_wp2_with fail
  refine HPL.out.mono ?_
  rw [← HW.out]
  rintro e w2 ⟨p, rfl, hb2, hp⟩
  have h22 := H2.out.below hb2 H2.out.lt
  have HBB2 := Aw.mk (HB.out.trans (hb2.mono HB.out.size))
  have H22 := Aw.mk h22
  rcases hp with ⟨rfl, hne⟩ | ⟨x, m, rfl, h0, hx, hm, hroom, hkn⟩
  · have hne' : (planErr ms rs ps != 0) = true := by simp [hne]
    have HV := Aw.mk (show showsV ms rs ps high = ([], planErr ms rs ps) by rw [HPV.out, if_neg hne])
    clear HPV
    generalize planErr ms rs ps = er at *
    clear hne hb2 HPL h22
    go_wp2_with fail
    refine bodyPost_ret (results_tmp2 rfl _ _ _) rfl ⟨_, by rw [HV.out]; rfl, by rw [HV.out]; exact World.ownsRow_nil _ _ _ _, HBB2.out⟩
  · rw [h0]
    have hok := plan_ok h0
    have hI : Inp A c ms AR cR rs w := enter_inp hok.1 HZ.out HR.out
    have hri := hroom.older HB.out
    have HV := Aw.mk (show showsV ms rs ps high = ((if high then (endsA ps (good ms rs)).2.1 else (endsA ps (good ms rs)).1).list ms.length, 0) by rw [HPV.out, if_pos h0])
    have HEN := Aw.mk (ends_any w A c ms AR cR rs hI x m w2 (Nat.le_trans HB.out.size hx) (Nat.le_trans HB.out.size hm) hri hkn A2 c2 ps HP.out hok.2.2.1 hok.2.2.2.1)
    have hn3 := hI.len.2
    have HXM := Aw.mk (show w1.heap.size ≤ x ∧ w1.heap.size ≤ m from ⟨hx, hm⟩)
    have HM2 := Aw.mk (show w.heap.size ≠ m from by have := HB.out.size; have := H2.out.lt; omega)
    clear hroom hkn hx hm h0 hb2 HPL h22 HPV hok hI hri
    go_wp2_with fail
    refine HEN.out.mono ?_
    rintro e w3 ⟨rfl, hc3, hk3⟩
    obtain ⟨st, hst⟩ : ∃ st, st = endsA ps (good ms rs) := ⟨_, rfl⟩
    rw [← hst]
    rw [← hst] at HV
    obtain ⟨le, mo, fs⟩ := st
    dsimp only at HV ⊢
    have h23 := H22.out.chg hc3 HM2.out
    have d0 : w3.cell? ⟨w.heap.size, 0, none⟩ = some (.slice A ms.length c) := h23.cell 0
    have l2 := h23.lt
    have HC3 := Aw.mk (((Chg.below HBB2.out (fun k => k = m)).trans (hc3.mono fun k _ e => .inl e)).toBelow (B := w.heap.size) (Nat.le_refl _) (fun k e => by have := HXM.out; have := HB.out.size; omega))
    obtain ⟨n, hn⟩ : ∃ n, n = ms.length := ⟨_, rfl⟩
    rw [← hn] at d0 hn3 HV
    have hn3z : (n : Int) ≤ 3 := by omega
    clear hst hc3 hk3 HEN h23 hn
    unfold Rt.enc Rt.cells
    have fin : ∀ (r : Rt) (W : World) (c : Nat), Blk W w3.heap.size r.cells 101 → Below w.heap.size w W → w.heap.size ≤ w3.heap.size → Calls Try.prog 65 #[.slice (some ⟨w3.heap.size, 0, none⟩) n c] W fun e w' => ∃ v, e = .returned v ∧ w'.ownsRow w.heap.size 3 1 v (r.list n).length (ivs (r.list n)) ∧ Below w.heap.size w w' := fun r W c hb hbw hs => by
      have hl : (r.list n).length = n := by simp [Rt.list]; omega
      have := clone_any (r.list n) (by omega) w3.heap.size 0 c W hb.lt (hb.rtAt n)
      rw [hl] at this
      refine this.mono ?_
      rintro e w' ⟨v, h1, h2, h3⟩
      exact ⟨v, h1, ownsRow_older h2 hbw.size, hbw.trans (h3.mono hbw.size)⟩
    have FIN := Aw.mk fin
    have HS3 := Aw.mk HC3.out.size
    clear fin
    cases high with
    | true =>
      have HV2 := Aw.mk (show showsV ms rs ps true = (mo.list n, 0) from HV.out)
      go_wp2_with fail
      refine (FIN.out mo _ 3 ((Blk.new w3 mo.cells 101).alloc _) ((HC3.out.alloc HS3.out _).alloc (by simp; have := HS3.out; omega) _) HS3.out).mono ?_
      rintro e w5 ⟨v, rfl, hown, hb5⟩
      have HO := Aw.mk hown
      have HB5 := Aw.mk hb5
      clear hown hb5
      go_wp2_with fail
      refine bodyPost_ret (results_tmp2 rfl _ _ _) rfl ⟨v, by rw [HV2.out]; rfl, by rw [HV2.out]; exact HO.out, HB5.out⟩
    | false =>
      have HV2 := Aw.mk (show showsV ms rs ps false = (le.list n, 0) from HV.out)
      go_wp2_with fail
      refine (FIN.out le _ 3 ((Blk.new w3 le.cells 101).alloc _) ((HC3.out.alloc HS3.out _).alloc (by simp; have := HS3.out; omega) _) HS3.out).mono ?_
      rintro e w5 ⟨v, rfl, hown, hb5⟩
      have HO := Aw.mk hown
      have HB5 := Aw.mk hb5
      clear hown hb5
      go_wp2_with fail
      refine bodyPost_ret (results_tmp2 rfl _ _ _) rfl ⟨v, by rw [HV2.out]; rfl, by rw [HV2.out]; exact HO.out, HB5.out⟩
end Go.Proofs.Ytdagijgoegkphaa.Hand

namespace Go.Proofs.Ytdagijgoegkphaa.Hand
open Go.RowKit Go.Shelf
theorem eq47 (a b x y : Int) (W : World) : (binOp .eql 47 (.agg #[.int .i64 a, .int .i64 b]) (.agg #[.int .i64 x, .int .i64 y])).run Try.prog W = .ok (.bool (a == x && b == y)) W := by
  have h : (Op.equal 47 (.agg #[.int .i64 a, .int .i64 b]) (.agg #[.int .i64 x, .int .i64 y])).run Try.prog W = .ok (a == x && b == y) W := by
    unfold Op.equal Op.maxDepth
    go_simp
    by_cases h1 : a = x
    · by_cases h2 : b = y <;> simp [h1, h2]
    · simp [h1]
  simp only [binOp]
  simp [h]
attribute [local go_sem] eq47
set_option maxHeartbeats 4000000 in
set_option maxRecDepth 10000 in
theorem hours_region (rd : Option Nat) (B6 B7 B15 : Nat) (bd : Nat) (hbd : bd < 3) (r : Rt) (rate stretch : Int) (hrt : r.get bd = rate) (hr : (0 ≤ rate ∧ rate ≤ 1000)) (hs : (0 ≤ stretch ∧ stretch ≤ 10000000000))
    (a0 : Act) (w0 : World) (Q : Exit → Act → World → Prop) (hsz : a0.tmps.size = 63)
    (f6 : a0.tmps.getD 6 undef = .pointer (some ⟨B6, 0, none⟩)) (f7 : a0.tmps.getD 7 undef = .pointer (some ⟨B7, 0, none⟩)) (f15 : a0.tmps.getD 15 undef = .pointer (some ⟨B15, 0, none⟩))
    (h6 : Blk w0 B6 #[.int .i64 (bd : Int)] 3) (h7 : Blk w0 B7 #[.int .i64 stretch] 3) (h15 : Blk w0 B15 r.cells 101)
    (hQ : ∀ (a : Act) (W : World), a.defers = a0.defers → a.tmps.size = 63 → a.tmps.getD 16 undef = .int .i64 (hoursV rate stretch) → (∀ s, s ≠ 16 → (s < 47 ∨ 51 < s) → a.tmps.getD s undef = a0.tmps.getD s undef) → Below w0.heap.size w0 W → Q .normal a W) :
    (Code.region 10 (opsOf Try.f29 10) true).wpIn { Fence.wide with round := rd } 0 Try.prog Q a0 w0 := by
  refine region_walk (rd := rd) 5 (fun i => i + 47) (by kernel_rfl) (by kernel_rfl) (by rw [hsz]; kernel_rfl)
    (fun W => Blk W B6 #[.int .i64 (bd : Int)] 3 ∧ Blk W B7 #[.int .i64 stretch] 3 ∧ Blk W B15 r.cells 101 ∧ Below w0.heap.size w0 W)
    (fun i v W => match i with
      | 0 => v = .int .i64 (bd : Int)
      | 1 => v = .pointer (some ⟨B15, bd, none⟩)
      | 2 => v = .int .i64 rate
      | 3 => v = .int .i64 stretch
      | _ => v = .int .i64 (hoursV rate stretch))
    (fun W W' hb h => ⟨h.1.below hb h.1.lt, h.2.1.below hb h.2.1.lt, h.2.2.1.below hb h.2.2.1.lt, h.2.2.2.trans (hb.mono h.2.2.2.size)⟩) ?hSp ⟨h6.drew, h7.drew, h15.drew, (Below.refl _ _).drew⟩ ?hop ?hlast
  case hSp =>
    intro i v W W' hi hb h
    match i, h with
    | 0, h | 1, h | 2, h | 3, h => exact h
    | _ + 4, h => exact h
  case hop =>
    intro i a W hiB hN' hfix hBW hdep
    have f6 : a.tmps.getD 6 undef = .pointer (some ⟨B6, 0, none⟩) := (hfix 6 (fun j _ => by omega)).trans f6
    have f7 : a.tmps.getD 7 undef = .pointer (some ⟨B7, 0, none⟩) := (hfix 7 (fun j _ => by omega)).trans f7
    have f15 : a.tmps.getD 15 undef = .pointer (some ⟨B15, 0, none⟩) := (hfix 15 (fun j _ => by omega)).trans f15
    have e0 : ∀ x, a.eval (.tmp x) = a.tmps.getD x undef := fun _ => rfl
    have g0 : W.cell? ⟨B6, 0, none⟩ = some (.int .i64 (bd : Int)) := hBW.1.cell 0
    have g1 : W.cell? ⟨B7, 0, none⟩ = some (.int .i64 stretch) := hBW.2.1.cell 0
    have g2 : W.cell? ⟨B15, bd, none⟩ = some (.int .i64 rate) := (hBW.2.2.1.cell bd).trans ((Rt.cells_get r bd hbd).trans (by rw [hrt]))
    have hb3 : (bd : Int) < 3 := by omega
    clear hQ hBW hrt
    match i, hN', hiB, hdep with
    | 0, _, _, hdep =>
      refine OpOk.val (v := .int .i64 (bd : Int)) (w' := W) ?_ ⟨Below.refl _ _, rfl⟩
      show (execOp a.eval { dst := some 47, op := Op.load 3 (.tmp 6), type := _, pos := _, after := _, guard := none }).run Try.prog W = _
      simp only [execOp, List.map_toArray, List.map_cons, List.map_nil, e0, f6]
      go_simp
    | 1, _, _, hdep =>
      have d47 : a.tmps.getD 47 undef = .int .i64 (bd : Int) := hdep 0 rfl
      refine OpOk.val (v := .pointer (some ⟨B15, bd, none⟩)) (w' := W) ?_ ⟨Below.refl _ _, rfl⟩
      show (execOp a.eval { dst := some 48, op := Op.indexAddr 101 (.tmp 15) (.tmp 47), type := _, pos := _, after := _, guard := none }).run Try.prog W = _
      simp only [execOp, List.map_toArray, List.map_cons, List.map_nil, e0, f15, d47]
      go_simp
    | 2, _, _, hdep =>
      have d48 : a.tmps.getD 48 undef = .pointer (some ⟨B15, bd, none⟩) := hdep 1 rfl
      refine OpOk.val (v := .int .i64 rate) (w' := W) ?_ ⟨Below.refl _ _, rfl⟩
      show (execOp a.eval { dst := some 49, op := Op.load 3 (.tmp 48), type := _, pos := _, after := _, guard := none }).run Try.prog W = _
      simp only [execOp, List.map_toArray, List.map_cons, List.map_nil, e0, d48]
      go_simp
    | 3, _, _, hdep =>
      refine OpOk.val (v := .int .i64 stretch) (w' := W) ?_ ⟨Below.refl _ _, rfl⟩
      show (execOp a.eval { dst := some 50, op := Op.load 3 (.tmp 7), type := _, pos := _, after := _, guard := none }).run Try.prog W = _
      simp only [execOp, List.map_toArray, List.map_cons, List.map_nil, e0, f7]
      go_simp
    | 4, _, _, hdep =>
      have d49 : a.tmps.getD 49 undef = .int .i64 rate := hdep 2 rfl
      have d50 : a.tmps.getD 50 undef = .int .i64 stretch := hdep 3 rfl
      refine OpOk.call (f := 72) (args := #[.int .i64 rate, .int .i64 stretch]) (w1 := W) ?_ ((hours_any rate stretch W hr.1 hr.2 hs.1 hs.2).mono ?_)
      · show (execOp a.eval { dst := some 51, op := Op.call { callee := .value (.func 72), args := #[(.tmp 49), (.tmp 50)], argTypes := #[3, 3] }, type := _, pos := _, after := _, guard := none }).run Try.prog W = _
        have e72 : ∀ args w, (callFunc 72 args).run Try.prog w = .ok (.enter 72 args) w := enters_of Try.func72 (by kernel_rfl) rfl
        simp only [execOp, List.map_toArray, List.map_cons, List.map_nil, e0, d49, d50]
        go_simp
      · rintro e w' ⟨rfl, rfl⟩
        exact ⟨_, rfl, Below.refl _ _, rfl⟩
    | kk + 5, h, _, _ => exact absurd h (by omega)
  case hlast =>
    intro a W e1 e2 hfix hBW hall
    have d51 : a.tmps.getD 51 undef = .int .i64 (hoursV rate stretch) := hall 4 (by omega)
    have e0 : ∀ x, a.eval (.tmp x) = a.tmps.getD x undef := fun _ => rfl
    refine OpOk.val (v := .int .i64 (hoursV rate stretch)) (w' := W) ?_ ?_
    · show (execOp a.eval { dst := some 16, op := Op.assign (.tmp 51), type := _, pos := _, after := _, guard := none }).run Try.prog W = _
      simp only [execOp, e0, d51]
      go_simp
    · refine hQ _ _ e1 ?_ ?_ ?_ hBW.2.2.2
      · show (a.tmps.setIfInBounds 16 _).size = 63
        simp [e2, hsz]
      · show (a.tmps.setIfInBounds 16 _).getD 16 undef = _
        rw [getD_put _ _ _ _ (by rw [e2, hsz]; omega), if_pos rfl]
      · intro s h16 hs
        show (a.tmps.setIfInBounds 16 _).getD s undef = _
        rw [getD_put _ _ _ _ (by rw [e2, hsz]; omega), if_neg (fun e => h16 e.symm)]
        exact hfix s (fun j _ => by omega)
set_option maxHeartbeats 4000000 in
set_option maxRecDepth 10000 in
theorem span_region (rd : Option Nat) (B12 B13 : Nat) (x : Rg) (n : Int)
    (a0 : Act) (w0 : World) (Q : Exit → Act → World → Prop) (hsz : a0.tmps.size = 63)
    (f12 : a0.tmps.getD 12 undef = .pointer (some ⟨B12, 0, none⟩)) (f13 : a0.tmps.getD 13 undef = .pointer (some ⟨B13, 0, none⟩)) (f16 : a0.tmps.getD 16 undef = .int .i64 n)
    (h12 : Blk w0 B12 #[.int .i64 (-1), .int .i64 (-1)] 47) (h13 : Blk w0 B13 #[.int .i64 x.lo, .int .i64 x.hi] 47)
    (hQ : ∀ (a : Act) (W : World), a.defers = a0.defers → a.tmps.size = 63 → (∀ s, (s < 54 ∨ 59 < s) → a.tmps.getD s undef = a0.tmps.getD s undef) → Chg (fun k => k = B13) w0 W → Blk W B13 #[.int .i64 (withV x n (x.lo == -1 && x.hi == -1)).lo, .int .i64 (withV x n (x.lo == -1 && x.hi == -1)).hi] 47 → Q .normal a W) :
    (Code.region 13 (opsOf Try.f29 13) true).wpIn { Fence.wide with round := rd } 0 Try.prog Q a0 w0 := by
  refine region_walk (rd := rd) 6 (fun i => i + 54) (by kernel_rfl) (by kernel_rfl) (by rw [hsz]; kernel_rfl)
    (fun W => Blk W B12 #[.int .i64 (-1), .int .i64 (-1)] 47 ∧ Blk W B13 #[.int .i64 x.lo, .int .i64 x.hi] 47 ∧ Below w0.heap.size w0 W)
    (fun i v W => match i with
      | 0 => v = .agg #[.int .i64 x.lo, .int .i64 x.hi]
      | 1 => v = .int .i64 n
      | 2 => v = .agg #[.int .i64 x.lo, .int .i64 x.hi]
      | 3 => v = .agg #[.int .i64 (-1), .int .i64 (-1)]
      | 4 => v = .bool (x.lo == -1 && x.hi == -1)
      | _ => v = .agg #[.int .i64 (withV x n (x.lo == -1 && x.hi == -1)).lo, .int .i64 (withV x n (x.lo == -1 && x.hi == -1)).hi])
    (fun W W' hb h => ⟨h.1.below hb h.1.lt, h.2.1.below hb h.2.1.lt, h.2.2.trans (hb.mono h.2.2.size)⟩) ?hSp ⟨h12.drew, h13.drew, (Below.refl _ _).drew⟩ ?hop ?hlast
  case hSp =>
    intro i v W W' hi hb h
    match i, h with
    | 0, h | 1, h | 2, h | 3, h | 4, h => exact h
    | _ + 5, h => exact h
  case hop =>
    intro i a W hiB hN' hfix hBW hdep
    have f12 : a.tmps.getD 12 undef = .pointer (some ⟨B12, 0, none⟩) := (hfix 12 (fun j _ => by omega)).trans f12
    have f13 : a.tmps.getD 13 undef = .pointer (some ⟨B13, 0, none⟩) := (hfix 13 (fun j _ => by omega)).trans f13
    have f16 : a.tmps.getD 16 undef = .int .i64 n := (hfix 16 (fun j _ => by omega)).trans f16
    have e0 : ∀ x, a.eval (.tmp x) = a.tmps.getD x undef := fun _ => rfl
    have g0 : W.cell? ⟨B12, 0, none⟩ = some (.int .i64 (-1)) := hBW.1.cell 0
    have g1 : W.cell? ⟨B12, 1, none⟩ = some (.int .i64 (-1)) := hBW.1.cell 1
    have g2 : W.cell? ⟨B13, 0, none⟩ = some (.int .i64 x.lo) := hBW.2.1.cell 0
    have g3 : W.cell? ⟨B13, 1, none⟩ = some (.int .i64 x.hi) := hBW.2.1.cell 1
    clear hQ hBW
    match i, hN', hiB, hdep with
    | 0, _, _, hdep =>
      refine OpOk.val (v := .agg #[.int .i64 x.lo, .int .i64 x.hi]) (w' := W) ?_ ⟨Below.refl _ _, rfl⟩
      show (execOp a.eval { dst := some 54, op := Op.load 47 (.tmp 13), type := _, pos := _, after := _, guard := none }).run Try.prog W = _
      simp only [execOp, List.map_toArray, List.map_cons, List.map_nil, e0, f13]
      go_simp
    | 1, _, _, hdep =>
      refine OpOk.val (v := .int .i64 n) (w' := W) ?_ ⟨Below.refl _ _, rfl⟩
      show (execOp a.eval { dst := some 55, op := Op.move (.tmp 16), type := _, pos := _, after := _, guard := none }).run Try.prog W = _
      simp only [execOp, List.map_toArray, List.map_cons, List.map_nil, e0, f16]
      go_simp
    | 2, _, _, hdep =>
      refine OpOk.val (v := .agg #[.int .i64 x.lo, .int .i64 x.hi]) (w' := W) ?_ ⟨Below.refl _ _, rfl⟩
      show (execOp a.eval { dst := some 56, op := Op.load 47 (.tmp 13), type := _, pos := _, after := _, guard := none }).run Try.prog W = _
      simp only [execOp, List.map_toArray, List.map_cons, List.map_nil, e0, f13]
      go_simp
    | 3, _, _, hdep =>
      refine OpOk.val (v := .agg #[.int .i64 (-1), .int .i64 (-1)]) (w' := W) ?_ ⟨Below.refl _ _, rfl⟩
      show (execOp a.eval { dst := some 57, op := Op.load 47 (.tmp 12), type := _, pos := _, after := _, guard := none }).run Try.prog W = _
      simp only [execOp, List.map_toArray, List.map_cons, List.map_nil, e0, f12]
      go_simp
    | 4, _, _, hdep =>
      have d56 : a.tmps.getD 56 undef = .agg #[.int .i64 x.lo, .int .i64 x.hi] := hdep 2 rfl
      have d57 : a.tmps.getD 57 undef = .agg #[.int .i64 (-1), .int .i64 (-1)] := hdep 3 rfl
      refine OpOk.val (v := .bool (x.lo == -1 && x.hi == -1)) (w' := W) ?_ ⟨Below.refl _ _, rfl⟩
      show (execOp a.eval { dst := some 58, op := Op.binOp BinOp.eql 47 (.tmp 56) (.tmp 57) 47, type := _, pos := _, after := _, guard := none }).run Try.prog W = _
      simp only [execOp, List.map_toArray, List.map_cons, List.map_nil, e0, d56, d57]
      go_simp
      all_goals (first | rfl | assumption | exact Go.IntWalk.i64_left _ | exact (by by_cases h1 : x.lo = -1 <;> by_cases h2 : x.hi = -1 <;> simp [h1, h2]))
    | 5, _, _, hdep =>
      have d54 : a.tmps.getD 54 undef = .agg #[.int .i64 x.lo, .int .i64 x.hi] := hdep 0 rfl
      have d55 : a.tmps.getD 55 undef = .int .i64 n := hdep 1 rfl
      have d58 : a.tmps.getD 58 undef = .bool (x.lo == -1 && x.hi == -1) := hdep 4 rfl
      refine OpOk.call (f := 58) (args := #[.agg #[.int .i64 x.lo, .int .i64 x.hi], .int .i64 n, .bool (x.lo == -1 && x.hi == -1)]) (w1 := W) ?_ ((with_any x n (x.lo == -1 && x.hi == -1) W).mono ?_)
      · show (execOp a.eval { dst := some 59, op := Op.call { callee := .value (.func 58), args := #[(.tmp 54), (.tmp 55), (.tmp 58)], argTypes := #[47, 3, 4] }, type := _, pos := _, after := _, guard := none }).run Try.prog W = _
        have e58 : ∀ args w, (callFunc 58 args).run Try.prog w = .ok (.enter 58 args) w := enters_of Try.func58 (by kernel_rfl) rfl
        simp only [execOp, List.map_toArray, List.map_cons, List.map_nil, e0, d54, d55, d58]
        go_simp
      · rintro e w' ⟨rfl, hb⟩
        exact ⟨_, rfl, hb, rfl⟩
    | kk + 6, h, _, _ => exact absurd h (by omega)
  case hlast =>
    intro a W e1 e2 hfix hBW hall
    have f13 : a.tmps.getD 13 undef = .pointer (some ⟨B13, 0, none⟩) := (hfix 13 (fun j _ => by omega)).trans f13
    have d59 : a.tmps.getD 59 undef = .agg #[.int .i64 (withV x n (x.lo == -1 && x.hi == -1)).lo, .int .i64 (withV x n (x.lo == -1 && x.hi == -1)).hi] := hall 5 (by omega)
    have e0 : ∀ x, a.eval (.tmp x) = a.tmps.getD x undef := fun _ => rfl
    have g2 : W.cell? ⟨B13, 0, none⟩ = some (.int .i64 x.lo) := hBW.2.1.cell 0
    have g3 : W.cell? ⟨B13, 1, none⟩ = some (.int .i64 x.hi) := hBW.2.1.cell 1
    have z2 : W.frozen? ⟨B13, 0, none⟩ = false := hBW.2.1.frozen 0
    have z3 : W.frozen? ⟨B13, 1, none⟩ = false := hBW.2.1.frozen 1
    generalize (withV x n (x.lo == -1 && x.hi == -1)) = y at *
    refine OpOk.skip (w' := ((W.setCell ⟨B13, 0, none⟩ (.int .i64 y.lo)).setCell ⟨B13, 1, none⟩ (.int .i64 y.hi))) ?_ ?_
    · show (execOp a.eval { dst := none, op := Op.store 47 (.tmp 13) (.tmp 59), type := _, pos := _, after := _, guard := none }).run Try.prog W = _
      simp only [execOp, e0, f13, d59]
      go_simp
    · exact hQ _ _ e1 (e2.trans hsz) (fun s hs => hfix s (fun j _ => by omega)) (((Chg.below hBW.2.2 (fun k => k = B13)).setCell (.inl rfl) _).setCell (.inl rfl) _) ((hBW.2.1.set 0 _).set 1 _)
end Go.Proofs.Ytdagijgoegkphaa.Hand

namespace Go.Proofs.Ytdagijgoegkphaa.Hand
open Go.RowKit Go.Shelf
attribute [local go_sem] Oper.semAt_some
def lifeStep (bd : Nat) (st : Int) (s : Rg × Bool) (r : Rt) : Rg × Bool := if hoursV (r.get bd) st = -1 then (s.1, true) else (withV s.1 (hoursV (r.get bd) st) (s.1.lo == -1 && s.1.hi == -1), s.2)
def lifeAcc (bd : Nat) (st : Int) (l : List Rt) : Rg × Bool := l.foldl (lifeStep bd st) (⟨-1, -1⟩, false)
theorem lifeAcc_snoc (bd : Nat) (st : Int) (l : List Rt) (r : Rt) : lifeAcc bd st (l ++ [r]) = lifeStep bd st (lifeAcc bd st l) r := by
  unfold lifeAcc
  rw [List.foldl_append, List.foldl_cons, List.foldl_nil]
def lifeV (ms : List Rg) (rs : List Rn) (band stretch : Int) : Int × Int × Int :=
  if possErr ms rs = 0 then
    (if (0 ≤ band ∧ band ≤ (ms.length : Int) - 1) ∧ 0 ≤ stretch ∧ stretch ≤ 10000000000 then
      ((lifeAcc band.toNat stretch (good ms rs)).1.lo, if (lifeAcc band.toNat stretch (good ms rs)).2 = true then -1 else (lifeAcc band.toNat stretch (good ms rs)).1.hi, 0)
     else (0, 0, 2))
  else (0, 0, possErr ms rs)
theorem results29 {tmps : Array Value} {W : World} {g : Nat} {x0 x1 y : Value} (hp : tmps.getD 8 undef = .pointer (some ⟨g, 0, none⟩)) (hy : tmps.getD 9 undef = y) (h : Blk W g #[x0, x1] 47) :
    (results Try.f29 tmps).run Try.prog W = .ok (.tuple #[.agg #[x0, x1], y]) W := by
  have c0 : W.cell? ⟨g, 0, none⟩ = some x0 := h.cell 0
  have c1 : W.cell? ⟨g, 1, none⟩ = some x1 := h.cell 1
  have e : Try.f29.results = #[.cell 8 47, .tmp 9] := rfl
  have hp' : tmps[8]?.getD undef = .pointer (some ⟨g, 0, none⟩) := by simpa using hp
  have hy' : tmps[9]?.getD undef = y := by simpa using hy
  unfold results
  simp only [e]
  go_simp
def LifePost (ms : List Rg) (rs : List Rn) (band stretch : Int) (w : World) (e : Ending) (w' : World) : Prop :=
  e = .returned (.tuple #[.agg #[.int .i64 (lifeV ms rs band stretch).1, .int .i64 (lifeV ms rs band stretch).2.1], .int .i64 (lifeV ms rs band stretch).2.2]) ∧ Below w.heap.size w w'
set_option maxHeartbeats 8000000 in
set_option maxRecDepth 10000 in
theorem Life_any (A : Option Addr) (c : Nat) (ms : List Rg) (AR : Option Addr) (cR : Nat) (rs : List Rn) (band stretch : Int) (w : World) (hz : Rg.At w A ms) (hr : RunsAt w AR rs) (hbig : ms.length ≤ 9223372036854775807) (hbig2 : rs.length ≤ 9223372036854775807) :
    Calls Try.prog 29 #[.agg #[.slice A ms.length c], .slice AR rs.length cR, .int .i64 band, .int .i64 stretch] w (LifePost ms rs band stretch w) := by
  obtain ⟨w1, hw1⟩ : ∃ w1, w1 = (((w.alloc (.cells #[.slice A ms.length c] 39)).alloc (.cells #[.int .i64 band] 3)).alloc (.cells #[.int .i64 stretch] 3)).alloc (.cells #[.int .i64 0, .int .i64 0] 47) := ⟨_, rfl⟩
  obtain ⟨B4, hB4⟩ : ∃ B4, B4 = w.heap.size := ⟨_, rfl⟩
  obtain ⟨B6, hB6⟩ : ∃ B6, B6 = w.heap.size + 1 := ⟨_, rfl⟩
  obtain ⟨B7, hB7⟩ : ∃ B7, B7 = w.heap.size + 1 + 1 := ⟨_, rfl⟩
  obtain ⟨B8, hB8⟩ : ∃ B8, B8 = w.heap.size + 1 + 1 + 1 := ⟨_, rfl⟩
  have hbel : Below w.heap.size w w1 := by rw [hw1]; exact ((((Below.refl w.heap.size w).alloc (Nat.le_refl _) _).alloc (by simp) _).alloc (by simp; omega) _).alloc (by simp; omega) _
  have h4 : Blk w1 B4 #[.slice A ms.length c] 39 := by rw [hw1, hB4]; exact (((Blk.new w _ _).alloc _).alloc _).alloc _
  have h6 : Blk w1 B6 #[.int .i64 band] 3 := by
    have := Blk.new (w.alloc (.cells #[.slice A ms.length c] 39)) #[.int .i64 band] 3
    rw [hw1, hB6]; exact ((by simpa using this : Blk _ (w.heap.size + 1) _ _).alloc _).alloc _
  have h7 : Blk w1 B7 #[.int .i64 stretch] 3 := by
    have := Blk.new ((w.alloc (.cells #[.slice A ms.length c] 39)).alloc (.cells #[.int .i64 band] 3)) #[.int .i64 stretch] 3
    rw [hw1, hB7]; exact (by simpa using this : Blk _ (w.heap.size + 1 + 1) _ _).alloc _
  have h8 : Blk w1 B8 #[.int .i64 0, .int .i64 0] 47 := by
    have := Blk.new (((w.alloc (.cells #[.slice A ms.length c] 39)).alloc (.cells #[.int .i64 band] 3)).alloc (.cells #[.int .i64 stretch] 3)) #[.int .i64 0, .int .i64 0] 47
    rw [hw1, hB8]; simpa using this
  have hsz1 : w1.heap.size = w.heap.size + 4 := by rw [hw1]; simp
  have hpo := possible_any A c ms AR cR rs w1 (hz.below hbel) (hr.below hbel) hbig hbig2
  have HB := Aw.mk hbel
  have H4 := Aw.mk h4
  have H6 := Aw.mk h6
  have H7 := Aw.mk h7
  have H8 := Aw.mk h8
  have HSZ := Aw.mk hsz1
  have HBS := Aw.mk (And.intro hB4 (And.intro hB6 (And.intro hB7 hB8)))
  have HZ := Aw.mk hz
  have HR := Aw.mk hr
  have HW := Aw.mk hw1
  have HPO := Aw.mk hpo
  rw [hw1] at HPO
  clear hz hr hbel h4 h6 h7 h8 hpo hsz1
  refine (callsIn_wide (n := 0)).1 (callsIn_of_wp_marks Try.func29 rfl trivial ((wpIn_wide (n := 0)).2 ?_) rfl)
  simp only [Try.ntmps29, List.size_toArray, List.length_cons, List.length_nil, Nat.reduceAdd, Nat.reduceSub, Array.replicate_succ, Array.replicate_zero, List.push_toArray, List.append_toArray, List.nil_append, List.cons_append]
  clear hw1 hB4 hB6 hB7 hB8
  go_wp2_with fail
  rw [← HBS.out.2.2.2, ← HBS.out.2.2.1, ← HBS.out.2.1, ← HBS.out.1]
  refine HPO.out.mono ?_
  rw [← HW.out]
  rintro e w2 ⟨p, rfl, hb2, hp⟩
  have h42 := H4.out.below hb2 H4.out.lt
  have h62 := H6.out.below hb2 H6.out.lt
  have h72 := H7.out.below hb2 H7.out.lt
  have h82 := H8.out.below hb2 H8.out.lt
  have HBB2 := Aw.mk (HB.out.trans (hb2.mono HB.out.size))
  have HS2 := Aw.mk (show w.heap.size + 4 ≤ w2.heap.size by have := HSZ.out; have := hb2.size; omega)
  have d4 : w2.cell? ⟨B4, 0, none⟩ = some (.slice A ms.length c) := h42.cell 0
  have d6 : w2.cell? ⟨B6, 0, none⟩ = some (.int .i64 band) := h62.cell 0
  have d7 : w2.cell? ⟨B7, 0, none⟩ = some (.int .i64 stretch) := h72.cell 0
  have d8 : w2.cell? ⟨B8, 0, none⟩ = some (.int .i64 0) := h82.cell 0
  have d9 : w2.cell? ⟨B8, 1, none⟩ = some (.int .i64 0) := h82.cell 1
  have z8 : w2.frozen? ⟨B8, 0, none⟩ = false := h82.frozen 0
  have z9 : w2.frozen? ⟨B8, 1, none⟩ = false := h82.frozen 1
  have H42 := Aw.mk h42
  have H62 := Aw.mk h62
  have H72 := Aw.mk h72
  have H82 := Aw.mk h82
  have HBL8 : Aw (w.heap.size ≤ B8) := ⟨by have := HBS.out; omega⟩
  have HPV := Aw.mk (show lifeV ms rs band stretch = _ from rfl)
  unfold lifeV at HPV
  have HFIN := Aw.mk (show Below w.heap.size w ((w2.setCell ⟨B8, 0, none⟩ (.int .i64 0)).setCell ⟨B8, 1, none⟩ (.int .i64 0)) from (HBB2.out.setCell (p := ⟨B8, 0, none⟩) HBL8.out _).setCell (p := ⟨B8, 1, none⟩) HBL8.out _)
  have HB82 := Aw.mk ((h82.set 0 (.int .i64 0)).set 1 (.int .i64 0))
  rcases hp with ⟨rfl, hne⟩ | ⟨x, m, rfl, h0, hx, hm, hroom, hkn⟩
  · have hne' : (possErr ms rs != 0) = true := by simp [hne]
    have HV : Aw (lifeV ms rs band stretch = (0, 0, possErr ms rs)) := ⟨by unfold lifeV; rw [if_neg hne]⟩
    clear HPV
    generalize possErr ms rs = er at *
    clear hne hb2 HPO h42 h62 h72 h82
    go_wp2_with fail
    exact postM_ret0 rfl (results29 rfl rfl HB82.out) ⟨by rw [HV.out]; rfl, HFIN.out⟩
  · rw [h0]
    have h00 : enterErr ms rs = 0 := by
      unfold possErr at h0
      split at h0
      · assumption
      · exact h0
    have hI : Inp A c ms AR cR rs w := enter_inp h00 HZ.out HR.out
    have hri : RoomI w A c ms AR cR rs x m w2 := ⟨⟨HBB2.out.size, fun k hk _ => HBB2.out.block k hk⟩, hroom.blk⟩
    have hn3 := hI.len
    have HXM := Aw.mk (show w1.heap.size ≤ x ∧ w1.heap.size ≤ m from ⟨hx, hm⟩)
    have HRI := Aw.mk hri
    have HKN := Aw.mk hkn
    have HI := Aw.mk hI
    have HH0 := Aw.mk h0
    have wl : IntKind.i64.wrap ((ms.length : Int) - 1) = (ms.length : Int) - 1 := IntWalk.i64_in _ (by omega)
    clear hroom hkn hx hm h0 h00 hb2 HPO h42 h62 h72 h82 hI hri HPV
    go_wp2_with fail
    refine (within_any _ _ _ _).mono ?_
    rintro e w3 ⟨rfl, rfl⟩
    by_cases hbd : 0 ≤ band ∧ band ≤ (ms.length : Int) - 1
    case neg =>
      have HV : Aw (lifeV ms rs band stretch = (0, 0, 2)) := ⟨by unfold lifeV; rw [if_pos HH0.out, if_neg (fun h => hbd h.1)]⟩
      rw [decide_eq_false hbd]
      clear hbd
      go_wp2_with fail
      exact postM_ret0 rfl (results29 rfl rfl HB82.out) ⟨by rw [HV.out]; rfl, HFIN.out⟩
    rw [decide_eq_true hbd]
    have HBD := Aw.mk hbd
    clear hbd
    go_wp2_with fail
    refine (within_any _ _ _ _).mono ?_
    rintro e w3 ⟨rfl, rfl⟩
    by_cases hst : 0 ≤ stretch ∧ stretch ≤ 10000000000
    case neg =>
      have HV : Aw (lifeV ms rs band stretch = (0, 0, 2)) := ⟨by unfold lifeV; rw [if_pos HH0.out, if_neg (fun h => hst h.2)]⟩
      rw [decide_eq_false hst]
      clear hst
      go_wp2_with fail
      exact postM_ret0 rfl (results29 rfl rfl HB82.out) ⟨by rw [HV.out]; rfl, HFIN.out⟩
    rw [decide_eq_true hst]
    have HV : Aw (lifeV ms rs band stretch = ((lifeAcc band.toNat stretch (good ms rs)).1.lo, if (lifeAcc band.toNat stretch (good ms rs)).2 = true then -1 else (lifeAcc band.toNat stretch (good ms rs)).1.hi, 0)) := ⟨by unfold lifeV; rw [if_pos HH0.out, if_pos ⟨HBD.out, hst⟩]⟩
    have HST := Aw.mk hst
    clear hst
    go_wp2_with fail
    refine (every_any _ _).mono ?_
    rintro e w3 ⟨rfl, rfl⟩
    obtain ⟨B12, hB12⟩ : ∃ B12, B12 = w2.heap.size := ⟨_, rfl⟩
    obtain ⟨B13, hB13⟩ : ∃ B13, B13 = w2.heap.size + 1 := ⟨_, rfl⟩
    obtain ⟨B14, hB14⟩ : ∃ B14, B14 = w2.heap.size + 1 + 1 := ⟨_, rfl⟩
    obtain ⟨B1, hB1⟩ : ∃ B1, B1 = w2.heap.size + 1 + 1 + 1 := ⟨_, rfl⟩
    obtain ⟨wd, hwd⟩ : ∃ wd, wd = (((w2.alloc (.cells #[.int .i64 (-1), .int .i64 (-1)] 47)).alloc (.cells #[.int .i64 (-1), .int .i64 (-1)] 47)).alloc (.cells #[.bool false] 4)).alloc (.cells #[.pointer (some ⟨x, 0, none⟩)] 97) := ⟨_, rfl⟩
    rw [← hwd]
    rw [show (((w2.alloc (.cells #[.int .i64 (-1), .int .i64 (-1)] 47)).alloc (.cells #[.int .i64 (-1), .int .i64 (-1)] 47)).alloc (.cells #[.bool false] 4)).heap.size = B1 by rw [hB1]; simp, ← hB14, ← hB13, ← hB12]
    have hcd : Chg (fun k => False) w2 wd := by rw [hwd]; exact ((((Chg.refl (fun k => False) w2).alloc _).alloc _).alloc _).alloc _
    have h12d : Blk wd B12 #[.int .i64 (-1), .int .i64 (-1)] 47 := by rw [hwd, hB12]; exact (((Blk.new _ _ _).alloc _).alloc _).alloc _
    have h13d : Blk wd B13 #[.int .i64 (-1), .int .i64 (-1)] 47 := by
      have := Blk.new (w2.alloc (.cells #[.int .i64 (-1), .int .i64 (-1)] 47)) #[.int .i64 (-1), .int .i64 (-1)] 47
      rw [hwd, hB13]; exact ((by simpa using this : Blk _ (w2.heap.size + 1) _ _).alloc _).alloc _
    have h14d : Blk wd B14 #[.bool false] 4 := by
      have := Blk.new ((w2.alloc (.cells #[.int .i64 (-1), .int .i64 (-1)] 47)).alloc (.cells #[.int .i64 (-1), .int .i64 (-1)] 47)) #[.bool false] 4
      rw [hwd, hB14]; exact (by simpa using this : Blk _ (w2.heap.size + 1 + 1) _ _).alloc _
    have h1d : Blk wd B1 #[.pointer (some ⟨x, 0, none⟩)] 97 := by
      have := Blk.new (((w2.alloc (.cells #[.int .i64 (-1), .int .i64 (-1)] 47)).alloc (.cells #[.int .i64 (-1), .int .i64 (-1)] 47)).alloc (.cells #[.bool false] 4)) #[.pointer (some ⟨x, 0, none⟩)] 97
      rw [hwd, hB1]; simpa using this
    have hszd : wd.heap.size = w2.heap.size + 4 := by rw [hwd]; simp
    have hxl := HRI.out.blk.lt
    have hml := HKN.out.lt
    have hxm := HXM.out
    have hlt : w.heap.size ≤ B4 ∧ B4 < B6 ∧ B6 < B7 ∧ B7 < B8 ∧ B8 < w.heap.size + 4 := by have := HBS.out; omega
    have hs1 : w.heap.size + 4 ≤ w1.heap.size := by have := HSZ.out; omega
    have hs2 := HS2.out
    have h6d := H62.out.chg hcd (fun h => h)
    have h7d := H72.out.chg hcd (fun h => h)
    have h8d := H82.out.chg hcd (fun h => h)
    have hrd := HRI.out.chg hcd (fun k e => e.elim) (fun h => h)
    have hkd := HKN.out.chg hcd (fun h => h)
    have h6l : w.heap.size + 4 ≤ x ∧ w.heap.size + 4 ≤ m ∧ x < B12 ∧ m < B12 ∧ B12 < B13 ∧ B13 < B14 ∧ B14 < B1 ∧ B1 < wd.heap.size ∧ w2.heap.size ≤ B12 ∧ x ≠ m := by
      refine ⟨by omega, by omega, by omega, by omega, by omega, by omega, by omega, by omega, by omega, ?_⟩
      obtain ⟨es, clock, q1, _⟩ := HKN.out
      exact not_map q1 HRI.out.blk
    have HCD := Aw.mk hcd
    have H8D := Aw.mk h8d
    clear hwd hB12 hB13 hB14 hB1 d4 d6 d7 d8 d9 z8 z9 hszd hcd h8d
    obtain ⟨bd, rfl⟩ := Int.eq_ofNat_of_zero_le HBD.out.1
    rw [Int.toNat_natCast] at HV
    have hbdn : bd < ms.length := by have := HBD.out; omega
    have hbd3 : bd < 3 := by omega
    dsimp only [Exit.inBlock, Exit.then]
    go_wp2_with fail
    refine wpIn_wide.1 (every_range HI.out (by omega) (by omega) hrd hkd h1d rfl rfl (fun k => k = B13 ∨ k = B14) (fun k => k = B6 ∨ k = B7 ∨ k = B12 ∨ k = B13 ∨ k = B14)
      (fun pre W => Blk W B6 #[.int .i64 (bd : Int)] 3 ∧ Blk W B7 #[.int .i64 stretch] 3 ∧ Blk W B12 #[.int .i64 (-1), .int .i64 (-1)] 47 ∧ Blk W B13 #[.int .i64 (lifeAcc bd stretch pre).1.lo, .int .i64 (lifeAcc bd stretch pre).1.hi] 47 ∧ Blk W B14 #[.bool (lifeAcc bd stretch pre).2] 4)
      (fun cd W => False)
      (fun k hk => by rcases hk with rfl | rfl | rfl | rfl | rfl <;> omega)
      (fun pre => (Blk.local (.inl rfl)).and ((Blk.local (.inr (.inl rfl))).and ((Blk.local (.inr (.inr (.inl rfl)))).and ((Blk.local (.inr (.inr (.inr (.inl rfl))))).and (Blk.local (.inr (.inr (.inr (.inr rfl)))))))))
      (fun cd => Local.const _)
      ⟨h6d, h7d, h12d, h13d, h14d⟩
      (fun _ r a' W b => (a'.defers = [] ∧ a'.tmps.size = 63 ∧ a'.tmps.getD 6 undef = .pointer (some ⟨B6, 0, none⟩) ∧ a'.tmps.getD 7 undef = .pointer (some ⟨B7, 0, none⟩) ∧ a'.tmps.getD 12 undef = .pointer (some ⟨B12, 0, none⟩) ∧ a'.tmps.getD 13 undef = .pointer (some ⟨B13, 0, none⟩) ∧ a'.tmps.getD 14 undef = .pointer (some ⟨B14, 0, none⟩) ∧ a'.tmps.getD 15 undef = .pointer (some ⟨b, 0, none⟩)) ∧ Blk W b r.cells 101)
      (fun _ _ _ b => (Local.const _).and (Blk.local (.inr rfl))) ?hassign ?hbody ?hdone ?hstop)
    case hassign =>
      intro l X pre r W hj hg hok hX
      simp only [List.zip_toArray, List.zip_cons_cons, List.zip_nil_left, List.zip_nil_right, List.foldl_toArray, List.foldl_cons, List.foldl_nil, List.setIfInBounds_toArray, List.set_cons_succ, List.set_cons_zero]
      clear hj hX
      unfold Rt.enc Rt.cells
      gi_wp2
      exact ⟨(Chg.refl _ _).alloc _, W.heap.size, .inl ⟨Nat.le_refl _, by simp⟩, ⟨trivial, rfl, rfl, rfl, rfl, rfl, rfl, rfl⟩, Blk.new W _ _⟩
    case hbody =>
      intro l X pre r a' W b hj hFa hb1 hb2 hbX hg hok hX
      obtain ⟨⟨hdf, hsz, hp6, hp7, hp12, hp13, hp14, hp15⟩, hb15⟩ := hFa
      have p6 : slot a' 6 = .pointer (some ⟨B6, 0, none⟩) := hp6
      have p7 : slot a' 7 = .pointer (some ⟨B7, 0, none⟩) := hp7
      have p12 : slot a' 12 = .pointer (some ⟨B12, 0, none⟩) := hp12
      have p13 : slot a' 13 = .pointer (some ⟨B13, 0, none⟩) := hp13
      have p14 : slot a' 14 = .pointer (some ⟨B14, 0, none⟩) := hp14
      have p15 : slot a' 15 = .pointer (some ⟨b, 0, none⟩) := hp15
      obtain ⟨k6, k7, k12, k13, k14⟩ := hj.p
      have e14 : W.cell? ⟨B14, 0, none⟩ = some (.bool (lifeAcc bd stretch pre).2) := k14.cell 0
      have y14 : W.frozen? ⟨B14, 0, none⟩ = false := k14.frozen 0
      rw [frame_lit' a' 63 hsz, hdf]
      simp only [List.range, List.range.loop, List.map_cons, List.map_nil, p6, p7, p12, p13, p14, p15]
      have HJ := Aw.mk hj
      have K6 := Aw.mk k6
      have K7 := Aw.mk k7
      have K12 := Aw.mk k12
      have K13 := Aw.mk k13
      have K14 := Aw.mk k14
      have HB15 := Aw.mk hb15
      have HOK := Aw.mk hok
      have HBL := Aw.mk (show b ≠ B13 ∧ b ≠ B14 by rcases hb1 with h | rfl <;> omega)
      clear hj hdf hsz hp6 hp7 hp12 hp13 hp14 hp15 p6 p7 p12 p13 p14 p15 k6 k7 k12 k13 k14 hX hbX hb1 hb15 hg
      generalize a' = a''
      gi_wp2_with fail
      refine hours_region (some l) B6 B7 b bd hbd3 r (r.get bd) stretch rfl (HOK.out bd hbd3) HST.out _ W _ rfl rfl rfl rfl K6.out K7.out HB15.out ?_
      intro a W2 hd hsz h16 hfix hbW
      obtain ⟨n, hn⟩ : ∃ n, n = hoursV (r.get bd) stretch := ⟨_, rfl⟩
      rw [← hn] at h16
      have p16 : slot a 16 = .int .i64 n := h16
      have hp : ∀ s, (s ≠ 16 ∧ (s < 47 ∨ 51 < s)) → slot a s = _ := fun s hs => hfix s hs.1 hs.2
      have p0 := hp 0 (by decide)
      have p1 := hp 1 (by decide)
      have p2 := hp 2 (by decide)
      have p3 := hp 3 (by decide)
      have p4 := hp 4 (by decide)
      have p5 := hp 5 (by decide)
      have p6 := hp 6 (by decide)
      have p7 := hp 7 (by decide)
      have p8 := hp 8 (by decide)
      have p9 := hp 9 (by decide)
      have p10 := hp 10 (by decide)
      have p11 := hp 11 (by decide)
      have p12 := hp 12 (by decide)
      have p13 := hp 13 (by decide)
      have p14 := hp 14 (by decide)
      have p15 := hp 15 (by decide)
      have p17 := hp 17 (by decide)
      have p18 := hp 18 (by decide)
      have p19 := hp 19 (by decide)
      have p20 := hp 20 (by decide)
      have p21 := hp 21 (by decide)
      have p22 := hp 22 (by decide)
      have p23 := hp 23 (by decide)
      have p24 := hp 24 (by decide)
      have p25 := hp 25 (by decide)
      have p26 := hp 26 (by decide)
      have p27 := hp 27 (by decide)
      have p28 := hp 28 (by decide)
      have p29 := hp 29 (by decide)
      have p30 := hp 30 (by decide)
      have p31 := hp 31 (by decide)
      have p32 := hp 32 (by decide)
      have p33 := hp 33 (by decide)
      have p34 := hp 34 (by decide)
      have p35 := hp 35 (by decide)
      have p36 := hp 36 (by decide)
      have p37 := hp 37 (by decide)
      have p38 := hp 38 (by decide)
      have p39 := hp 39 (by decide)
      have p40 := hp 40 (by decide)
      have p41 := hp 41 (by decide)
      have p42 := hp 42 (by decide)
      have p43 := hp 43 (by decide)
      have p44 := hp 44 (by decide)
      have p45 := hp 45 (by decide)
      have p46 := hp 46 (by decide)
      have p52 := hp 52 (by decide)
      have p53 := hp 53 (by decide)
      have p54 := hp 54 (by decide)
      have p55 := hp 55 (by decide)
      have p56 := hp 56 (by decide)
      have p57 := hp 57 (by decide)
      have p58 := hp 58 (by decide)
      have p59 := hp 59 (by decide)
      have p60 := hp 60 (by decide)
      have p61 := hp 61 (by decide)
      have p62 := hp 62 (by decide)
      simp only [Array.getD_eq_getD_getElem?, List.getElem?_toArray, List.getElem?_cons_zero, List.getElem?_cons_succ, Option.getD_some] at p0 p1 p2 p3 p4 p5 p6 p7 p8 p9 p10 p11 p12 p13 p14 p15 p17 p18 p19 p20 p21 p22 p23 p24 p25 p26 p27 p28 p29 p30 p31 p32 p33 p34 p35 p36 p37 p38 p39 p40 p41 p42 p43 p44 p45 p46 p52 p53 p54 p55 p56 p57 p58 p59 p60 p61 p62
      rw [frame_lit' a 63 hsz, hd]
      simp only [List.range, List.range.loop, List.map_cons, List.map_nil, p0, p1, p2, p3, p4, p5, p6, p7, p8, p9, p10, p11, p12, p13, p14, p15, p17, p18, p19, p20, p21, p22, p23, p24, p25, p26, p27, p28, p29, p30, p31, p32, p33, p34, p35, p36, p37, p38, p39, p40, p41, p42, p43, p44, p45, p46, p52, p53, p54, p55, p56, p57, p58, p59, p60, p61, p62, p16]
      clear p0 p1 p2 p3 p4 p5 p6 p7 p8 p9 p10 p11 p12 p13 p14 p15 p17 p18 p19 p20 p21 p22 p23 p24 p25 p26 p27 p28 p29 p30 p31 p32 p33 p34 p35 p36 p37 p38 p39 p40 p41 p42 p43 p44 p45 p46 p52 p53 p54 p55 p56 p57 p58 p59 p60 p61 p62 hp
      have HN := Aw.mk hn
      have J12 := Aw.mk (K12.out.below hbW K12.out.lt)
      have J13 := Aw.mk (K13.out.below hbW K13.out.lt)
      have J14 := Aw.mk (K14.out.below hbW K14.out.lt)
      have J6 := Aw.mk (K6.out.below hbW K6.out.lt)
      have J7 := Aw.mk (K7.out.below hbW K7.out.lt)
      have HBW := Aw.mk hbW
      have e14 : W2.cell? ⟨B14, 0, none⟩ = some (.bool (lifeAcc bd stretch pre).2) := J14.out.cell 0
      have y14 : W2.frozen? ⟨B14, 0, none⟩ = false := J14.out.frozen 0
      clear hfix hd hsz hbW hn h16 p16
      generalize a = a1
      dsimp only [Exit.inBlock, Exit.then]
      by_cases hne : n = -1
      · subst hne
        obtain ⟨V, hV⟩ : ∃ V, V = W2.setCell ⟨B14, 0, none⟩ (.bool true) := ⟨_, rfl⟩
        have hrd' := HJ.out.round (R := fun k => k < w.heap.size ∨ k = x ∨ k = B1) (W' := V)
          (P' := fun W => Blk W B6 #[.int .i64 (bd : Int)] 3 ∧ Blk W B7 #[.int .i64 stretch] 3 ∧ Blk W B12 #[.int .i64 (-1), .int .i64 (-1)] 47 ∧ Blk W B13 #[.int .i64 (lifeAcc bd stretch (pre ++ [r])).1.lo, .int .i64 (lifeAcc bd stretch (pre ++ [r])).1.hi] 47 ∧ Blk W B14 #[.bool (lifeAcc bd stretch (pre ++ [r])).2] 4) (fun k hk => by rcases hk with rfl | rfl <;> refine ⟨by omega, by omega, by omega⟩)
          (by rw [hV]; exact (Chg.below HBW.out (fun k => k = B13 ∨ k = B14)).setCell (.inl (.inr rfl)) _) (by
            have hch : Chg (fun k => k = B14) W2 V := by rw [hV]; exact (Chg.refl (fun k => k = B14) W2).setCell (.inl rfl) _
            rw [lifeAcc_snoc, show lifeStep bd stretch (lifeAcc bd stretch pre) r = ((lifeAcc bd stretch pre).1, true) by unfold lifeStep; rw [if_pos HN.out.symm]]
            refine ⟨J6.out.chg hch (by omega), J7.out.chg hch (by omega), J12.out.chg hch (by omega), J13.out.chg hch (by omega), ?_⟩
            rw [hV]; exact J14.out.set 0 _)
        have HP := Aw.mk (show rndPost X (fun k => k < w.heap.size ∨ k = x ∨ k = B1) (fun X pre W => JL wd m (fun k => k = B13 ∨ k = B14) (fun W => Blk W B6 #[.int .i64 (bd : Int)] 3 ∧ Blk W B7 #[.int .i64 stretch] 3 ∧ Blk W B12 #[.int .i64 (-1), .int .i64 (-1)] 47 ∧ Blk W B13 #[.int .i64 (lifeAcc bd stretch pre).1.lo, .int .i64 (lifeAcc bd stretch pre).1.hi] 47 ∧ Blk W B14 #[.bool (lifeAcc bd stretch pre).2] 4) X W)
          (fun c X _ W => (∃ r, r ∈ good ms rs) ∧ JL wd m (fun k => k = B13 ∨ k = B14) (fun W => False) X W) (pre ++ [r]) W .normal a1 V from hrd')
        clear hrd'
        rw [hV] at HP
        clear hV
        gi_wp2_with fail
        exact HP.out
      · have hne' : (n == -1) = false := by simp [hne]
        have HNE := Aw.mk hne
        clear hne
        gi_wp2_with fail
        refine span_region (some l) B12 B13 (lifeAcc bd stretch pre).1 n _ W2 _ rfl rfl rfl rfl J12.out J13.out ?_
        intro a2 W3 hd hsz hfix hc3 hb13
        have hp : ∀ s, (s < 54 ∨ 59 < s) → slot a2 s = _ := hfix
        have p0 := hp 0 (by decide)
        have p1 := hp 1 (by decide)
        have p2 := hp 2 (by decide)
        have p3 := hp 3 (by decide)
        have p4 := hp 4 (by decide)
        have p5 := hp 5 (by decide)
        have p6 := hp 6 (by decide)
        have p7 := hp 7 (by decide)
        have p8 := hp 8 (by decide)
        have p9 := hp 9 (by decide)
        have p10 := hp 10 (by decide)
        have p11 := hp 11 (by decide)
        have p12 := hp 12 (by decide)
        have p13 := hp 13 (by decide)
        have p14 := hp 14 (by decide)
        have p15 := hp 15 (by decide)
        have p16 := hp 16 (by decide)
        have p17 := hp 17 (by decide)
        have p18 := hp 18 (by decide)
        have p19 := hp 19 (by decide)
        have p20 := hp 20 (by decide)
        have p21 := hp 21 (by decide)
        have p22 := hp 22 (by decide)
        have p23 := hp 23 (by decide)
        have p24 := hp 24 (by decide)
        have p25 := hp 25 (by decide)
        have p26 := hp 26 (by decide)
        have p27 := hp 27 (by decide)
        have p28 := hp 28 (by decide)
        have p29 := hp 29 (by decide)
        have p30 := hp 30 (by decide)
        have p31 := hp 31 (by decide)
        have p32 := hp 32 (by decide)
        have p33 := hp 33 (by decide)
        have p34 := hp 34 (by decide)
        have p35 := hp 35 (by decide)
        have p36 := hp 36 (by decide)
        have p37 := hp 37 (by decide)
        have p38 := hp 38 (by decide)
        have p39 := hp 39 (by decide)
        have p40 := hp 40 (by decide)
        have p41 := hp 41 (by decide)
        have p42 := hp 42 (by decide)
        have p43 := hp 43 (by decide)
        have p44 := hp 44 (by decide)
        have p45 := hp 45 (by decide)
        have p46 := hp 46 (by decide)
        have p47 := hp 47 (by decide)
        have p48 := hp 48 (by decide)
        have p49 := hp 49 (by decide)
        have p50 := hp 50 (by decide)
        have p51 := hp 51 (by decide)
        have p52 := hp 52 (by decide)
        have p53 := hp 53 (by decide)
        have p60 := hp 60 (by decide)
        have p61 := hp 61 (by decide)
        have p62 := hp 62 (by decide)
        simp only [Array.getD_eq_getD_getElem?, List.getElem?_toArray, List.getElem?_cons_zero, List.getElem?_cons_succ, Option.getD_some] at p0 p1 p2 p3 p4 p5 p6 p7 p8 p9 p10 p11 p12 p13 p14 p15 p16 p17 p18 p19 p20 p21 p22 p23 p24 p25 p26 p27 p28 p29 p30 p31 p32 p33 p34 p35 p36 p37 p38 p39 p40 p41 p42 p43 p44 p45 p46 p47 p48 p49 p50 p51 p52 p53 p60 p61 p62
        rw [frame_lit' a2 63 hsz, hd]
        simp only [List.range, List.range.loop, List.map_cons, List.map_nil, p0, p1, p2, p3, p4, p5, p6, p7, p8, p9, p10, p11, p12, p13, p14, p15, p16, p17, p18, p19, p20, p21, p22, p23, p24, p25, p26, p27, p28, p29, p30, p31, p32, p33, p34, p35, p36, p37, p38, p39, p40, p41, p42, p43, p44, p45, p46, p47, p48, p49, p50, p51, p52, p53, p60, p61, p62]
        clear p0 p1 p2 p3 p4 p5 p6 p7 p8 p9 p10 p11 p12 p13 p14 p15 p16 p17 p18 p19 p20 p21 p22 p23 p24 p25 p26 p27 p28 p29 p30 p31 p32 p33 p34 p35 p36 p37 p38 p39 p40 p41 p42 p43 p44 p45 p46 p47 p48 p49 p50 p51 p52 p53 p60 p61 p62 hp
        have hrd' := HJ.out.round (R := fun k => k < w.heap.size ∨ k = x ∨ k = B1) (W' := W3)
          (P' := fun W => Blk W B6 #[.int .i64 (bd : Int)] 3 ∧ Blk W B7 #[.int .i64 stretch] 3 ∧ Blk W B12 #[.int .i64 (-1), .int .i64 (-1)] 47 ∧ Blk W B13 #[.int .i64 (lifeAcc bd stretch (pre ++ [r])).1.lo, .int .i64 (lifeAcc bd stretch (pre ++ [r])).1.hi] 47 ∧ Blk W B14 #[.bool (lifeAcc bd stretch (pre ++ [r])).2] 4) (fun k hk => by rcases hk with rfl | rfl <;> refine ⟨by omega, by omega, by omega⟩)
          ((Chg.below HBW.out (fun k => k = B13 ∨ k = B14)).trans (hc3.mono fun k _ e => .inl (.inl e))) (by
            rw [lifeAcc_snoc, show lifeStep bd stretch (lifeAcc bd stretch pre) r = (withV (lifeAcc bd stretch pre).1 n ((lifeAcc bd stretch pre).1.lo == -1 && (lifeAcc bd stretch pre).1.hi == -1), (lifeAcc bd stretch pre).2) by unfold lifeStep; rw [← HN.out, if_neg HNE.out]]
            exact ⟨J6.out.chg hc3 (by omega), J7.out.chg hc3 (by omega), J12.out.chg hc3 (by omega), hb13, J14.out.chg hc3 (by omega)⟩)
        have HP := Aw.mk hrd'
        clear hrd' hfix hd hsz hc3 hb13
        generalize a2 = a3
        dsimp only [Exit.inBlock, Exit.then]
        gi_wp2_with fail
        exact HP.out
    case hdone =>
      intro D W hD hj hk hDW
      obtain ⟨k6, k7, k12, k13, k14⟩ := hj.p
      have hch := hj.chg
      have HDW := Aw.mk hDW
      have K13 := Aw.mk k13
      have K8 := Aw.mk (H8D.out.chg hch (by omega))
      have HCH := Aw.mk hch
      have HD := Aw.mk hD
      have e14 : W.cell? ⟨B14, 0, none⟩ = some (.bool (lifeAcc bd stretch (good ms rs)).2) := k14.cell 0
      have e13 : W.cell? ⟨B13, 0, none⟩ = some (.int .i64 (lifeAcc bd stretch (good ms rs)).1.lo) := k13.cell 0
      have f13 : W.cell? ⟨B13, 1, none⟩ = some (.int .i64 (lifeAcc bd stretch (good ms rs)).1.hi) := k13.cell 1
      have y13 : W.frozen? ⟨B13, 1, none⟩ = false := k13.frozen 1
      have y8 : W.frozen? ⟨B8, 0, none⟩ = false := K8.out.frozen 0
      have y9 : W.frozen? ⟨B8, 1, none⟩ = false := K8.out.frozen 1
      have HBL : Aw (B8 ≠ B13) := ⟨by omega⟩
      have hq1 : B8 ≠ B13 := HBL.out
      have hq2 : B13 ≠ B8 := fun e => hq1 e.symm
      have e8 : W.cell? ⟨B8, 0, none⟩ = some (.int .i64 0) := K8.out.cell 0
      have e9 : W.cell? ⟨B8, 1, none⟩ = some (.int .i64 0) := K8.out.cell 1
      clear hj hk hDW k6 k7 k12 k13 k14 hch hD
      dsimp only [Exit.inBlock, Exit.then]
      have HF := Aw.mk (show ∀ V hi, Chg (fun k => k = B8 ∨ k = B13) W V → Blk V B8 #[.int .i64 (lifeAcc bd stretch (good ms rs)).1.lo, .int .i64 hi] 47 → (if (lifeAcc bd stretch (good ms rs)).2 = true then (-1 : Int) else (lifeAcc bd stretch (good ms rs)).1.hi) = hi → ∀ tm : Array Value, tm.getD 8 undef = .pointer (some ⟨B8, 0, none⟩) → tm.getD 9 undef = .int .i64 0 →
          bodyPostM Fence.wide 0 Try.prog Try.f29 (LifePost ms rs bd stretch w) .ret { tmps := tm, defers := [{ target := .collected D, args := #[] }] } V by
        intro V hi hcV hb8 he tm ht8 ht9
        have hDd := HD.out
        have hDV : V.heap[D]? = some (.deferred (some [])) := (hcV.block D (Array.getElem?_eq_some_iff.1 HDW.out).1 (by omega)).trans HDW.out
        refine postM_ret rfl hDV (results29 ht8 ht9 (hb8.putOther hDV _)) ⟨?_, ?_⟩
        · rw [HV.out, ← he]
        · have h1 : Chg (fun k => k = B8 ∨ k = B13 ∨ k = B14 ∨ k = m) w W := (Chg.below HBB2.out _).trans ((HCD.out.mono fun k _ e => e.elim).trans (HCH.out.mono fun k _ e => .inl (.inl (by rcases e with (e | e) | e; exact .inr (.inl e); exact .inr (.inr (.inl e)); exact .inr (.inr (.inr e))))))
          have h2 := h1.trans (hcV.mono fun k _ e => .inl (by rcases e with e | e; exact .inl e; exact .inr (.inl e)))
          exact (h2.putObj (.inr (by omega)) _).toBelow (Nat.le_refl _) (fun k e => by omega))
      generalize hla : lifeAcc bd stretch (good ms rs) = la at *
      obtain ⟨⟨lo, hi⟩, nv⟩ := la
      clear hla
      cases nv with
      | false =>
        have HB8 := Aw.mk ((K8.out.set 0 (.int .i64 lo)).set 1 (.int .i64 hi))
        go_wp2_with fail
        exact HF.out _ hi ((((Chg.refl (fun k => k = B8 ∨ k = B13) W).setCell (.inl (.inl rfl)) _).setCell (.inl (.inl rfl)) _)) HB8.out rfl _ rfl rfl
      | true =>
        have HB8 := Aw.mk (((K8.out.other (a := ⟨B13, 1, none⟩) HBL.out (.int .i64 (-1))).set 0 (.int .i64 lo)).set 1 (.int .i64 (-1)))
        go_wp2_with fail
        exact HF.out _ (-1) ((((Chg.refl (fun k => k = B8 ∨ k = B13) W).setCell (.inl (.inr rfl)) _).setCell (.inl (.inl rfl)) _).setCell (.inl (.inl rfl)) _) HB8.out rfl _ rfl rfl
    case hstop => exact fun D c W hD hr hj => hj.p.elim
end Go.Proofs.Ytdagijgoegkphaa.Hand

namespace Go.Proofs.Ytdagijgoegkphaa.Hand
open Go.RowKit Go.Shelf
def Rn.bare (x : Rn) : Rn := ⟨none, 0, x.zs, x.lo, x.hi⟩
theorem bare_len (rs : List Rn) : (rs.map Rn.bare).length = rs.length := List.length_map ..
theorem bare_all (p : Rn → Bool) (hp : ∀ x, p x.bare = p x) (rs : List Rn) : (rs.map Rn.bare).all p = rs.all p := by
  induction rs with
  | nil => rfl
  | cons x rs ih => rw [List.map_cons, List.all_cons, List.all_cons, ih, hp]
theorem bare_enter (ms : List Rg) (rs : List Rn) : enterErr ms (rs.map Rn.bare) = enterErr ms rs := by
  unfold enterErr
  rw [bare_len, bare_all fewB (fun _ => rfl), bare_all (runOk ms.length) (fun _ => rfl)]
theorem bare_allowed (rs : List Rn) : allowedB (rs.map Rn.bare) = allowedB rs := by
  funext r
  exact bare_all (fun x => allowsB r x.zs x.lo x.hi) (fun _ => rfl) rs
theorem bare_good (ms : List Rg) (rs : List Rn) : good ms (rs.map Rn.bare) = good ms rs := by unfold good; rw [bare_allowed]
theorem bare_poss (ms : List Rg) (rs : List Rn) : possErr ms (rs.map Rn.bare) = possErr ms rs := by unfold possErr; rw [bare_enter, bare_good]
theorem bare_plan (ms : List Rg) (rs : List Rn) (ps : List Sg) : planErr ms (rs.map Rn.bare) ps = planErr ms rs ps := by unfold planErr; rw [bare_poss]
theorem bare_allows (ms : List Rg) (rs : List Rn) (l : List Nm) : allowsV ms (rs.map Rn.bare) l = allowsV ms rs l := by unfold allowsV; rw [bare_enter, bare_allowed]
theorem bare_rates (ms : List Rg) (rs : List Rn) : ratesV ms (rs.map Rn.bare) = ratesV ms rs := by unfold ratesV; rw [bare_poss, bare_good]
theorem bare_stretch (ms : List Rg) (rs : List Rn) (ps : List Sg) : stretchV ms (rs.map Rn.bare) ps = stretchV ms rs ps := by unfold stretchV; rw [bare_plan, bare_good]
theorem bare_shows (ms : List Rg) (rs : List Rn) (ps : List Sg) (h : Bool) : showsV ms (rs.map Rn.bare) ps h = showsV ms rs ps h := by unfold showsV; rw [bare_plan, bare_good]
theorem bare_life (ms : List Rg) (rs : List Rn) (b s : Int) : lifeV ms (rs.map Rn.bare) b s = lifeV ms rs b s := by unfold lifeV; rw [bare_poss, bare_good]
theorem poss_enter {ms : List Rg} {rs : List Rn} (h0 : possErr ms rs = 0) : enterErr ms rs = 0 := by
  unfold possErr at h0
  split at h0
  · assumption
  · exact h0
theorem upFrom_length : ∀ (k : Nat) (low : Int), (upFrom low k).length = k
  | 0, _ => rfl
  | k + 1, low => by unfold upFrom; rw [List.length_cons, upFrom_length]
theorem flat_len {α β : Type} (f : α → List β) (c : Nat) : ∀ (l : List α), (∀ x ∈ l, (f x).length ≤ c) → (l.flatMap f).length ≤ l.length * c
  | [], _ => by simp
  | x :: l, h => by
    rw [List.flatMap_cons, List.length_append, List.length_cons, Nat.succ_mul]
    have h1 := h x (by simp)
    have h2 := flat_len f c l (fun y hy => h y (by simp [hy]))
    omega
theorem lsFrom_len {ms : List Rg} (hv : ∀ m ∈ ms, 0 ≤ m.lo ∧ m.hi ≤ 1000) : ∀ (d band : Nat) (r : Rt), r.ok → band + d ≤ ms.length → (lsFrom ms d band r).length ≤ 1001 ^ d
  | 0, _, _, _, _ => by simp [lsFrom]
  | d + 1, band, r, hr, hb => by
    have hlt : band < ms.length := by omega
    have hm := hv ms[band] (List.getElem_mem hlt)
    have h0 : 0 ≤ lowAt ms r band := by
      unfold lowAt
      rw [List.getElem?_eq_getElem hlt]
      dsimp only
      split
      · unfold mx; split <;> omega
      · exact hm.1
    have hh : hiAt ms band ≤ 1000 := by
      unfold hiAt
      rw [List.getElem?_eq_getElem hlt]
      exact hm.2
    unfold lsFrom
    refine Nat.le_trans (flat_len _ (1001 ^ d) _ fun n hn => ?_) ?_
    · have hn2 := mem_upFrom _ _ _ hn
      exact lsFrom_len hv d (band + 1) _ (Rt.set_ok hr band (by omega) (by omega)) (by omega)
    · rw [upFrom_length, Nat.pow_succ, Nat.mul_comm]
      exact Nat.mul_le_mul_left _ (by omega)
theorem zero_ok' : Rt.ok ⟨0, 0, 0⟩ := fun k hk => by match k, hk with | 0, _ | 1, _ | 2, _ => decide
theorem good_len {ms : List Rg} {rs : List Rn} (h : enterErr ms rs = 0) : (good ms rs).length ≤ 9223372036854775807 := by
  have h1 := (enter_ok h).1
  have h2 := lsFrom_len (enter_ok h).2.1 ms.length 0 ⟨0, 0, 0⟩ zero_ok' (by omega)
  have h3 : (1001 : Nat) ^ ms.length ≤ 1001 ^ 3 := Nat.pow_le_pow_right (by omega) h1.2
  have h4 := List.length_filter_le (allowedB rs) (lists ms)
  unfold good
  unfold lists at h4 ⊢
  omega
end Go.Proofs.Ytdagijgoegkphaa.Hand
