/- The program's own functions that the statements of this seat reach, and what each call of them comes to, for any arguments. -/
import Derived.Test.YtigpnafpdmdmhaaC0
import Derived.Deep.CutRange
import Derived.Laws.EntriesVeiled
import Derived.BigQuiet
import Derived.WalkMore
set_option linter.unusedVariables false
set_option linter.unusedSimpArgs false
namespace Go.Proofs.Ytigpnafpdmdmhaa.Hand
open Go.RowKit Go.Shelf

theorem results62 {tmps : Array Value} {W : World} {g : Nat} {x0 x1 x2 : Value} (hp : tmps.getD 4 undef = .pointer (some ⟨g, 0, none⟩)) (h : Blk W g #[x0, x1, x2] 84) :
    (results Try.f62 tmps).run Try.prog W = .ok (.agg #[x0, x1, x2]) W := by
  have c0 : W.cell? ⟨g, 0, none⟩ = some x0 := h.cell 0
  have c1 : W.cell? ⟨g, 1, none⟩ = some x1 := h.cell 1
  have c2 : W.cell? ⟨g, 2, none⟩ = some x2 := h.cell 2
  have e : Try.f62.results = #[.cell 4 84] := rfl
  have hp' : tmps[4]?.getD undef = .pointer (some ⟨g, 0, none⟩) := by simpa using hp
  unfold results
  simp only [e]
  go_simp

/-- Three cells written. -/
theorem Blk.set3 {w : World} {b : Nat} {a0 a1 a2 : Value} {t : Nat} (h : Blk w b #[a0, a1, a2] t) (x0 x1 x2 : Value) :
    Blk (((w.setCell ⟨b, 0, none⟩ x0).setCell ⟨b, 1, none⟩ x1).setCell ⟨b, 2, none⟩ x2) b #[x0, x1, x2] t := ((h.set 0 x0).set 1 x1).set 2 x2

theorem frame_lit' (a : Act) (n : Nat) (h : a.tmps.size = n) : a = { tmps := ((List.range n).map (slot a)).toArray, defers := a.defers } := by
  obtain ⟨t, ds⟩ := a
  simp only at h
  congr 1
  apply Array.ext
  · simp [h]
  · intro i h1 h2
    simp [slot, h1]

/-- What holds between the rounds of a count. -/
structure JF (lot bad m : Nat) (l : List Stg) (G : Int → Cnt) (Bo : Nat) (Wd : World) (X : Nat → Prop) (pre : List (Int × Int)) (W : World) : Prop where
  chg : Chg (fun k => k = m ∨ k = Bo) Wd W
  own : ∀ k, X k → Wd.heap.size ≤ k
  out : Blk W Bo (pre.foldl (fun (o : Cnt) x => o.add x.2 (G x.1)) ⟨0, 0, 0⟩ : Cnt).cells 84
  known : Known lot bad m l W

theorem JF.stab {lot bad m : Nat} {l : List Stg} {G : Int → Cnt} {Bo : Nat} {Wd : World} (hm : m < Wd.heap.size) (hBo : Bo < Wd.heap.size) : Stab (JF lot bad m l G Bo Wd) := by
  intro X Y pre W W' h hc hY _
  have hs := h.chg.size
  refine ⟨h.chg.trans (hc.mono fun k _ hx => .inr (h.own k hx)), fun k hk => ?_, h.out.chg hc (fun hx => by have := h.own _ hx; omega), ?_⟩
  · rcases hY k hk with h1 | h1
    · exact h.own k h1
    · omega
  · obtain ⟨es, clock, h1, h2⟩ := h.known
    refine ⟨es, clock, (hc.block m (by omega) (fun hx => ?_)).trans h1, h2⟩
    have := h.own _ hx
    omega

/-- The frame at a round's start. -/
structure JaF (lot bad m : Nat) (l : List Stg) (G : Int → Cnt) (Bx Bf Bs Br Bo Bt : Nat) (Wd : World) (X : Nat → Prop) (pre : List (Int × Int)) (x : Int × Int) (a : Act) (W : World) : Prop where
  j : JF lot bad m l G Bo Wd X pre W
  df : a.defers = []
  sz : a.tmps.size = 116
  s1 : a.tmps.getD 1 undef = .pointer (some ⟨Bx, 0, none⟩)
  s2 : a.tmps.getD 2 undef = .pointer (some ⟨Bf, 0, none⟩)
  s3 : a.tmps.getD 3 undef = .pointer (some ⟨Bs, 0, none⟩)
  s4 : a.tmps.getD 4 undef = .pointer (some ⟨Br, 0, none⟩)
  s7 : a.tmps.getD 7 undef = .pointer (some ⟨Bo, 0, none⟩)
  s8 : a.tmps.getD 8 undef = .pointer (some ⟨Bt, 0, none⟩)
  s9 : a.tmps.getD 9 undef = .int .i64 x.1
  s10 : a.tmps.getD 10 undef = .int .i64 x.2

theorem lastDec_tail {s : Stg} {l : List Stg} (h : lastDec (s :: l)) : lastDec l := by
  cases l with
  | nil => trivial
  | cons s' l => exact h
theorem lastDec_drop : ∀ (i : Nat) (l : List Stg), lastDec l → lastDec (l.drop i)
  | 0, _, h => h
  | _ + 1, [], h => h
  | i + 1, _ :: l, h => lastDec_drop i l (lastDec_tail h)

/-- A round's end. -/
theorem JF.round {lot bad m : Nat} {l : List Stg} {G : Int → Cnt} {Bo Bw : Nat} {Wd W V4 V : World} {X : Nat → Prop} {pre : List (Int × Int)} {x : Int × Int} (h : JF lot bad m l G Bo Wd X pre W)
    (hm : m < Wd.heap.size) (hBo : Bo < Wd.heap.size) (hmB : m ≠ Bo) (hBw : Bw ≠ m) (hBw' : Bw ≠ Bo) (h1 : Chg (fun k => k = m) W V4) (h2 : Known lot bad m l V4) (h3 : Chg (fun k => k = Bo) V4 V)
    (h4 : Blk V Bo ((pre.foldl (fun (o : Cnt) x => o.add x.2 (G x.1)) ⟨0, 0, 0⟩).add x.2 (G x.1)).cells 84) :
    Keep (fun k => X k ∨ k = Bw) W V ∧ JF lot bad m l G Bo Wd X (pre ++ [x]) V := by
  have hs := h.chg.size
  have hc : Chg (fun k => k = m ∨ k = Bo) W V := (h1.mono (fun _ _ e => .inl e)).trans (h3.mono fun _ _ e => .inl (.inr e))
  refine ⟨hc.keep fun k hk _ hx => ?_, ⟨h.chg.trans (hc.mono fun _ _ e => .inl e), h.own, by rw [List.foldl_append]; exact h4, ?_⟩⟩
  · rcases hk with hk | rfl
    · have := h.own k hk
      rcases hx with rfl | rfl <;> omega
    · exact hx.elim hBw hBw'
  · obtain ⟨es, clock, e1, e2⟩ := h2
    exact ⟨es, clock, (h3.block m (Array.getElem?_eq_some_iff.1 e1).1 hmB).trans e1, e2⟩

attribute [local go_sem] Oper.semAt_some

set_option maxHeartbeats 8000000 in
set_option maxRecDepth 10000 in
theorem from_any (lot bad : Nat) (hlot : lot ≤ 30) (hbl : bad ≤ lot) (A : Option Addr) (c m Bw Bx Bf : Nat) (l : List Stg) (hlen : l.length ≤ 3) (hld : lastDec l) : ∀ (d i t b : Nat) (w : World), i + (d + 1) = l.length → t ≤ lot → b ≤ bad → bad + t ≤ lot + b → fits lot t (l.drop i) →
    Env lot A c bad m Bw Bx Bf l w → Known lot bad m l w →
    Calls Try.prog 62 #[keyV i t b, .pointer (some ⟨Bx, 0, none⟩), .pointer (some ⟨Bf, 0, none⟩)] w (FromPost lot bad m l i t b w) := by
  intro d
  induction d using Nat.strongRecOn with
  | _ d ih =>
    intro i t b w hd ht hb hbt hf hE hK
    obtain ⟨es, clock, hmap, hents⟩ := hK
    obtain ⟨v, ok, hlook, hvok⟩ := lookup_any (knows lot bad l) i t b m es hents
    obtain ⟨x0, x1, x2, rfl⟩ : ∃ x0 x1 x2 : Int, v = .agg #[.int .i64 x0, .int .i64 x1, .int .i64 x2] := by
      rcases hvok with ⟨_, rfl⟩ | ⟨_, rfl⟩
      · exact ⟨_, _, _, rfl⟩
      · exact ⟨_, _, _, rfl⟩
    have HVOK := Aw.mk hvok
    clear hvok
    have hi : i < l.length := by omega
    have HE := Aw.mk hE
    have HEN := Aw.mk hents
    have HF := Aw.mk hf
    have HD := Aw.mk hd
    have HIH := Aw.mk ih
    have g0 : w.cell? ⟨Bx, 0, none⟩ = some (.pointer (some ⟨Bw, 0, none⟩)) := hE.hx.cell 0
    have g1 : w.cell? ⟨Bw, 964, none⟩ = some (.map (some m)) := (hE.hw.cell _).trans (work_m ..)
    have hL := hlook
    unfold keyV at hL
    unfold keyV
    clear hE hents hf hd ih hlook
    refine (callsIn_wide (n := 0)).1 (callsIn_of_wp_marks Try.func62 rfl trivial ((wpIn_wide (n := 0)).2 ?_) rfl)
    simp only [Try.ntmps62, List.size_toArray, List.length_cons, List.length_nil, Nat.reduceAdd, Nat.reduceSub, Array.replicate_succ, Array.replicate_zero, List.push_toArray, List.append_toArray, List.nil_append, List.cons_append]
    go_wp2_with fail
    obtain ⟨Bs, hBs⟩ : ∃ Bs, Bs = w.heap.size := ⟨_, rfl⟩
    obtain ⟨Br, hBr⟩ : ∃ Br, Br = w.heap.size + 1 := ⟨_, rfl⟩
    obtain ⟨w1, hw1⟩ : ∃ w1, w1 = (w.alloc (.cells #[.int .i64 i, .int .i64 t, .int .i64 b] 111)).alloc (.cells #[.int .i64 0, .int .i64 0, .int .i64 0] 84) := ⟨_, rfl⟩
    have hB1 : Below w.heap.size w w1 := by rw [hw1]; exact ((Below.refl w.heap.size w).alloc (Nat.le_refl _) _).alloc (by simp) _
    have hz : w1.heap.size = w.heap.size + 2 := by rw [hw1]; simp
    have hS : Blk w1 Bs #[.int .i64 i, .int .i64 t, .int .i64 b] 111 := by rw [hw1, hBs]; exact (Blk.new w _ _).alloc _
    have hR : Blk w1 Br #[.int .i64 0, .int .i64 0, .int .i64 0] 84 := by
      have := Blk.new (w.alloc (.cells #[.int .i64 i, .int .i64 t, .int .i64 b] 111)) #[.int .i64 0, .int .i64 0, .int .i64 0] 84
      rw [hw1, hBr]
      simpa using this
    rw [← hw1, ← hBr, ← hBs]
    have c0 := held_cell g0 hB1
    have c1 := held_cell g1 hB1
    have c2 : w1.cell? ⟨Bs, 0, none⟩ = some (.int .i64 i) := hS.cell 0
    have c3 : w1.cell? ⟨Bs, 1, none⟩ = some (.int .i64 t) := hS.cell 1
    have c4 : w1.cell? ⟨Bs, 2, none⟩ = some (.int .i64 b) := hS.cell 2
    have c5 : w1.heap[m]? = some (.map es clock) := (hB1.block m (Array.getElem?_eq_some_iff.1 hmap).1).trans hmap
    have KS := Aw.mk (show ∀ W, Below w1.heap.size w1 W → (W.cell? ⟨Bx, 0, none⟩ = some (.pointer (some ⟨Bw, 0, none⟩)) ∧ W.cell? ⟨Bw, 964, none⟩ = some (.map (some m)) ∧ W.cell? ⟨Bs, 0, none⟩ = some (.int .i64 i) ∧ W.cell? ⟨Bs, 1, none⟩ = some (.int .i64 t) ∧ W.cell? ⟨Bs, 2, none⟩ = some (.int .i64 b) ∧ W.heap[m]? = some (.map es clock) ∧ Below w1.heap.size w1 W) from fun W hb =>
      ⟨held_cell c0 hb, held_cell c1 hb, held_cell c2 hb, held_cell c3 hb, held_cell c4 hb, (hb.block m (Array.getElem?_eq_some_iff.1 c5).1).trans c5, hb⟩)
    have HB1 := Aw.mk hB1
    have HZ := Aw.mk hz
    have HBs := Aw.mk hBs
    have HBr := Aw.mk hBr
    have HS := Aw.mk hS
    have HR := Aw.mk hR
    have HM := Aw.mk hmap
    clear hw1 hB1 hz hBs hBr hS hR hmap g0 g1
    have hb0 : Below w1.heap.size w1 w1.drew := (Below.refl _ _).drew
    go_cut [5, 6] from 5 to 22 (fun s5 s6 wx => s5 = .pointer (some ⟨w1.heap.size, 0, none⟩) ∧ s6 = .bool ok ∧ wx = (w1.alloc (.cells #[.int .i64 x0, .int .i64 x1, .int .i64 x2] 84)).drew)
    case first =>
      go_region_held3 (fun W => W.cell? ⟨Bx, 0, none⟩ = some (.pointer (some ⟨Bw, 0, none⟩)) ∧ W.cell? ⟨Bw, 964, none⟩ = some (.map (some m)) ∧ W.cell? ⟨Bs, 0, none⟩ = some (.int .i64 i) ∧ W.cell? ⟨Bs, 1, none⟩ = some (.int .i64 t) ∧ W.cell? ⟨Bs, 2, none⟩ = some (.int .i64 b) ∧ W.heap[m]? = some (.map es clock) ∧ Below w1.heap.size w1 W)
        ((refine KS.out _ ?_; repeat (first | exact hb0 | exact Below.refl _ _ | (refine Below.alloc ?_ (by first | (simp; done) | (simp; omega)) _) | (refine Below.setCell ?_ (by first | (simp; done) | (simp; omega)) _) | refine Below.drew ?_)))
        (fail)
      all_goals
        go_wp2_with fail
        go_meet
        exact ⟨rfl, rfl, rfl⟩
    case rest =>
      obtain ⟨rfl, rfl, hwx⟩ := hcut
      have hb1 : Below w1.heap.size w1 wc := by rw [hwx]; exact ((Below.refl _ _).alloc (Nat.le_refl _) _).drew
      have hT : Blk wc w1.heap.size #[.int .i64 x0, .int .i64 x1, .int .i64 x2] 84 := by rw [hwx]; exact (Blk.new _ _ _).drew
      have hzc : wc.heap.size = w1.heap.size + 1 := by rw [hwx]; simp
      have ⟨d0, d1, d2, d3, d4, d5, _⟩ := KS.out _ hb1
      have hRc : Blk wc Br #[.int .i64 0, .int .i64 0, .int .i64 0] 84 := HR.out.below hb1 HR.out.lt
      have r0 : wc.cell? ⟨Br, 0, none⟩ = some (.int .i64 0) := hRc.cell 0
      have r1 : wc.cell? ⟨Br, 1, none⟩ = some (.int .i64 0) := hRc.cell 1
      have r2 : wc.cell? ⟨Br, 2, none⟩ = some (.int .i64 0) := hRc.cell 2
      have z0 : wc.frozen? ⟨Br, 0, none⟩ = false := hRc.frozen 0
      have z1 : wc.frozen? ⟨Br, 1, none⟩ = false := hRc.frozen 1
      have z2 : wc.frozen? ⟨Br, 2, none⟩ = false := hRc.frozen 2
      have t0 : wc.cell? ⟨w1.heap.size, 0, none⟩ = some (.int .i64 x0) := hT.cell 0
      have t1 : wc.cell? ⟨w1.heap.size, 1, none⟩ = some (.int .i64 x1) := hT.cell 1
      have t2 : wc.cell? ⟨w1.heap.size, 2, none⟩ = some (.int .i64 x2) := hT.cell 2
      have HB2 := Aw.mk hb1
      have HT := Aw.mk hT
      have HZC := Aw.mk hzc
      have HRC := Aw.mk hRc
      clear hb1 hT hzc hRc hwx c0 c1 c2 c3 c4 c5 hb0
      cases ok
      · have hEw := HE.out
        obtain ⟨b1, off, rfl, hbl1, hs0, hs1, hs2⟩ := hEw.hs i hi
        have hbw : Below w.heap.size w wc := HB1.out.trans (HB2.out.mono HB1.out.size)
        have g1 : wc.cell? ⟨Bw, 1, none⟩ = some (.slice (some ⟨b1, off, none⟩) l.length c) := held_cell ((hEw.hw.cell 1).trans (work_1 ..)) hbw
        have g2 : wc.cell? ⟨b1, off + i * 3, none⟩ = some (.int .i64 (l[i]).take) := held_cell hs0 hbw
        have g3 : wc.cell? ⟨b1, off + i * 3 + 1, none⟩ = some (.int .i64 (l[i]).accept) := held_cell hs1 hbw
        have g4 : wc.cell? ⟨b1, off + i * 3 + 2, none⟩ = some (.int .i64 (l[i]).reject) := held_cell hs2 hbw
        have hi' : (i : Int) < (l.length : Int) := by omega
        have HG : Aw (l.drop i = l[i] :: l.drop (i + 1)) := ⟨List.drop_eq_getElem_cons hi⟩
        obtain ⟨s, hsdef⟩ : ∃ s, s = l[i] := ⟨_, rfl⟩
        rw [← hsdef] at g2 g3 g4 HG
        have HSD := Aw.mk hsdef
        have HBW := Aw.mk hbw
        clear hEw hs0 hs1 hs2 hbl1 hsdef hbw
        obtain ⟨k, r, q⟩ := s
        simp only at g2 g3 g4
        have hfs := HF.out
        rw [HG.out] at hfs
        obtain ⟨hk1, hk2, hk3⟩ := hfs
        simp only at hk1 hk2 hk3
        obtain ⟨k, rfl⟩ : ∃ k' : Nat, k = k' := ⟨k.toNat, by omega⟩
        simp only [Int.toNat_natCast] at hk2 hk3
        have HK3 := Aw.mk hk3
        clear hk3
        go_wp2_with fail
        obtain ⟨w2, hw2⟩ : ∃ w2, w2 = wc.alloc (.cells #[.int .i64 0, .int .i64 0, .int .i64 0] 84) := ⟨_, rfl⟩
        obtain ⟨Bo, hBo⟩ : ∃ Bo, Bo = wc.heap.size := ⟨_, rfl⟩
        rw [← hw2, ← hBo]
        have hb2 : Below wc.heap.size wc w2 := by rw [hw2]; exact (Below.refl _ _).alloc (Nat.le_refl _) _
        have e0 := held_cell d0 hb2
        have e1 := held_cell g1 hb2
        have e2 := held_cell d2 hb2
        have e3 := held_cell g2 hb2
        have e4 := held_cell g3 hb2
        have e5 := held_cell g4 hb2
        have hO2 : Blk w2 Bo #[.int .i64 0, .int .i64 0, .int .i64 0] 84 := by rw [hw2, hBo]; exact Blk.new _ _ _
        have HO2 := Aw.mk hO2
        have HB3 := Aw.mk hb2
        have HBo := Aw.mk hBo
        have KS2 := Aw.mk (show ∀ W, Below w2.heap.size w2 W → (W.cell? ⟨Bx, 0, none⟩ = some (.pointer (some ⟨Bw, 0, none⟩)) ∧ W.cell? ⟨Bw, 1, none⟩ = some (.slice (some ⟨b1, off, none⟩) l.length c) ∧ W.cell? ⟨Bs, 0, none⟩ = some (.int .i64 i) ∧ W.cell? ⟨b1, off + i * 3, none⟩ = some (.int .i64 k) ∧ W.cell? ⟨b1, off + i * 3 + 1, none⟩ = some (.int .i64 r) ∧ W.cell? ⟨b1, off + i * 3 + 2, none⟩ = some (.int .i64 q) ∧ Below w2.heap.size w2 W) from fun W hb =>
          ⟨held_cell e0 hb, held_cell e1 hb, held_cell e2 hb, held_cell e3 hb, held_cell e4 hb, held_cell e5 hb, hb⟩)
        have e6 : w2.cell? ⟨Bs, 1, none⟩ = some (.int .i64 t) := held_cell d3 hb2
        have e7 : w2.cell? ⟨Bs, 2, none⟩ = some (.int .i64 b) := held_cell d4 hb2
        clear hw2 hb2 hBo d0 d1 d2 d3 d4 g1 g2 g3 g4 r0 r1 r2 z0 z1 z2 t0 t1 t2 hO2 d5
        have hb0 : Below w2.heap.size w2 w2.drew := (Below.refl _ _).drew
        go_cut [8] from 8 to 33 (fun s8 wx => s8 = .pointer (some ⟨w2.heap.size, 0, none⟩) ∧ wx = (w2.alloc (.cells #[.int .i64 k, .int .i64 r, .int .i64 q] 61)).drew)
        case first =>
          go_region_held3 (fun W => W.cell? ⟨Bx, 0, none⟩ = some (.pointer (some ⟨Bw, 0, none⟩)) ∧ W.cell? ⟨Bw, 1, none⟩ = some (.slice (some ⟨b1, off, none⟩) l.length c) ∧ W.cell? ⟨Bs, 0, none⟩ = some (.int .i64 i) ∧ W.cell? ⟨b1, off + i * 3, none⟩ = some (.int .i64 k) ∧ W.cell? ⟨b1, off + i * 3 + 1, none⟩ = some (.int .i64 r) ∧ W.cell? ⟨b1, off + i * 3 + 2, none⟩ = some (.int .i64 q) ∧ Below w2.heap.size w2 W)
            ((refine KS2.out _ ?_; repeat (first | exact hb0 | exact Below.refl _ _ | (refine Below.alloc ?_ (by first | (simp; done) | (simp; omega)) _) | (refine Below.setCell ?_ (by first | (simp; done) | (simp; omega)) _) | refine Below.drew ?_)))
            (fail)
          all_goals
            go_wp2_with fail
            go_meet
            exact ⟨rfl, rfl⟩
        case rest =>
          obtain ⟨rfl, hwx⟩ := hcut
          obtain ⟨Bt, hBt⟩ : ∃ Bt, Bt = w2.heap.size := ⟨_, rfl⟩
          rw [← hBt]
          have hb3 : Below w2.heap.size w2 wc := by rw [hwx]; exact ((Below.refl _ _).alloc (Nat.le_refl _) _).drew
          have hT : Blk wc Bt #[.int .i64 k, .int .i64 r, .int .i64 q] 61 := by rw [hwx, hBt]; exact (Blk.new _ _ _).drew
          have hbw : Below w.heap.size w wc := HBW.out.trans (((HB3.out.trans (hb3.mono HB3.out.size)).mono HBW.out.size))
          have hEc := HE.out.below hbw
          have hO := HO2.out.below hb3 HO2.out.lt
          have hSc : Blk wc Bs #[.int .i64 i, .int .i64 t, .int .i64 b] 111 := ((HS.out.below HB2.out HS.out.lt).below HB3.out (HS.out.below HB2.out HS.out.lt).lt).below hb3 (((HS.out.below HB2.out HS.out.lt).below HB3.out (HS.out.below HB2.out HS.out.lt).lt)).lt
          have hRc : Blk wc Br #[.int .i64 0, .int .i64 0, .int .i64 0] 84 := (HRC.out.below HB3.out HRC.out.lt).below hb3 (HRC.out.below HB3.out HRC.out.lt).lt
          have hmc : wc.heap[m]? = some (.map es clock) := (hbw.block m (Array.getElem?_eq_some_iff.1 HM.out).1).trans HM.out
          have hw0 : w.heap.size ≤ Bs ∧ w.heap.size ≤ Br ∧ w.heap.size ≤ Bo ∧ w.heap.size ≤ Bt ∧ Br ≠ Bo ∧ Bs ≠ Bo ∧ Bt ≠ Bo := by
            have := HBs.out; have := HBr.out; have := HBo.out; have := HZ.out; have := HB2.out.size; have := HZC.out; have := HB3.out.size; have := HO2.out.lt
            refine ⟨?_, ?_, ?_, ?_, ?_, ?_, ?_⟩ <;> omega
          obtain ⟨lf, hlf⟩ : ∃ lf, t + lf = lot := ⟨lot - t, by omega⟩
          obtain ⟨bd, hbd⟩ : ∃ bd, b + bd = bad := ⟨bad - b, by omega⟩
          obtain ⟨gd, hgd⟩ : ∃ gd, bd + gd = lf := ⟨lf - bd, by omega⟩
          have HDR := Aw.mk (drawn_any lot hlot (some ⟨b1, off, none⟩) c bad m Bw l hlen i t b k lf bd wc hi (by rw [← HSD.out]) hlf hbd hbl hEc.hw hEc.hs)
          have e0 : wc.cell? ⟨Bx, 0, none⟩ = some (.pointer (some ⟨Bw, 0, none⟩)) := hEc.hx.cell 0
          have e1 : wc.cell? ⟨Bs, 0, none⟩ = some (.int .i64 i) := hSc.cell 0
          have e2 : wc.cell? ⟨Bs, 1, none⟩ = some (.int .i64 t) := hSc.cell 1
          have e3 : wc.cell? ⟨Bs, 2, none⟩ = some (.int .i64 b) := hSc.cell 2
          have HT := Aw.mk hT
          have HEc := Aw.mk hEc
          have HO := Aw.mk hO
          have HSc := Aw.mk hSc
          have HRc := Aw.mk hRc
          have HMc := Aw.mk hmc
          have HBWc := Aw.mk hbw
          have HW0 := Aw.mk hw0
          have HLF := Aw.mk hlf
          have HBD := Aw.mk hbd
          have HGD := Aw.mk hgd
          clear hwx hBt hb3 hT hbw hEc hO hSc hRc hmc hw0 hlf hbd hgd hb0 e6 e7
          go_wp2_with (go_at_call 63; refine HDR.out.mono ?_; intro e w' hDP; obtain ⟨b5, b6, b7, b2, rfl, hq⟩ := hDP; have HQ := Aw.mk hq; clear hq)
          obtain ⟨G, hG⟩ : ∃ G : Int → Cnt, G = fun x => decided lot ⟨k, r, q⟩ (l.drop (i + 1)) (t + k) ((b : Int) + x) (cntW lot bad (l.drop (i + 1)) (t + k) (b + x.toNat)) := ⟨_, rfl⟩
          obtain ⟨hq7, hq5, hq6, hq2, hl5, hl6, hl7, hl2, hbq⟩ := HQ.out
          have hmw : m < wc.heap.size := (Array.getElem?_eq_some_iff.1 HMc.out).1
          have hst := JF.stab (lot := lot) (bad := bad) (l := l) (G := G) hmw HO.out.lt
          refine wpIn_wide.1 (range_law (gf := 66) (lb := #[.pointer (some ⟨b7, 0, none⟩), .pointer (some ⟨b5, 0, none⟩), .pointer (some ⟨b6, 0, none⟩), .pointer (some ⟨b2, 0, none⟩)]) rfl (enters_of Try.func66 (by kernel_rfl) rfl)
            (encs := fun x : Int × Int => #[.int .i64 x.1, .int .i64 x.2]) (R := fun k => k = Bw) (ok := listOk (drList k lf bd)) (S := fun xs => xs = drList k lf bd) (Sp := fun _ => True)
            (JF lot bad m l G Bo wc) (fun _ _ _ _ => False) hst (fun _ _ _ _ _ _ h => h.elim) (fun k => k = b7 ∨ k = b5 ∨ k = b6 ∨ k = b2) ?hX0 ?hR ?h0 (fun _ => rfl) ?hseq
            (fun X pre x a W => JaF lot bad m l G Bx Bf Bs Br Bo Bt wc X pre x a W) ?hJa ?hassign ?hbody ?hdone (fun _ _ _ _ _ _ h => h.elim))
          case hX0 =>
            rintro k (rfl | rfl | rfl | rfl)
            · exact hq7.lt
            · exact hq5.lt
            · exact hq6.lt
            · exact hq2.lt
          case hR =>
            rintro k rfl
            exact Nat.lt_of_lt_of_le HEc.out.hw.lt hbq.size
          case h0 =>
            refine ⟨Chg.below hbq _, ?_, HO.out.below hbq HO.out.lt, Known.below ⟨es, clock, HMc.out, HEN.out⟩ hbq⟩
            rintro k (rfl | rfl | rfl | rfl) <;> assumption
          case hseq =>
            intro l' J' Jx' W1 hc1 hJ' hJx' hRo h0'
            have hn1 : ∀ {b : Nat} {cs : Array Value} {t : Nat}, Blk w' b cs t → Blk W1 b cs t := fun h => h.chg hc1 (fun h => h)
            have hlf := HLF.out
            have hgd := HGD.out
            refine (drawn1_any k lf bd gd b7 b5 b6 b2 Bw l' (work lot (some ⟨b1, off, none⟩) l.length c bad m) J' Jx' hJ' _ W1 (by omega) (by omega) HGD.out (by omega) (by omega)
              (fun i j hi hj => work_tri _ _ _ _ _ _ i j hi hj) ⟨hn1 hq7, hn1 hq5, hn1 hq6, hn1 hq2, hn1 (HEc.out.hw.below hbq HEc.out.hw.lt)⟩ ?_ (.inl rfl) (.inr (.inl rfl)) (.inr (.inr (.inl rfl))) (.inr (.inr (.inr rfl))) hRo h0').mono ?_
            · rintro k (rfl | rfl | rfl | rfl)
              · exact (hn1 hq7).lt
              · exact (hn1 hq5).lt
              · exact (hn1 hq6).lt
              · exact (hn1 hq2).lt
            · intro e W' h
              exact h
          case hJa =>
            intro x a' X Y pre W W' h hc hY hYl
            exact { h with j := hst X Y pre W W' h.j hc hY hYl }
          case hassign =>
            intro l' X pre x W hJ hok hX
            have HJ := Aw.mk hJ
            clear hJ hX hG
            simp only [List.zip_toArray, List.zip_cons_cons, List.zip_nil_left, List.zip_nil_right, List.foldl_toArray, List.foldl_cons, List.foldl_nil, List.setIfInBounds_toArray, List.set_cons_succ, List.set_cons_zero]
            gi_wp2
            refine ⟨Keep.refl _ _, ⟨HJ.out, rfl, rfl, rfl, rfl, rfl, rfl, rfl, rfl, rfl, rfl⟩⟩
          case hbody =>
            intro l' X pre x a' W hja hok hX
            obtain ⟨j, hj, hpre, hx⟩ := hok
            rw [drList_get] at hx
            rw [drList_length] at hj
            obtain ⟨n, hn⟩ : ∃ n, n = drLo k lf bd + j := ⟨_, rfl⟩
            rw [← hn] at hx
            have hlf := HLF.out
            have hbd := HBD.out
            have hgd := HGD.out
            have hlo : drLo k lf bd = k - (lf - bd) := rfl
            have hn1 : n ≤ k := by omega
            have hn2 : n ≤ bd := by omega
            have hn3 : k + bd ≤ lf + n := by omega
            have hx1 : x.1 = (n : Int) := by rw [hx]; rfl
            have hbn : b + n ≤ bad := by omega
            have hchW : Chg (fun k => k = m) w W := (Chg.below HBWc.out (fun k => k = m)).trans (hja.j.chg.mono fun k _ hk => hk.imp (fun h => h) (fun h => by rw [h]; exact HW0.out.2.2.1))
            have hEW := HE.out.chg hchW (fun k hk => .inl ⟨es, clock, by rw [hk]; exact HM.out⟩)
            have hne := HW0.out
            have k1 : ∀ {b : Nat} {cs : Array Value} {t : Nat}, Blk wc b cs t → b ≠ Bo → Blk W b cs t := fun {b cs t} h hb => h.chg hja.j.chg (fun hx => hx.elim (fun e => not_map HMc.out h e) hb)
            have hSW := k1 HSc.out hne.2.2.2.2.2.1
            have hTW := k1 HT.out hne.2.2.2.2.2.2
            have hRC := Aw.mk (show ∀ V, Below W.heap.size W V → Calls Try.prog 64 #[.pointer (some ⟨Bw, 0, none⟩), .int .i64 ((i : Int) + 1), .int .i64 ((t : Int) + (k : Int))] V fun e w' => e = .returned (.int .i64 (restW lot (t + k) (l.drop (i + 1)))) ∧ Below V.heap.size V w' from fun V hV => by
              have := rest_any lot hlot (some ⟨b1, off, none⟩) c bad m Bw l hlen (l.length - (i + 1)) (i + 1) (t + k) V (by omega) hk2 HK3.out (hEW.below hV).hw (hEW.below hV).hs
              exact_mod_cast this)
            obtain ⟨rst, hrst⟩ : ∃ rst, rst = restW lot (t + k) (l.drop (i + 1)) := ⟨_, rfl⟩
            rw [← hrst] at hRC
            have hSA := fun V => says_any ⟨(k : Int), r, q⟩ ((b : Int) + (n : Int)) V
            obtain ⟨sv, hsv⟩ : ∃ sv, sv = saysV ⟨(k : Int), r, q⟩ ((b : Int) + (n : Int)) := ⟨_, rfl⟩
            rw [← hsv] at hSA
            unfold Stg.enc at hSA
            have g0 : W.cell? ⟨Bx, 0, none⟩ = some (.pointer (some ⟨Bw, 0, none⟩)) := hEW.hx.cell 0
            have g1 : W.cell? ⟨Bs, 0, none⟩ = some (.int .i64 i) := hSW.cell 0
            have g2 : W.cell? ⟨Bs, 1, none⟩ = some (.int .i64 t) := hSW.cell 1
            have g3 : W.cell? ⟨Bs, 2, none⟩ = some (.int .i64 b) := hSW.cell 2
            have g4 : W.cell? ⟨Bt, 0, none⟩ = some (.int .i64 k) := hTW.cell 0
            have g5 : W.cell? ⟨Bt, 1, none⟩ = some (.int .i64 r) := hTW.cell 1
            have g6 : W.cell? ⟨Bt, 2, none⟩ = some (.int .i64 q) := hTW.cell 2
            have v1 : IntKind.i64.wrap ((i : Int) + 1) = (i : Int) + 1 := IntWalk.i64_in _ (by omega)
            have v2 : IntKind.i64.wrap ((t : Int) + (k : Int)) = (t : Int) + (k : Int) := IntWalk.i64_in _ (by omega)
            have v3 : IntKind.i64.wrap ((b : Int) + (n : Int)) = (b : Int) + (n : Int) := IntWalk.i64_in _ (by omega)
            have lx : Bx < W.heap.size := hEW.hx.lt
            have lt : Bt < W.heap.size := hTW.lt
            have p1 : slot a' 1 = .pointer (some ⟨Bx, 0, none⟩) := hja.s1
            have p2 : slot a' 2 = .pointer (some ⟨Bf, 0, none⟩) := hja.s2
            have p3 : slot a' 3 = .pointer (some ⟨Bs, 0, none⟩) := hja.s3
            have p4 : slot a' 4 = .pointer (some ⟨Br, 0, none⟩) := hja.s4
            have p7 : slot a' 7 = .pointer (some ⟨Bo, 0, none⟩) := hja.s7
            have p8 : slot a' 8 = .pointer (some ⟨Bt, 0, none⟩) := hja.s8
            have p9 : slot a' 9 = .int .i64 n := hja.s9.trans (by rw [hx1])
            have p10 : slot a' 10 = .int .i64 x.2 := hja.s10
            have hdf := hja.df
            rw [frame_lit' a' 116 hja.sz, hdf]
            simp only [List.range, List.range.loop, List.map_cons, List.map_nil, p1, p2, p3, p4, p7, p8, p9, p10]
            clear p1 p2 p3 p4 p7 p8 p9 p10 hdf
            generalize a' = a''
            have HJA := Aw.mk hja.j
            have HEW := Aw.mk hEW
            have HX1 := Aw.mk hx1
            have HSA := Aw.mk hSA
            have HSV := Aw.mk hsv
            have HRST := Aw.mk hrst
            have HGG := Aw.mk hG
            have HNE := Aw.mk (show n ≤ k ∧ b + n ≤ bad ∧ bad + (t + k) ≤ lot + (b + n) by omega)
            have HTW := Aw.mk hTW
            have HSW := Aw.mk hSW
            have HCW := Aw.mk hchW
            have HST := Aw.mk hst
            clear hja hEW hx hx1 hSA hsv hrst hG hst hTW hSW hchW hlf hbd hgd hlo hn hn1 hn2 hn3 hbn hj hpre hne k1 hX hq7 hq5 hq6 hq2 hl5 hl6 hl7 hl2 hbq hmw hL
            have hsv3 : sv = 1 ∨ sv = 2 ∨ sv = 3 := by rw [HSV.out]; unfold saysV; split; exact .inl rfl; split; exact .inr (.inl rfl); exact .inr (.inr rfl)
            rcases hsv3 with rfl | rfl | rfl
            · gi_wp2_with (first
                | (refine ⟨trivial, rfl, (CallsIn.inRound l' (callsIn_wide.2 (hRC.out _ ((Below.refl _ _).alloc (Nat.le_refl _) _)))).mono ?_⟩
                   intro e V1 hp
                   obtain ⟨rfl, hb1⟩ := hp
                   have HV1 := Aw.mk (((Below.refl W.heap.size W).alloc (Nat.le_refl _) (.cells #[.int .i64 ((i : Int) + 1), .int .i64 ((t : Int) + (k : Int)), .int .i64 ((b : Int) + (n : Int))] 111)).trans (hb1.mono (by simp)))
                   have HK1 := Aw.mk ((Blk.new W #[.int .i64 ((i : Int) + 1), .int .i64 ((t : Int) + (k : Int)), .int .i64 ((b : Int) + (n : Int))] 111).below hb1 (by simp))
                   have HT1 := Aw.mk (HTW.out.below HV1.out HTW.out.lt)
                   have q0 : V1.cell? ⟨W.heap.size, 0, none⟩ = some (.int .i64 ((i : Int) + 1)) := HK1.out.cell 0
                   have q1 : V1.cell? ⟨W.heap.size, 1, none⟩ = some (.int .i64 ((t : Int) + (k : Int))) := HK1.out.cell 1
                   have q2 : V1.cell? ⟨W.heap.size, 2, none⟩ = some (.int .i64 ((b : Int) + (n : Int))) := HK1.out.cell 2
                   have q3 : V1.cell? ⟨Bt, 0, none⟩ = some (.int .i64 k) := HT1.out.cell 0
                   have q4 : V1.cell? ⟨Bt, 1, none⟩ = some (.int .i64 r) := HT1.out.cell 1
                   have q5 : V1.cell? ⟨Bt, 2, none⟩ = some (.int .i64 q) := HT1.out.cell 2
                   have l1 := HK1.out.lt
                   have l2 := HT1.out.lt
                   clear hb1)
                | (refine ⟨trivial, rfl, (CallsIn.inRound l' (callsIn_wide.2 (HSA.out _))).mono ?_⟩
                   intro e V2 hp
                   obtain ⟨rfl, hb2⟩ := hp
                   have hb3 : Below V1.heap.size V1 V2 := ((Below.refl V1.heap.size V1).alloc (Nat.le_refl _) (.cells #[.int .i64 0, .int .i64 0, .int .i64 0] 84)).trans (hb2.mono (by simp))
                   have HV2 := Aw.mk (HV1.out.trans (hb3.mono HV1.out.size))
                   have HK2 := Aw.mk (HK1.out.below hb3 HK1.out.lt)
                   have HN2 := Aw.mk ((Blk.new V1 #[.int .i64 0, .int .i64 0, .int .i64 0] 84).below hb2 (by simp))
                   have m0 : V2.cell? ⟨W.heap.size, 0, none⟩ = some (.int .i64 ((i : Int) + 1)) := HK2.out.cell 0
                   have m1 : V2.cell? ⟨W.heap.size, 1, none⟩ = some (.int .i64 ((t : Int) + (k : Int))) := HK2.out.cell 1
                   have m2 : V2.cell? ⟨W.heap.size, 2, none⟩ = some (.int .i64 ((b : Int) + (n : Int))) := HK2.out.cell 2
                   have m3 : V2.cell? ⟨V1.heap.size, 0, none⟩ = some (.int .i64 0) := HN2.out.cell 0
                   have m4 : V2.cell? ⟨V1.heap.size, 1, none⟩ = some (.int .i64 0) := HN2.out.cell 1
                   have m5 : V2.cell? ⟨V1.heap.size, 2, none⟩ = some (.int .i64 0) := HN2.out.cell 2
                   have m6 : V2.frozen? ⟨V1.heap.size, 0, none⟩ = false := HN2.out.frozen 0
                   have m7 : V2.frozen? ⟨V1.heap.size, 1, none⟩ = false := HN2.out.frozen 1
                   have m8 : V2.frozen? ⟨V1.heap.size, 2, none⟩ = false := HN2.out.frozen 2
                   have l3 := HK2.out.lt
                   have l4 := HN2.out.lt
                   have m9 : V2.cell? ⟨Bf, 0, none⟩ = some (.func (.func 62) #[] #[.pointer (some ⟨Bx, 0, none⟩), .pointer (some ⟨Bf, 0, none⟩)]) := (HEW.out.hf.below HV2.out HEW.out.hf.lt).cell 0
                   clear hb2 hb3)
                | (refine ⟨trivial, rfl, (CallsIn.inRound l' (callsIn_wide.2 (times_new _ _ _))).mono ?_⟩; intro e V3 hp; obtain ⟨rfl, rfl⟩ := hp))
              have hB4 : Below W.heap.size W (((((V2.setCell ⟨V1.heap.size, 0, none⟩ (.int .i64 rst)).setCell ⟨V1.heap.size, 1, none⟩ (.int .i64 (wrap64 (((t : Int) + (k : Int)) * rst)))).setCell ⟨V1.heap.size, 2, none⟩ (.int .i64 rst)).alloc (.cells #[.int .i64 ((t : Int) + (k : Int)), .int .i64 rst] 3))) :=
                Chg.toBelow (((((Chg.below HV2.out (fun _ => False)).setCell (.inr (Nat.le_of_lt l1)) _).setCell (.inr (Nat.le_of_lt l1)) _).setCell (.inr (Nat.le_of_lt l1)) _).alloc _) (Nat.le_refl _) (fun _ h => h.elim)
              have hmw' := (Array.getElem?_eq_some_iff.1 HM.out).1
              have hg : G x.1 = ⟨rst, wrap64 (((t : Int) + (k : Int)) * rst), rst⟩ := by
                rw [HGG.out, HX1.out]
                show decided lot ⟨(k : Int), r, q⟩ (l.drop (i + 1)) (t + k) ((b : Int) + (n : Int)) (cntW lot bad (l.drop (i + 1)) (t + k) (b + (n : Int).toNat)) = _
                unfold decided
                rw [← HSV.out, ← HRST.out]
                simp [Int.natCast_add]
              refine add_region (some l') Bo V1.heap.size (pre.foldl (fun (o : Cnt) x => o.add x.2 (G x.1)) ⟨0, 0, 0⟩) ⟨rst, wrap64 (((t : Int) + (k : Int)) * rst), rst⟩ x.2 _ _ _ rfl rfl rfl rfl (HJA.out.out.below hB4 HJA.out.out.lt) ((HN2.out.set3 _ _ _).alloc _) ?_
              intro a V hc hblk
              exact JF.round HJA.out (Array.getElem?_eq_some_iff.1 HMc.out).1 HO.out.lt (by have := HW0.out; omega) (not_map HM.out HE.out.hw) (by have := HE.out.hw.lt; have := HW0.out; omega) (Chg.below hB4 _) (HJA.out.known.below hB4) hc (by rw [hg]; exact hblk)
            · gi_wp2_with (first
                | (refine ⟨trivial, rfl, (CallsIn.inRound l' (callsIn_wide.2 (hRC.out _ ((Below.refl _ _).alloc (Nat.le_refl _) _)))).mono ?_⟩
                   intro e V1 hp
                   obtain ⟨rfl, hb1⟩ := hp
                   have HV1 := Aw.mk (((Below.refl W.heap.size W).alloc (Nat.le_refl _) (.cells #[.int .i64 ((i : Int) + 1), .int .i64 ((t : Int) + (k : Int)), .int .i64 ((b : Int) + (n : Int))] 111)).trans (hb1.mono (by simp)))
                   have HK1 := Aw.mk ((Blk.new W #[.int .i64 ((i : Int) + 1), .int .i64 ((t : Int) + (k : Int)), .int .i64 ((b : Int) + (n : Int))] 111).below hb1 (by simp))
                   have HT1 := Aw.mk (HTW.out.below HV1.out HTW.out.lt)
                   have q0 : V1.cell? ⟨W.heap.size, 0, none⟩ = some (.int .i64 ((i : Int) + 1)) := HK1.out.cell 0
                   have q1 : V1.cell? ⟨W.heap.size, 1, none⟩ = some (.int .i64 ((t : Int) + (k : Int))) := HK1.out.cell 1
                   have q2 : V1.cell? ⟨W.heap.size, 2, none⟩ = some (.int .i64 ((b : Int) + (n : Int))) := HK1.out.cell 2
                   have q3 : V1.cell? ⟨Bt, 0, none⟩ = some (.int .i64 k) := HT1.out.cell 0
                   have q4 : V1.cell? ⟨Bt, 1, none⟩ = some (.int .i64 r) := HT1.out.cell 1
                   have q5 : V1.cell? ⟨Bt, 2, none⟩ = some (.int .i64 q) := HT1.out.cell 2
                   have l1 := HK1.out.lt
                   have l2 := HT1.out.lt
                   clear hb1)
                | (refine ⟨trivial, rfl, (CallsIn.inRound l' (callsIn_wide.2 (HSA.out _))).mono ?_⟩
                   intro e V2 hp
                   obtain ⟨rfl, hb2⟩ := hp
                   have hb3 : Below V1.heap.size V1 V2 := ((Below.refl V1.heap.size V1).alloc (Nat.le_refl _) (.cells #[.int .i64 0, .int .i64 0, .int .i64 0] 84)).trans (hb2.mono (by simp))
                   have HV2 := Aw.mk (HV1.out.trans (hb3.mono HV1.out.size))
                   have HK2 := Aw.mk (HK1.out.below hb3 HK1.out.lt)
                   have HN2 := Aw.mk ((Blk.new V1 #[.int .i64 0, .int .i64 0, .int .i64 0] 84).below hb2 (by simp))
                   have m0 : V2.cell? ⟨W.heap.size, 0, none⟩ = some (.int .i64 ((i : Int) + 1)) := HK2.out.cell 0
                   have m1 : V2.cell? ⟨W.heap.size, 1, none⟩ = some (.int .i64 ((t : Int) + (k : Int))) := HK2.out.cell 1
                   have m2 : V2.cell? ⟨W.heap.size, 2, none⟩ = some (.int .i64 ((b : Int) + (n : Int))) := HK2.out.cell 2
                   have m3 : V2.cell? ⟨V1.heap.size, 0, none⟩ = some (.int .i64 0) := HN2.out.cell 0
                   have m4 : V2.cell? ⟨V1.heap.size, 1, none⟩ = some (.int .i64 0) := HN2.out.cell 1
                   have m5 : V2.cell? ⟨V1.heap.size, 2, none⟩ = some (.int .i64 0) := HN2.out.cell 2
                   have m6 : V2.frozen? ⟨V1.heap.size, 0, none⟩ = false := HN2.out.frozen 0
                   have m7 : V2.frozen? ⟨V1.heap.size, 1, none⟩ = false := HN2.out.frozen 1
                   have m8 : V2.frozen? ⟨V1.heap.size, 2, none⟩ = false := HN2.out.frozen 2
                   have l3 := HK2.out.lt
                   have l4 := HN2.out.lt
                   have m9 : V2.cell? ⟨Bf, 0, none⟩ = some (.func (.func 62) #[] #[.pointer (some ⟨Bx, 0, none⟩), .pointer (some ⟨Bf, 0, none⟩)]) := (HEW.out.hf.below HV2.out HEW.out.hf.lt).cell 0
                   clear hb2 hb3)
                | (refine ⟨trivial, rfl, (CallsIn.inRound l' (callsIn_wide.2 (times_new _ _ _))).mono ?_⟩; intro e V3 hp; obtain ⟨rfl, rfl⟩ := hp))
              have hB4 : Below W.heap.size W (((((V2.setCell ⟨V1.heap.size, 0, none⟩ (.int .i64 0)).setCell ⟨V1.heap.size, 1, none⟩ (.int .i64 (wrap64 (((t : Int) + (k : Int)) * rst)))).setCell ⟨V1.heap.size, 2, none⟩ (.int .i64 rst)).alloc (.cells #[.int .i64 ((t : Int) + (k : Int)), .int .i64 rst] 3))) :=
                Chg.toBelow (((((Chg.below HV2.out (fun _ => False)).setCell (.inr (Nat.le_of_lt l1)) _).setCell (.inr (Nat.le_of_lt l1)) _).setCell (.inr (Nat.le_of_lt l1)) _).alloc _) (Nat.le_refl _) (fun _ h => h.elim)
              have hmw' := (Array.getElem?_eq_some_iff.1 HM.out).1
              have hg : G x.1 = ⟨0, wrap64 (((t : Int) + (k : Int)) * rst), rst⟩ := by
                rw [HGG.out, HX1.out]
                show decided lot ⟨(k : Int), r, q⟩ (l.drop (i + 1)) (t + k) ((b : Int) + (n : Int)) (cntW lot bad (l.drop (i + 1)) (t + k) (b + (n : Int).toNat)) = _
                unfold decided
                rw [← HSV.out, ← HRST.out]
                simp [Int.natCast_add]
              refine add_region (some l') Bo V1.heap.size (pre.foldl (fun (o : Cnt) x => o.add x.2 (G x.1)) ⟨0, 0, 0⟩) ⟨0, wrap64 (((t : Int) + (k : Int)) * rst), rst⟩ x.2 _ _ _ rfl rfl rfl rfl (HJA.out.out.below hB4 HJA.out.out.lt) ((HN2.out.set3 _ _ _).alloc _) ?_
              intro a V hc hblk
              exact JF.round HJA.out (Array.getElem?_eq_some_iff.1 HMc.out).1 HO.out.lt (by have := HW0.out; omega) (not_map HM.out HE.out.hw) (by have := HE.out.hw.lt; have := HW0.out; omega) (Chg.below hB4 _) (HJA.out.known.below hB4) hc (by rw [hg]; exact hblk)
            · have hd1 : 1 ≤ d := by
                rcases Nat.eq_zero_or_pos d with rfl | h
                · have h1 := lastDec_drop i l hld
                  have h2 : l.drop (i + 1) = [] := List.drop_eq_nil_of_le (by have := HD.out; omega)
                  rw [HG.out, h2] at h1
                  exact absurd HSV.out.symm (lastDec_open h1)
                · exact h
              have hIH : ∃ ca cp cd : Int, cntW lot bad (l.drop (i + 1)) (t + k) (b + n) = ⟨ca, cp, cd⟩ ∧ ∀ V, Env lot (some ⟨b1, off, none⟩) c bad m Bw Bx Bf l V → Known lot bad m l V →
                  Calls Try.prog 62 #[.agg #[.int .i64 ((i : Int) + 1), .int .i64 ((t : Int) + (k : Int)), .int .i64 ((b : Int) + (n : Int))], .pointer (some ⟨Bx, 0, none⟩), .pointer (some ⟨Bf, 0, none⟩)] V fun e w' => e = .returned (.agg #[.int .i64 ca, .int .i64 cp, .int .i64 cd]) ∧ Chg (fun k => k = m) V w' ∧ Known lot bad m l w' := by
                refine ⟨_, _, _, rfl, fun V hEV hKV => ?_⟩
                have h1 := HNE.out
                have h2 := HIH.out (d - 1) (by omega) (i + 1) (t + k) (b + n) V (by have := HD.out; omega) hk2 h1.2.1 h1.2.2 HK3.out hEV hKV
                unfold keyV at h2
                refine Calls.mono (by exact_mod_cast h2) ?_
                intro e w' h
                exact h
              obtain ⟨ca, cp, cd, hcc, hIH⟩ := hIH
              have HI := Aw.mk hIH
              have HCC := Aw.mk hcc
              clear hIH hcc
              gi_wp2_with (first
                | (refine ⟨trivial, rfl, (CallsIn.inRound l' (callsIn_wide.2 (hRC.out _ ((Below.refl _ _).alloc (Nat.le_refl _) _)))).mono ?_⟩
                   intro e V1 hp
                   obtain ⟨rfl, hb1⟩ := hp
                   have HV1 := Aw.mk (((Below.refl W.heap.size W).alloc (Nat.le_refl _) (.cells #[.int .i64 ((i : Int) + 1), .int .i64 ((t : Int) + (k : Int)), .int .i64 ((b : Int) + (n : Int))] 111)).trans (hb1.mono (by simp)))
                   have HK1 := Aw.mk ((Blk.new W #[.int .i64 ((i : Int) + 1), .int .i64 ((t : Int) + (k : Int)), .int .i64 ((b : Int) + (n : Int))] 111).below hb1 (by simp))
                   have HT1 := Aw.mk (HTW.out.below HV1.out HTW.out.lt)
                   have q0 : V1.cell? ⟨W.heap.size, 0, none⟩ = some (.int .i64 ((i : Int) + 1)) := HK1.out.cell 0
                   have q1 : V1.cell? ⟨W.heap.size, 1, none⟩ = some (.int .i64 ((t : Int) + (k : Int))) := HK1.out.cell 1
                   have q2 : V1.cell? ⟨W.heap.size, 2, none⟩ = some (.int .i64 ((b : Int) + (n : Int))) := HK1.out.cell 2
                   have q3 : V1.cell? ⟨Bt, 0, none⟩ = some (.int .i64 k) := HT1.out.cell 0
                   have q4 : V1.cell? ⟨Bt, 1, none⟩ = some (.int .i64 r) := HT1.out.cell 1
                   have q5 : V1.cell? ⟨Bt, 2, none⟩ = some (.int .i64 q) := HT1.out.cell 2
                   have l1 := HK1.out.lt
                   have l2 := HT1.out.lt
                   clear hb1)
                | (refine ⟨trivial, rfl, (CallsIn.inRound l' (callsIn_wide.2 (HSA.out _))).mono ?_⟩
                   intro e V2 hp
                   obtain ⟨rfl, hb2⟩ := hp
                   have hb3 : Below V1.heap.size V1 V2 := ((Below.refl V1.heap.size V1).alloc (Nat.le_refl _) (.cells #[.int .i64 0, .int .i64 0, .int .i64 0] 84)).trans (hb2.mono (by simp))
                   have HV2 := Aw.mk (HV1.out.trans (hb3.mono HV1.out.size))
                   have HK2 := Aw.mk (HK1.out.below hb3 HK1.out.lt)
                   have HN2 := Aw.mk ((Blk.new V1 #[.int .i64 0, .int .i64 0, .int .i64 0] 84).below hb2 (by simp))
                   have m0 : V2.cell? ⟨W.heap.size, 0, none⟩ = some (.int .i64 ((i : Int) + 1)) := HK2.out.cell 0
                   have m1 : V2.cell? ⟨W.heap.size, 1, none⟩ = some (.int .i64 ((t : Int) + (k : Int))) := HK2.out.cell 1
                   have m2 : V2.cell? ⟨W.heap.size, 2, none⟩ = some (.int .i64 ((b : Int) + (n : Int))) := HK2.out.cell 2
                   have m3 : V2.cell? ⟨V1.heap.size, 0, none⟩ = some (.int .i64 0) := HN2.out.cell 0
                   have m4 : V2.cell? ⟨V1.heap.size, 1, none⟩ = some (.int .i64 0) := HN2.out.cell 1
                   have m5 : V2.cell? ⟨V1.heap.size, 2, none⟩ = some (.int .i64 0) := HN2.out.cell 2
                   have m6 : V2.frozen? ⟨V1.heap.size, 0, none⟩ = false := HN2.out.frozen 0
                   have m7 : V2.frozen? ⟨V1.heap.size, 1, none⟩ = false := HN2.out.frozen 1
                   have m8 : V2.frozen? ⟨V1.heap.size, 2, none⟩ = false := HN2.out.frozen 2
                   have l3 := HK2.out.lt
                   have l4 := HN2.out.lt
                   have m9 : V2.cell? ⟨Bf, 0, none⟩ = some (.func (.func 62) #[] #[.pointer (some ⟨Bx, 0, none⟩), .pointer (some ⟨Bf, 0, none⟩)]) := (HEW.out.hf.below HV2.out HEW.out.hf.lt).cell 0
                   clear hb2 hb3)
                | (refine ⟨trivial, rfl, (CallsIn.inRound l' (callsIn_wide.2 (HI.out _ (HEW.out.below HV2.out) (HJA.out.known.below HV2.out)))).mono ?_⟩
                   intro e V3 hp
                   obtain ⟨rfl, hc3, hk3⟩ := hp
                   obtain ⟨es3, cl3, hes3, _⟩ := HJA.out.known.below HV2.out
                   have HN3 := Aw.mk (HN2.out.chg hc3 (not_map hes3 HN2.out))
                   have HC3 := Aw.mk hc3
                   have HK3' := Aw.mk hk3
                   have n3 : V3.cell? ⟨V1.heap.size, 0, none⟩ = some (.int .i64 0) := HN3.out.cell 0
                   have n4 : V3.cell? ⟨V1.heap.size, 1, none⟩ = some (.int .i64 0) := HN3.out.cell 1
                   have n5 : V3.cell? ⟨V1.heap.size, 2, none⟩ = some (.int .i64 0) := HN3.out.cell 2
                   have n6 : V3.frozen? ⟨V1.heap.size, 0, none⟩ = false := HN3.out.frozen 0
                   have n7 : V3.frozen? ⟨V1.heap.size, 1, none⟩ = false := HN3.out.frozen 1
                   have n8 : V3.frozen? ⟨V1.heap.size, 2, none⟩ = false := HN3.out.frozen 2
                   clear hes3 hc3 hk3)
                | (refine ⟨trivial, rfl, (CallsIn.inRound l' (callsIn_wide.2 (times_new _ _ _))).mono ?_⟩; intro e V3 hp; obtain ⟨rfl, rfl⟩ := hp))
              have hB4 : Chg (fun k => k = m) W (((V3.setCell ⟨V1.heap.size, 0, none⟩ (.int .i64 ca)).setCell ⟨V1.heap.size, 1, none⟩ (.int .i64 cp)).setCell ⟨V1.heap.size, 2, none⟩ (.int .i64 cd)) :=
                ((((Chg.below HV2.out (fun k => k = m)).trans (HC3.out.mono fun _ _ e => .inl e)).setCell (.inr (Nat.le_of_lt l1)) _).setCell (.inr (Nat.le_of_lt l1)) _).setCell (.inr (Nat.le_of_lt l1)) _
              have hg : G x.1 = ⟨ca, cp, cd⟩ := by
                rw [HGG.out, HX1.out]
                show decided lot ⟨(k : Int), r, q⟩ (l.drop (i + 1)) (t + k) ((b : Int) + (n : Int)) (cntW lot bad (l.drop (i + 1)) (t + k) (b + (n : Int).toNat)) = _
                unfold decided
                rw [← HSV.out, if_neg (by decide), if_neg (by decide), Int.toNat_natCast, HCC.out]
              have hmN : m ≠ V1.heap.size := fun e => not_map HM.out HE.out.hw (by have := HE.out.hw.lt; have := (Array.getElem?_eq_some_iff.1 HM.out).1; have := HCW.out.size; omega)
              obtain ⟨es5, cl5, h51, h52⟩ := HK3'.out
              obtain ⟨es6, cl6, h61, _⟩ := HJA.out.known.below HV2.out
              have hBo3 := (HJA.out.out.below HV2.out HJA.out.out.lt).chg HC3.out (not_map h61 (HJA.out.out.below HV2.out HJA.out.out.lt))
              have hBoN : Bo ≠ V1.heap.size := by have := HJA.out.out.lt; omega
              refine add_region (some l') Bo V1.heap.size (pre.foldl (fun (o : Cnt) x => o.add x.2 (G x.1)) ⟨0, 0, 0⟩) ⟨ca, cp, cd⟩ x.2 _ _ _ rfl rfl rfl rfl (((hBo3.other hBoN _).other hBoN _).other hBoN _) (HN3.out.set3 _ _ _) ?_
              intro a V hc hblk
              exact JF.round HJA.out (Array.getElem?_eq_some_iff.1 HMc.out).1 HO.out.lt (by have := HW0.out; have := (Array.getElem?_eq_some_iff.1 HM.out).1; omega) (not_map HM.out HE.out.hw) (by have := HE.out.hw.lt; have := HW0.out; omega) hB4
                ⟨es5, cl5, ((Below.heap_setCell _ _ _ m hmN).trans ((Below.heap_setCell _ _ _ m hmN).trans (Below.heap_setCell _ _ _ m hmN))).trans h51, h52⟩ hc (by rw [hg]; exact hblk)
          case hdone =>
            intro D xs W hD hS hJ hDW
            obtain ⟨es', clock', hm1, hm2⟩ := hJ.known
            have hfold : xs.foldl (fun (o : Cnt) x => o.add x.2 (G x.1)) ⟨0, 0, 0⟩ = cntW lot bad (l.drop i) t b := by
              have h1 := HLF.out
              have h2 := HBD.out
              rw [HG.out, cntW, hS, hG]
              simp only [Int.toNat_natCast]
              rw [show lot - t = lf by omega, show bad - b = bd by omega]
            have hko : knows lot bad l i t b = (cntW lot bad (l.drop i) t b).enc := rfl
            have hout := hJ.out
            rw [hfold] at hout
            obtain ⟨es2, clock2, hU, hU2⟩ := update_any (knows lot bad l) i t b m es' clock' hm2
            have HKO := Aw.mk hko
            rw [hko] at hU
            generalize cntW lot bad (l.drop i) t b = cc at hout hU HKO
            obtain ⟨ca, cp, cd⟩ := cc
            unfold keyV Cnt.enc at hU
            unfold Cnt.cells at hout
            simp only at hU hout
            have hch := hJ.chg
            have hne := HW0.out
            have hmw' := (Array.getElem?_eq_some_iff.1 HM.out).1
            have k1 : ∀ {b : Nat} {cs : Array Value} {t : Nat}, Blk wc b cs t → b ≠ Bo → Blk W b cs t := fun {b cs t} h hb => h.chg hch (fun hx => hx.elim (fun e => not_map HMc.out h e) hb)
            have e0 : W.cell? ⟨Bx, 0, none⟩ = some (.pointer (some ⟨Bw, 0, none⟩)) := (k1 HEc.out.hx (by have := HE.out.hx.lt; omega)).cell 0
            have e1 : W.cell? ⟨Bw, 964, none⟩ = some (.map (some m)) := ((k1 HEc.out.hw (by have := HE.out.hw.lt; omega)).cell _).trans (work_m ..)
            have hRW := k1 HRc.out hne.2.2.2.2.1
            have HRW := Aw.mk hRW
            have HOUT := Aw.mk hout
            have HCH := Aw.mk hch
            have HU2 := Aw.mk hU2
            have HDW := Aw.mk hDW
            have HM1 := Aw.mk hm1
            have hSW := k1 HSc.out hne.2.2.2.2.2.1
            clear hJ hG hfold hko hU2 hch hne hmw' k1 hDW hm2 hS hst hmw hbq hq7 hq5 hq6 hq2 hl5 hl6 hl7 hl2 hL
            dsimp only [Exit.inBlock, Exit.then]
            go_wp2_with fail
            refine wpIn_wide.1 (upd_region none Bx Bw Bs Bo m i t b ⟨ca, cp, cd⟩ es' es2 clock' clock2 _ W _ rfl rfl rfl rfl e0 e1 hSW hout hm1 hU ?_)
            intro a V hdf hsz h4 h7 hcV hoV hmV
            have h4' : slot a 4 = .pointer (some ⟨Br, 0, none⟩) := h4
            have h7' : slot a 7 = .pointer (some ⟨Bo, 0, none⟩) := h7
            clear h4 h7 hU hm1 hout hSW e0 e1
            have hRV := HRW.out.chg hcV (not_map HM1.out HRW.out)
            have HDV := Aw.mk ((hcV.block D (Array.getElem?_eq_some_iff.1 HDW.out).1 (fun e => by have h1 := HDW.out; rw [e, HM1.out] at h1; cases h1)).trans HDW.out)
            have o0 : V.cell? ⟨Bo, 0, none⟩ = some (.int .i64 ca) := hoV.cell 0
            have o1 : V.cell? ⟨Bo, 1, none⟩ = some (.int .i64 cp) := hoV.cell 1
            have o2 : V.cell? ⟨Bo, 2, none⟩ = some (.int .i64 cd) := hoV.cell 2
            have r0 : V.cell? ⟨Br, 0, none⟩ = some (.int .i64 0) := hRV.cell 0
            have r1 : V.cell? ⟨Br, 1, none⟩ = some (.int .i64 0) := hRV.cell 1
            have r2 : V.cell? ⟨Br, 2, none⟩ = some (.int .i64 0) := hRV.cell 2
            have z0 : V.frozen? ⟨Br, 0, none⟩ = false := hRV.frozen 0
            have z1 : V.frozen? ⟨Br, 1, none⟩ = false := hRV.frozen 1
            have z2 : V.frozen? ⟨Br, 2, none⟩ = false := hRV.frozen 2
            have HRV := Aw.mk hRV
            have HMV := Aw.mk hmV
            have HCV := Aw.mk hcV
            clear hRV hmV hcV hoV
            rw [frame_lit' a 116 hsz, hdf]
            simp only [List.range, List.range.loop, List.map_cons, List.map_nil, h4', h7']
            clear hdf hsz h4' h7'
            dsimp only [Exit.then]
            generalize a = a'
            go_wp2_with fail
            have hDB : D ≠ Br := by
              rintro rfl
              have h1 := HRV.out
              unfold Blk at h1
              rw [HDV.out] at h1
              cases h1
            have hmB : m ≠ Br := by
              rintro rfl
              have h1 := HRV.out
              unfold Blk at h1
              rw [HMV.out] at h1
              cases h1
            have hne : ∀ k, k ≠ Br → (((V.setCell ⟨Br, 0, none⟩ (.int .i64 ca)).setCell ⟨Br, 1, none⟩ (.int .i64 cp)).setCell ⟨Br, 2, none⟩ (.int .i64 cd)).heap[k]? = V.heap[k]? := fun k hk =>
              ((Below.heap_setCell _ _ _ k hk).trans (Below.heap_setCell _ _ _ k hk)).trans (Below.heap_setCell _ _ _ k hk)
            have hBr3 := HRV.out.set3 (.int .i64 ca) (.int .i64 cp) (.int .i64 cd)
            refine ⟨by simp, .inl ⟨_, _, rfl, run_takeDeferred ((hne D hDB).trans HDV.out), ?_⟩⟩
            have hw := HW0.out
            have hD2 : wc.heap.size ≤ D := by have := HQ.out.2.2.2.2.2.2.2.2.size; omega
            refine ⟨_, results62 rfl ((World.putObj_heap_other (Ne.symm hDB)).trans hBr3), by rw [HKO.out]; rfl, ?_, es2, clock2, (World.putObj_heap_other ?_).trans ((hne m hmB).trans HMV.out), HU2.out⟩
            · have h1 : Chg (fun k => k = m) w wc := Chg.below HBWc.out _
              have h2 : Chg (fun k => k = m) w W := h1.trans (HCH.out.mono fun k _ hk => hk.imp (fun h => h) (fun h => by rw [h]; exact hw.2.2.1))
              have h3 : Chg (fun k => k = m) w V := h2.trans (HCV.out.mono fun k _ hk => .inl hk)
              exact (((h3.setCell (.inr hw.2.1) _).setCell (.inr hw.2.1) _).setCell (.inr hw.2.1) _).putObj (.inr (Nat.le_trans HBWc.out.size hD2)) _
            · rintro rfl
              have h1 := HDV.out
              rw [HMV.out] at h1
              cases h1
      · go_wp2_with fail
        have hv : Value.agg #[.int .i64 x0, .int .i64 x1, .int .i64 x2] = knows lot bad l i t b := by
          rcases HVOK.out with ⟨_, h⟩ | ⟨h, _⟩
          · exact h
          · cases h
        have hX : Chg (fun k => k = m) w (((wc.setCell ⟨Br, 0, none⟩ (.int .i64 x0)).setCell ⟨Br, 1, none⟩ (.int .i64 x1)).setCell ⟨Br, 2, none⟩ (.int .i64 x2)) := by
          have h1 : Chg (fun k => k = m) w wc := (Chg.below HB1.out _).andBelow HB2.out
          have h2 : w.heap.size ≤ Br := by rw [HBr.out]; exact Nat.le_succ _
          exact ((h1.setCell (.inr h2) _).setCell (.inr h2) _).setCell (.inr h2) _
        have hmm : m < w.heap.size := (Array.getElem?_eq_some_iff.1 HM.out).1
        have hne : ∀ k, k ≠ Br → (((wc.setCell ⟨Br, 0, none⟩ (.int .i64 x0)).setCell ⟨Br, 1, none⟩ (.int .i64 x1)).setCell ⟨Br, 2, none⟩ (.int .i64 x2)).heap[k]? = wc.heap[k]? := fun k hk =>
          ((Below.heap_setCell _ _ _ k hk).trans (Below.heap_setCell _ _ _ k hk)).trans (Below.heap_setCell _ _ _ k hk)
        refine ⟨_, results62 rfl (HRC.out.set3 _ _ _), by rw [hv], hX, es, clock, ?_, HEN.out⟩
        rw [hne m (by rw [HBr.out]; omega)]
        exact d5

end Go.Proofs.Ytigpnafpdmdmhaa.Hand

namespace Go.Proofs.Ytigpnafpdmdmhaa.Hand
open Go.RowKit Go.Shelf

theorem results54 {tmps : Array Value} {W : World} {g : Nat} {x0 x1 x2 : Value} (hp : tmps.getD 2 undef = .pointer (some ⟨g, 0, none⟩)) (h : Blk W g #[x0, x1, x2] 84) :
    (results Try.f54 tmps).run Try.prog W = .ok (.agg #[x0, x1, x2]) W := by
  have c0 : W.cell? ⟨g, 0, none⟩ = some x0 := h.cell 0
  have c1 : W.cell? ⟨g, 1, none⟩ = some x1 := h.cell 1
  have c2 : W.cell? ⟨g, 2, none⟩ = some x2 := h.cell 2
  have e : Try.f54.results = #[.cell 2 84] := rfl
  have hp' : tmps[2]?.getD undef = .pointer (some ⟨g, 0, none⟩) := by simpa using hp
  unfold results
  simp only [e]
  go_simp

/-- What count leaves. -/
def CountPost (c : Cnt) (m : Nat) (w : World) (e : Ending) (w' : World) : Prop := e = .returned c.enc ∧ Chg (fun k => k = m) w w'

set_option maxHeartbeats 4000000 in
theorem count_any (lot bad : Nat) (hlot : lot ≤ 30) (hbl : bad ≤ lot) (A : Option Addr) (c m Bw : Nat) (l : List Stg) (hlen : l.length ≤ 3) (hl0 : l ≠ []) (hld : lastDec l) (hf : fits lot 0 l) (w : World)
    (hB : Blk w Bw (work lot A l.length c bad m) 108) (hS : StAt w A l) (hm : w.heap[m]? = some (.map #[] 0)) :
    Calls Try.prog 54 #[.pointer (some ⟨Bw, 0, none⟩)] w (CountPost (cntW lot bad l 0 0) m w) := by
  have HB := Aw.mk hB
  have HS := Aw.mk hS
  have HM := Aw.mk hm
  have HL := Aw.mk hl0
  have HF := Aw.mk hf
  have HD := Aw.mk hld
  clear hB hS hm hl0 hf hld
  have hC : ∃ x0 x1 x2 : Int, cntW lot bad l 0 0 = ⟨x0, x1, x2⟩ := ⟨_, _, _, rfl⟩
  obtain ⟨x0, x1, x2, hC⟩ := hC
  have HC := Aw.mk hC
  rw [hC]
  clear hC
  have HFR := Aw.mk (show ∀ Bx Bf W, Env lot A c bad m Bw Bx Bf l W → Known lot bad m l W → Calls Try.prog 62 #[.agg #[.int .i64 0, .int .i64 0, .int .i64 0], .pointer (some ⟨Bx, 0, none⟩), .pointer (some ⟨Bf, 0, none⟩)] W fun e w' => e = .returned (.agg #[.int .i64 x0, .int .i64 x1, .int .i64 x2]) ∧ Chg (fun k => k = m) W w' from fun Bx Bf W hE hK => by
    have hpos : 0 < l.length := List.length_pos_iff.2 HL.out
    refine (from_any lot bad hlot hbl A c m Bw Bx Bf l hlen HD.out (l.length - 1) 0 0 0 W (by omega) (by omega) (by omega) (by omega) HF.out hE hK).mono ?_
    rintro e w' ⟨rfl, h2, _⟩
    refine ⟨?_, h2⟩
    unfold knows
    rw [List.drop_zero, HC.out]
    rfl)
  go_enter Try.func54, Try.ntmps54
  go_wp2_with fail
  refine (HFR.out w.heap.size (w.heap.size + 1 + 1) _ ?_ ?_).mono ?_
  · refine ⟨((HB.out.alloc _).alloc _).alloc _, HS.out.below ((((Below.refl w.heap.size w).alloc (Nat.le_refl _) _).alloc (by simp) _).alloc (by simp; omega) _), ((Blk.new w _ _).alloc _).alloc _, ?_⟩
    have := Blk.new ((w.alloc (.cells #[.pointer (some ⟨Bw, 0, none⟩)] 94)).alloc (.cells #[.int .i64 0, .int .i64 0, .int .i64 0] 84)) #[.func (.func 62) #[] #[.pointer (some ⟨w.heap.size, 0, none⟩), .pointer (some ⟨w.heap.size + 1 + 1, 0, none⟩)]] 109
    simpa using this
  · refine ⟨#[], 0, ?_, fun _ h => by cases h⟩
    exact (((((Below.refl w.heap.size w).alloc (Nat.le_refl _) _).alloc (by simp) _).alloc (by simp; omega) _).block m (Array.getElem?_eq_some_iff.1 HM.out).1).trans HM.out
  · intro e V hp
    obtain ⟨rfl, hc⟩ := hp
    have hR0 : Blk (((w.alloc (.cells #[.pointer (some ⟨Bw, 0, none⟩)] 94)).alloc (.cells #[.int .i64 0, .int .i64 0, .int .i64 0] 84)).alloc (.cells #[.func (.func 62) #[] #[.pointer (some ⟨w.heap.size, 0, none⟩), .pointer (some ⟨w.heap.size + 1 + 1, 0, none⟩)]] 109)) (w.heap.size + 1) #[.int .i64 0, .int .i64 0, .int .i64 0] 84 := by
      have := (Blk.new (w.alloc (.cells #[.pointer (some ⟨Bw, 0, none⟩)] 94)) #[.int .i64 0, .int .i64 0, .int .i64 0] 84).alloc (.cells #[.func (.func 62) #[] #[.pointer (some ⟨w.heap.size, 0, none⟩), .pointer (some ⟨w.heap.size + 1 + 1, 0, none⟩)]] 109)
      simpa using this
    have hmlt := (Array.getElem?_eq_some_iff.1 HM.out).1
    have hRV := hR0.chg hc (by omega)
    have hcw : Chg (fun k => k = m) w V := ((((Chg.refl _ w).alloc _).alloc _).alloc _).trans (hc.mono fun k _ h => .inl h)
    have HRV := Aw.mk hRV
    have HCW := Aw.mk hcw
    have r0 : V.cell? ⟨w.heap.size + 1, 0, none⟩ = some (.int .i64 0) := hRV.cell 0
    have r1 : V.cell? ⟨w.heap.size + 1, 1, none⟩ = some (.int .i64 0) := hRV.cell 1
    have r2 : V.cell? ⟨w.heap.size + 1, 2, none⟩ = some (.int .i64 0) := hRV.cell 2
    have z0 : V.frozen? ⟨w.heap.size + 1, 0, none⟩ = false := hRV.frozen 0
    have z1 : V.frozen? ⟨w.heap.size + 1, 1, none⟩ = false := hRV.frozen 1
    have z2 : V.frozen? ⟨w.heap.size + 1, 2, none⟩ = false := hRV.frozen 2
    clear hR0 hmlt hRV hcw hc
    go_wp2_with fail
    refine bodyPost_ret (results54 rfl (HRV.out.set3 _ _ _)) rfl ⟨rfl, ?_⟩
    exact ((HCW.out.setCell (.inr (Nat.le_succ _)) _).setCell (.inr (Nat.le_succ _)) _).setCell (.inr (Nat.le_succ _)) _

end Go.Proofs.Ytigpnafpdmdmhaa.Hand

namespace Go.Proofs.Ytigpnafpdmdmhaa.Hand
open Go.RowKit Go.Shelf

theorem results34 {f : Func} (hf : f.results = #[.cell 4 34]) {tmps : Array Value} {W : World} {g : Nat} {x0 x1 : Value} (hp : tmps.getD 4 undef = .pointer (some ⟨g, 0, none⟩)) (h : Blk W g #[x0, x1] 34) :
    (results f tmps).run Try.prog W = .ok (.agg #[x0, x1]) W := by
  have c0 : W.cell? ⟨g, 0, none⟩ = some x0 := h.cell 0
  have c1 : W.cell? ⟨g, 1, none⟩ = some x1 := h.cell 1
  have hp' : tmps[4]?.getD undef = .pointer (some ⟨g, 0, none⟩) := by simpa using hp
  unfold results
  simp only [hf]
  go_simp

set_option maxHeartbeats 4000000 in
set_option maxRecDepth 10000 in
theorem over_region (Br N D g : Nat) (hg : 0 < g) (hN : N ≤ 9223372036854775807) (hD : D ≤ 9223372036854775807) (a0 : Act) (w0 : World) (Q : Exit → Act → World → Prop) (hsz : a0.tmps.size = 22)
    (f0 : a0.tmps.getD 0 undef = .int .i64 N) (f1 : a0.tmps.getD 1 undef = .int .i64 D) (f4 : a0.tmps.getD 4 undef = .pointer (some ⟨Br, 0, none⟩)) (f5 : a0.tmps.getD 5 undef = .int .i64 g)
    (hb : Blk w0 Br #[.int .i64 0, .int .i64 0] 34)
    (hQ : ∀ (a : Act) (W : World), a.defers = a0.defers → a.tmps.size = 22 → a.tmps.getD 4 undef = .pointer (some ⟨Br, 0, none⟩) → Chg (fun k => k = Br) w0 W → Blk W Br #[.int .i64 ((N / g : Nat) : Int), .int .i64 ((D / g : Nat) : Int)] 34 → Q .normal a W) :
    (Code.region 4 (opsOf Try.f59 4) true).wpIn Fence.wide 0 Try.prog Q a0 w0 := by
  have hg0 : ((g : Int) == 0) = false := by simp; omega
  have hg1 : ((g : Int) != 0) = true := by simp; omega
  have q1 : IntKind.i64.wrap (Int.tdiv (N : Int) (g : Int)) = ((N / g : Nat) : Int) := by
    rw [show Int.tdiv (N : Int) (g : Int) = ((N / g : Nat) : Int) from rfl]
    have hz := Nat.le_trans (Nat.div_le_self N g) hN
    generalize N / g = z at hz ⊢
    exact IntWalk.i64_in _ (by omega)
  have q2 : IntKind.i64.wrap (Int.tdiv (D : Int) (g : Int)) = ((D / g : Nat) : Int) := by
    rw [show Int.tdiv (D : Int) (g : Int) = ((D / g : Nat) : Int) from rfl]
    have hz := Nat.le_trans (Nat.div_le_self D g) hD
    generalize D / g = z at hz ⊢
    exact IntWalk.i64_in _ (by omega)
  have hgn : ¬ g = 0 := by omega
  have q3 : IntKind.i64.wrap ((N : Int) / (g : Int)) = (N : Int) / (g : Int) := q1
  have q4 : IntKind.i64.wrap ((D : Int) / (g : Int)) = (D : Int) / (g : Int) := q2
  refine region_walk (rd := none) 7 (fun i => i + 15) (by kernel_rfl) (by kernel_rfl) (by rw [hsz]; kernel_rfl)
    (fun W => Blk W Br #[.int .i64 0, .int .i64 0] 34 ∧ Below w0.heap.size w0 W)
    (fun i v W => match i with
      | 0 => v = .int .i64 (N : Int)
      | 1 => v = .int .i64 (g : Int)
      | 2 => v = .int .i64 ((N / g : Nat) : Int)
      | 3 => v = .int .i64 (D : Int)
      | 4 => v = .int .i64 (g : Int)
      | 5 => v = .int .i64 ((D / g : Nat) : Int)
      | _ => v = .agg #[.int .i64 ((N / g : Nat) : Int), .int .i64 ((D / g : Nat) : Int)])
    (fun W W' hb h => ⟨h.1.below hb h.1.lt, h.2.trans (hb.mono h.2.size)⟩) ?hSp ⟨hb.drew, (Below.refl _ _).drew⟩ ?hop ?hlast
  case hSp =>
    intro i v W W' hi hb h
    match i, h with
    | 0, h | 1, h | 2, h | 3, h | 4, h | 5, h => exact h
    | _ + 6, h => exact h
  case hop =>
    intro i a W hi hN' hfix hBW hdep
    have f0 : a.tmps.getD 0 undef = .int .i64 N := (hfix 0 (fun j _ => by omega)).trans f0
    have f1 : a.tmps.getD 1 undef = .int .i64 D := (hfix 1 (fun j _ => by omega)).trans f1
    have f5 : a.tmps.getD 5 undef = .int .i64 g := (hfix 5 (fun j _ => by omega)).trans f5
    have e0 : ∀ x, a.eval (.tmp x) = a.tmps.getD x undef := fun _ => rfl
    clear hQ
    match i, hN', hi, hdep with
    | 0, _, _, hdep =>
      refine OpOk.val (v := .int .i64 (N : Int)) (w' := W) ?_ ⟨Below.refl _ _, rfl⟩
      show (execOp a.eval { dst := some 15, op := Op.move (.tmp 0), type := _, pos := _, after := _, guard := none }).run Try.prog W = _
      simp only [execOp, List.map_toArray, List.map_cons, List.map_nil, e0, f0]
      go_simp
    | 1, _, _, hdep =>
      refine OpOk.val (v := .int .i64 (g : Int)) (w' := W) ?_ ⟨Below.refl _ _, rfl⟩
      show (execOp a.eval { dst := some 16, op := Op.move (.tmp 5), type := _, pos := _, after := _, guard := none }).run Try.prog W = _
      simp only [execOp, List.map_toArray, List.map_cons, List.map_nil, e0, f5]
      go_simp
    | 2, _, _, hdep =>
      have d15 : a.tmps.getD 15 undef = .int .i64 (N : Int) := hdep 0 rfl
      have d16 : a.tmps.getD 16 undef = .int .i64 (g : Int) := hdep 1 rfl
      refine OpOk.val (v := .int .i64 ((N / g : Nat) : Int)) (w' := W) ?_ ⟨Below.refl _ _, rfl⟩
      show (execOp a.eval { dst := some 17, op := Op.binOp BinOp.quo 3 (.tmp 15) (.tmp 16) 3, type := _, pos := _, after := _, guard := none }).run Try.prog W = _
      simp only [execOp, List.map_toArray, List.map_cons, List.map_nil, e0, d15, d16]
      go_simp
      all_goals (first | rfl | assumption | exact Go.IntWalk.i64_left _ | exact (by rw [if_neg hgn]; simp only [q3, q4]))
    | 3, _, _, hdep =>
      refine OpOk.val (v := .int .i64 (D : Int)) (w' := W) ?_ ⟨Below.refl _ _, rfl⟩
      show (execOp a.eval { dst := some 18, op := Op.move (.tmp 1), type := _, pos := _, after := _, guard := none }).run Try.prog W = _
      simp only [execOp, List.map_toArray, List.map_cons, List.map_nil, e0, f1]
      go_simp
    | 4, _, _, hdep =>
      refine OpOk.val (v := .int .i64 (g : Int)) (w' := W) ?_ ⟨Below.refl _ _, rfl⟩
      show (execOp a.eval { dst := some 19, op := Op.move (.tmp 5), type := _, pos := _, after := _, guard := none }).run Try.prog W = _
      simp only [execOp, List.map_toArray, List.map_cons, List.map_nil, e0, f5]
      go_simp
    | 5, _, _, hdep =>
      have d18 : a.tmps.getD 18 undef = .int .i64 (D : Int) := hdep 3 rfl
      have d19 : a.tmps.getD 19 undef = .int .i64 (g : Int) := hdep 4 rfl
      refine OpOk.val (v := .int .i64 ((D / g : Nat) : Int)) (w' := W) ?_ ⟨Below.refl _ _, rfl⟩
      show (execOp a.eval { dst := some 20, op := Op.binOp BinOp.quo 3 (.tmp 18) (.tmp 19) 3, type := _, pos := _, after := _, guard := none }).run Try.prog W = _
      simp only [execOp, List.map_toArray, List.map_cons, List.map_nil, e0, d18, d19]
      go_simp
      all_goals (first | rfl | assumption | exact Go.IntWalk.i64_left _ | exact (by rw [if_neg hgn]; simp only [q3, q4]))
    | 6, _, _, hdep =>
      have d17 : a.tmps.getD 17 undef = .int .i64 ((N / g : Nat) : Int) := hdep 2 rfl
      have d20 : a.tmps.getD 20 undef = .int .i64 ((D / g : Nat) : Int) := hdep 5 rfl
      refine OpOk.val (v := .agg #[.int .i64 ((N / g : Nat) : Int), .int .i64 ((D / g : Nat) : Int)]) (w' := W) ?_ ⟨Below.refl _ _, rfl⟩
      show (execOp a.eval { dst := some 21, op := Op.build 34 #[(0, (.tmp 17)), (1, (.tmp 20))], type := _, pos := _, after := _, guard := none }).run Try.prog W = _
      simp only [execOp, List.map_toArray, List.map_cons, List.map_nil, e0, d17, d20]
      go_simp
      all_goals (first | rfl | assumption | exact Go.IntWalk.i64_left _ | exact (by rw [if_neg hgn]; simp only [q3, q4]))
    | kk + 7, h, _, _ => exact absurd h (by omega)
  case hlast =>
    intro a W e1 e2 hfix hBW hall
    have f4 : a.tmps.getD 4 undef = .pointer (some ⟨Br, 0, none⟩) := (hfix 4 (fun j _ => by omega)).trans f4
    have d : a.tmps.getD 21 undef = .agg #[.int .i64 ((N / g : Nat) : Int), .int .i64 ((D / g : Nat) : Int)] := hall 6 (by omega)
    have e0 : ∀ x, a.eval (.tmp x) = a.tmps.getD x undef := fun _ => rfl
    have g0 : W.cell? ⟨Br, 0, none⟩ = some (.int .i64 0) := hBW.1.cell 0
    have g1 : W.cell? ⟨Br, 1, none⟩ = some (.int .i64 0) := hBW.1.cell 1
    have z0 : W.frozen? ⟨Br, 0, none⟩ = false := hBW.1.frozen 0
    have z1 : W.frozen? ⟨Br, 1, none⟩ = false := hBW.1.frozen 1
    generalize N / g = n1 at d hQ
    generalize D / g = n2 at d hQ
    refine OpOk.skip (w' := ((W.setCell ⟨Br, 0, none⟩ (.int .i64 n1)).setCell ⟨Br, 1, none⟩ (.int .i64 n2))) ?_ ?_
    · show (execOp a.eval { dst := none, op := Op.store 34 (.tmp 4) (.tmp 21), type := _, pos := _, after := _, guard := none }).run Try.prog W = _
      simp only [execOp, e0, f4, d]
      go_simp
    · exact hQ _ _ e1 (e2.trans hsz) f4 (((Chg.below hBW.2 (fun k => k = Br)).setCell (.inl rfl) _).setCell (.inl rfl) _) ((hBW.1.set 0 _).set 1 _)

set_option maxHeartbeats 2000000 in
theorem over_any (N D : Nat) (hN : N ≤ 9223372036854775807) (hD : D ≤ 9223372036854775807) (hD0 : 0 < D) (w : World) :
    Calls Try.prog 59 #[.int .i64 N, .int .i64 D] w fun e w' => e = .returned (.agg #[.int .i64 ((N / Nat.gcd N D : Nat) : Int), .int .i64 ((D / Nat.gcd N D : Nat) : Int)]) ∧ Below w.heap.size w w' := by
  have HG := Aw.mk (Nat.gcd_pos_of_pos_right N hD0)
  have HD0 := Aw.mk hD0
  clear hD0
  go_enter Try.func59, Try.ntmps59
  go_wp2_with fail
  obtain ⟨w1, hw1⟩ : ∃ w1, w1 = w.alloc (.cells #[.int .i64 0, .int .i64 0] 34) := ⟨_, rfl⟩
  obtain ⟨Br, hBr⟩ : ∃ Br, Br = w.heap.size := ⟨_, rfl⟩
  rw [← hw1, ← hBr]
  have HR := Aw.mk (show Blk w1 Br #[.int .i64 0, .int .i64 0] 34 from by rw [hw1, hBr]; exact Blk.new _ _ _)
  have HB := Aw.mk (show Below w.heap.size w w1 from by rw [hw1]; exact (Below.refl _ _).alloc (Nat.le_refl _) _)
  have HBr := Aw.mk hBr
  clear hw1 hBr
  go_loopg [5, 6] D (fun gg s5 s6 wr => ∃ a b : Nat, b ≤ gg ∧ a ≤ 9223372036854775807 ∧ b ≤ 9223372036854775807 ∧ s5 = .int .i64 a ∧ s6 = .int .i64 b ∧ Aw (Nat.gcd a b = Nat.gcd N D ∧ wr.heap = w1.heap ∧ Below w.heap.size w wr))
  case atStart => exact ⟨N, D, Nat.le_refl _, hN, hD, rfl, rfl, ⟨rfl, rfl, HB.out⟩⟩
  case round =>
    obtain ⟨a, b, hb, ha1, hb1, rfl, rfl, HW⟩ := hrel
    by_cases h0 : b = 0
    · have hag : a = Nat.gcd N D := by have := HW.out.1; rw [h0, Nat.gcd_zero_right] at this; exact this
      subst h0
      have HAG := Aw.mk hag
      have c0 : (((0 : Nat) : Int) != 0) = false := rfl
      clear hag
      go_wp2_with fail
      refine wpIn_wide.1 (over_region Br N D a (by rw [HAG.out]; exact HG.out) hN hD _ _ _ rfl rfl rfl rfl rfl (by unfold Blk; rw [HW.out.2.1]; exact HR.out) ?_)
      intro a' V hdf hsz h4 hc hblk
      have hb4 : Below w.heap.size w V := HW.out.2.2.trans (hc.toBelow HW.out.2.2.size (fun k hk => by rw [hk, HBr.out]; exact Nat.le_refl _))
      have h4' : slot a' 4 = .pointer (some ⟨Br, 0, none⟩) := h4
      rw [frame_lit' a' 22 hsz, hdf]
      simp only [List.range, List.range.loop, List.map_cons, List.map_nil, h4']
      clear hdf hsz h4 h4' hc
      rw [HAG.out] at hblk
      have HBK := Aw.mk hblk
      have HB4 := Aw.mk hb4
      clear hblk hb4
      dsimp only [Exit.then]
      generalize a' = a''
      go_wp2_with fail
      exact bodyPost_ret (results34 rfl rfl HBK.out) rfl ⟨rfl, HB4.out⟩
    · have c0 : ((b : Int) != 0) = true := by simp; omega
      have c1 : ((b : Int) == 0) = false := by simp; omega
      have hlt : a % b < b := Nat.mod_lt _ (by omega)
      have hgcd : Nat.gcd b (a % b) = Nat.gcd N D := by rw [← HW.out.1]; rw [Nat.gcd_comm a b, Nat.gcd_rec b a, Nat.gcd_comm]
      have q1 : IntKind.i64.wrap (Int.tmod (a : Int) (b : Int)) = ((a % b : Nat) : Int) := by
        rw [show Int.tmod (a : Int) (b : Int) = ((a % b : Nat) : Int) from rfl]
        exact IntWalk.i64_in _ (by omega)
      have HGC := Aw.mk hgcd
      have HLT := Aw.mk hlt
      have q2 : IntKind.i64.wrap ((a : Int) % (b : Int)) = (a : Int) % (b : Int) := q1
      clear hgcd hlt
      go_wp2_with fail
      go_quiet (fail)
      all_goals
        go_wp2_with fail
        go_roundg (a % b)
        case measure => have := HLT.out; omega
        case rel => exact ⟨b, a % b, Nat.le_refl _, hb1, Nat.le_trans (Nat.le_of_lt HLT.out) hb1, rfl, rfl, ⟨HGC.out, HW.out.2.1, ⟨HW.out.2.2.os, HW.out.2.2.tape, HW.out.2.2.output, HW.out.2.2.size, HW.out.2.2.block⟩⟩⟩

end Go.Proofs.Ytigpnafpdmdmhaa.Hand

namespace Go.Proofs.Ytigpnafpdmdmhaa.Hand
open Go.RowKit Go.Shelf

/-- The frame behind share's last region. -/
def ShQ (B6 : Nat) (x y : Int) (w0 : World) (Q : Exit → Act → World → Prop) : Prop :=
  ∀ (a : Act) (W : World), a.defers = [] → a.tmps.size = 33 → a.tmps.getD 6 undef = .pointer (some ⟨B6, 0, none⟩) → a.tmps.getD 7 undef = .int .i64 0 → Chg (fun k => k = B6) w0 W → Blk W B6 #[.int .i64 x, .int .i64 y] 34 → Q .normal a W

set_option maxHeartbeats 4000000 in
set_option maxRecDepth 10000 in
theorem share_region (g N D B5 B6 B9 : Nat) (c : Cnt) (hN : N ≤ 9223372036854775807) (hD : D ≤ 9223372036854775807) (hD0 : 0 < D) (hcd : c.draws = (D : Int))
    (hg : ∀ W, Calls Try.prog g #[c.enc] W fun e w' => e = .returned (.int .i64 (N : Int)) ∧ Below W.heap.size W w') (eg : ∀ args w, (callFunc g args).run Try.prog w = .ok (.enter g args) w)
    (a0 : Act) (w0 : World) (Q : Exit → Act → World → Prop) (hsz : a0.tmps.size = 33) (hdf : a0.defers = [])
    (f5 : a0.tmps.getD 5 undef = .pointer (some ⟨B5, 0, none⟩)) (f6 : a0.tmps.getD 6 undef = .pointer (some ⟨B6, 0, none⟩)) (f9 : a0.tmps.getD 9 undef = .pointer (some ⟨B9, 0, none⟩))
    (h5 : w0.cell? ⟨B5, 0, none⟩ = some (.func (.func g) #[] #[])) (h6 : Blk w0 B6 #[.int .i64 0, .int .i64 0] 34) (h9 : Blk w0 B9 c.cells 84)
    (hQ : ShQ B6 ((N / Nat.gcd N D : Nat) : Int) ((D / Nat.gcd N D : Nat) : Int) w0 Q) :
    (Code.region 7 (opsOf Try.f42 7) true).wpIn Fence.wide 0 Try.prog Q a0 w0 := by
  refine region_walk (rd := none) 7 (fun i => i + 26) (by kernel_rfl) (by kernel_rfl) (by rw [hsz]; kernel_rfl)
    (fun W => W.cell? ⟨B5, 0, none⟩ = some (.func (.func g) #[] #[]) ∧ Blk W B6 #[.int .i64 0, .int .i64 0] 34 ∧ Blk W B9 c.cells 84 ∧ Below w0.heap.size w0 W)
    (fun i v W => match i with
      | 0 => v = .pointer (some ⟨B5, 0, none⟩)
      | 1 => v = .func (.func g) #[] #[]
      | 2 => v = c.enc
      | 3 => v = .int .i64 (N : Int)
      | 4 => v = .pointer (some ⟨B9, 2, none⟩)
      | 5 => v = .int .i64 (D : Int)
      | _ => v = .agg #[.int .i64 ((N / Nat.gcd N D : Nat) : Int), .int .i64 ((D / Nat.gcd N D : Nat) : Int)])
    (fun W W' hb h => ⟨held_cell h.1 hb, h.2.1.below hb h.2.1.lt, h.2.2.1.below hb h.2.2.1.lt, h.2.2.2.trans (hb.mono h.2.2.2.size)⟩) ?hSp ⟨h5, h6.drew, h9.drew, (Below.refl _ _).drew⟩ ?hop ?hlast
  case hSp =>
    intro i v W W' hi hb h
    match i, h with
    | 0, h | 1, h | 2, h | 3, h | 4, h | 5, h => exact h
    | _ + 6, h => exact h
  case hop =>
    intro i a W hi hN' hfix hBW hdep
    have f5 : a.tmps.getD 5 undef = .pointer (some ⟨B5, 0, none⟩) := (hfix 5 (fun j _ => by omega)).trans f5
    have f9 : a.tmps.getD 9 undef = .pointer (some ⟨B9, 0, none⟩) := (hfix 9 (fun j _ => by omega)).trans f9
    have e0 : ∀ x, a.eval (.tmp x) = a.tmps.getD x undef := fun _ => rfl
    have g0 : W.cell? ⟨B5, 0, none⟩ = some (.func (.func g) #[] #[]) := hBW.1
    have g1 : W.cell? ⟨B9, 0, none⟩ = some (.int .i64 c.accepts) := hBW.2.2.1.cell 0
    have g2 : W.cell? ⟨B9, 1, none⟩ = some (.int .i64 c.pieces) := hBW.2.2.1.cell 1
    have g3 : W.cell? ⟨B9, 2, none⟩ = some (.int .i64 (D : Int)) := (hBW.2.2.1.cell 2).trans (by rw [← hcd]; rfl)
    have hce : c.enc = .agg #[.int .i64 c.accepts, .int .i64 c.pieces, .int .i64 (D : Int)] := by rw [← hcd]; rfl
    clear hQ hBW
    match i, hN', hi, hdep with
    | 0, _, _, hdep =>
      refine OpOk.val (v := .pointer (some ⟨B5, 0, none⟩)) (w' := W) ?_ ⟨Below.refl _ _, rfl⟩
      show (execOp a.eval { dst := some 26, op := Op.fieldAddr 86 (.tmp 5) 0, type := _, pos := _, after := _, guard := none }).run Try.prog W = _
      simp only [execOp, List.map_toArray, List.map_cons, List.map_nil, e0, f5]
      go_simp
      all_goals rfl
    | 1, _, _, hdep =>
      have d26 : a.tmps.getD 26 undef = .pointer (some ⟨B5, 0, none⟩) := hdep 0 rfl
      refine OpOk.val (v := .func (.func g) #[] #[]) (w' := W) ?_ ⟨Below.refl _ _, rfl⟩
      show (execOp a.eval { dst := some 27, op := Op.load 81 (.tmp 26), type := _, pos := _, after := _, guard := none }).run Try.prog W = _
      simp only [execOp, List.map_toArray, List.map_cons, List.map_nil, e0, d26]
      go_simp
      all_goals rfl
    | 2, _, _, hdep =>
      refine OpOk.val (v := c.enc) (w' := W) ?_ ⟨Below.refl _ _, rfl⟩
      show (execOp a.eval { dst := some 28, op := Op.load 84 (.tmp 9), type := _, pos := _, after := _, guard := none }).run Try.prog W = _
      simp only [execOp, List.map_toArray, List.map_cons, List.map_nil, e0, f9]
      go_simp
      all_goals rfl
    | 3, _, _, hdep =>
      have d27 : a.tmps.getD 27 undef = .func (.func g) #[] #[] := hdep 1 rfl
      have d28 : a.tmps.getD 28 undef = c.enc := hdep 2 rfl
      refine OpOk.call (f := g) (args := #[c.enc]) (w1 := W) ?_ ((hg W).mono ?_)
      · show (execOp a.eval { dst := some 29, op := Op.call { callee := .value (.tmp 27), args := #[(.tmp 28)], argTypes := #[84] }, type := _, pos := _, after := _, guard := none }).run Try.prog W = _
        simp only [execOp, List.map_toArray, List.map_cons, List.map_nil, e0, d27, d28]
        go_simp
      · rintro e w' ⟨rfl, hb⟩
        exact ⟨_, rfl, hb, rfl⟩
    | 4, _, _, hdep =>
      refine OpOk.val (v := .pointer (some ⟨B9, 2, none⟩)) (w' := W) ?_ ⟨Below.refl _ _, rfl⟩
      show (execOp a.eval { dst := some 30, op := Op.fieldAddr 84 (.tmp 9) 2, type := _, pos := _, after := _, guard := none }).run Try.prog W = _
      simp only [execOp, List.map_toArray, List.map_cons, List.map_nil, e0, f9]
      go_simp
      all_goals rfl
    | 5, _, _, hdep =>
      have d30 : a.tmps.getD 30 undef = .pointer (some ⟨B9, 2, none⟩) := hdep 4 rfl
      refine OpOk.val (v := .int .i64 (D : Int)) (w' := W) ?_ ⟨Below.refl _ _, rfl⟩
      show (execOp a.eval { dst := some 31, op := Op.load 3 (.tmp 30), type := _, pos := _, after := _, guard := none }).run Try.prog W = _
      simp only [execOp, List.map_toArray, List.map_cons, List.map_nil, e0, d30]
      go_simp
      all_goals rfl
    | 6, _, _, hdep =>
      have d29 : a.tmps.getD 29 undef = .int .i64 (N : Int) := hdep 3 rfl
      have d31 : a.tmps.getD 31 undef = .int .i64 (D : Int) := hdep 5 rfl
      refine OpOk.call (f := 59) (args := #[.int .i64 (N : Int), .int .i64 (D : Int)]) (w1 := W) ?_ ((over_any N D hN hD hD0 W).mono ?_)
      · show (execOp a.eval { dst := some 32, op := Op.call { callee := .value (.func 59), args := #[(.tmp 29), (.tmp 31)], argTypes := #[3, 3] }, type := _, pos := _, after := _, guard := none }).run Try.prog W = _
        have e59 : ∀ args w, (callFunc 59 args).run Try.prog w = .ok (.enter 59 args) w := enters_of Try.func59 (by kernel_rfl) rfl
        simp only [execOp, List.map_toArray, List.map_cons, List.map_nil, e0, d29, d31]
        go_simp
      · rintro e w' ⟨rfl, hb⟩
        exact ⟨_, rfl, hb, rfl⟩
    | kk + 7, h, _, _ => exact absurd h (by omega)
  case hlast =>
    intro a W e1 e2 hfix hBW hall
    have f6 : a.tmps.getD 6 undef = .pointer (some ⟨B6, 0, none⟩) := (hfix 6 (fun j _ => by omega)).trans f6
    have d : a.tmps.getD 32 undef = .agg #[.int .i64 ((N / Nat.gcd N D : Nat) : Int), .int .i64 ((D / Nat.gcd N D : Nat) : Int)] := hall 6 (by omega)
    have e0 : ∀ x, a.eval (.tmp x) = a.tmps.getD x undef := fun _ => rfl
    have g0 : W.cell? ⟨B6, 0, none⟩ = some (.int .i64 0) := hBW.2.1.cell 0
    have g1 : W.cell? ⟨B6, 1, none⟩ = some (.int .i64 0) := hBW.2.1.cell 1
    have z0 : W.frozen? ⟨B6, 0, none⟩ = false := hBW.2.1.frozen 0
    have z1 : W.frozen? ⟨B6, 1, none⟩ = false := hBW.2.1.frozen 1
    generalize N / Nat.gcd N D = n1 at d hQ
    generalize D / Nat.gcd N D = n2 at d hQ
    refine OpOk.skip (w' := ((W.setCell ⟨B6, 0, none⟩ (.int .i64 n1)).setCell ⟨B6, 1, none⟩ (.int .i64 n2))) ?_ ?_
    · show (execOp a.eval { dst := none, op := Op.store 34 (.tmp 6) (.tmp 32), type := _, pos := _, after := _, guard := none }).run Try.prog W = _
      simp only [execOp, e0, f6, d]
      go_simp
    · refine OpOk.val (v := .int .i64 0) (w' := ((W.setCell ⟨B6, 0, none⟩ (.int .i64 n1)).setCell ⟨B6, 1, none⟩ (.int .i64 n2))) ?_ ?_
      · show (execOp (a.put none undef).eval { dst := some 7, op := Op.assign (.const (.int .i64 0)), type := _, pos := _, after := _, guard := none }).run Try.prog _ = _
        simp only [execOp]
        go_simp
      · refine hQ _ _ (e1.trans hdf) ?_ ?_ ?_ (((Chg.below hBW.2.2.2 (fun k => k = B6)).setCell (.inl rfl) _).setCell (.inl rfl) _) ((hBW.2.1.set 0 _).set 1 _)
        · show (a.tmps.setIfInBounds 7 _).size = 33
          simp [show a.tmps.size = 33 from e2.trans hsz]
        · show (a.tmps.setIfInBounds 7 _).getD 6 undef = _
          have : (a.tmps.setIfInBounds 7 (.int .i64 0)).getD 6 undef = a.tmps.getD 6 undef := by simp
          exact this.trans f6
        · show (a.tmps.setIfInBounds 7 _).getD 7 undef = _
          simp [show a.tmps.size = 33 from e2.trans hsz]

end Go.Proofs.Ytigpnafpdmdmhaa.Hand

namespace Go.Proofs.Ytigpnafpdmdmhaa.Hand
open Go.RowKit Go.Shelf

theorem wrap64_le {x : Int} (h : -9223372036854775808 ≤ x) : wrap64 x ≤ x := by unfold wrap64; omega

theorem chk_fits (lot : Nat) : ∀ (l : List Stg) (taken : Nat) (last : Stg), (∀ s ∈ l, 1 ≤ s.take) → chk lot taken last l = 0 → fits lot taken l
  | [], _, _, _, _ => trivial
  | s :: l, taken, last, ht, h => by
    have h1 := ht s (by simp)
    unfold chk at h
    split at h; · cases h
    split at h; · cases h
    split at h; · cases h
    split at h
    · refine ⟨h1, by omega, chk_fits lot l _ s (fun s' hs => ht s' (by simp [hs])) ?_⟩
      have e : (taken : Int) + s.take = ((taken + s.take.toNat : Nat) : Int) := by omega
      rw [e] at h
      exact h
    · cases h

theorem chk_last (lot : Int) : ∀ (l : List Stg) (taken : Int) (last : Stg), -1 ≤ last.accept → chk lot taken last l = 0 → lastDec l
  | [], _, _, _, _ => trivial
  | s :: l, taken, last, ha, h => by
    unfold chk at h
    split at h; · cases h
    split at h; · cases h
    split at h; · cases h
    split at h
    · cases l with
      | nil =>
        unfold chk at h
        split at h
        · rename_i h2
          show s.reject ≤ s.accept + 1
          rw [h2]
          exact wrap64_le (by omega)
        · cases h
      | cons s' l => exact chk_last lot (s' :: l) _ s (by omega) h
    · cases h

/-- A plan that is valid. -/
structure Valid (lot : Int) (l : List Stg) : Prop where
  lo : 1 ≤ lot
  hi : lot ≤ 30
  len : l.length ≤ 3
  ne : l ≠ []
  fit : fits lot.toNat 0 l
  last : lastDec l

theorem checkPlan_ok {lot : Int} {l : List Stg} (h : checkPlan lot l = 0) : Valid lot l := by
  unfold checkPlan at h
  split at h; · cases h
  rename_i h3
  split at h
  · rename_i h1
    obtain ⟨a1, a2, a3, a4⟩ := h1
    have a5 : ∀ s ∈ l, 1 ≤ s.take := fun s hs => by simpa using List.all_eq_true.1 a4 s hs
    have e : lot = ((lot.toNat : Nat) : Int) := by omega
    rw [e] at h
    exact ⟨a1, a2, by omega, fun e => a3 (by simp [e]), chk_fits lot.toNat l 0 _ a5 h, chk_last _ l 0 _ (by decide) h⟩
  · cases h

theorem below_set {w W : World} {B : Nat} (h : Below B w W) {p : Addr} (hp : B ≤ p.block) {v : Value} : Below B w (W.setCell p v) :=
  Below.setCell h hp v

/-- What a share says. -/
def shareV (sel : Cnt → Int) (lot : Int) (l : List Stg) (bad : Int) : Option (Int × Int × Int) :=
  if checkPlan lot l = 0 then
    if 0 ≤ bad ∧ bad ≤ lot then
      if 0 ≤ sel (cntW lot.toNat bad.toNat l 0 0) ∧ 0 < (cntW lot.toNat bad.toNat l 0 0).draws ∧ sel (cntW lot.toNat bad.toNat l 0 0) ≤ 9223372036854775807 ∧ (cntW lot.toNat bad.toNat l 0 0).draws ≤ 9223372036854775807 then
        some ((((sel (cntW lot.toNat bad.toNat l 0 0)).toNat / Nat.gcd (sel (cntW lot.toNat bad.toNat l 0 0)).toNat (cntW lot.toNat bad.toNat l 0 0).draws.toNat : Nat) : Int),
          (((cntW lot.toNat bad.toNat l 0 0).draws.toNat / Nat.gcd (sel (cntW lot.toNat bad.toNat l 0 0)).toNat (cntW lot.toNat bad.toNat l 0 0).draws.toNat : Nat) : Int), 0)
      else none
    else some (0, 0, 2)
  else some (0, 0, checkPlan lot l)

theorem results42 {tmps : Array Value} {W : World} {g : Nat} {x0 x1 : Value} (hp : tmps.getD 6 undef = .pointer (some ⟨g, 0, none⟩)) (h : Blk W g #[x0, x1] 34) :
    (results Try.f42 tmps).run Try.prog W = .ok (.tuple #[.agg #[x0, x1], tmps.getD 7 undef]) W := by
  have c0 : W.cell? ⟨g, 0, none⟩ = some x0 := h.cell 0
  have c1 : W.cell? ⟨g, 1, none⟩ = some x1 := h.cell 1
  have e : Try.f42.results = #[.cell 6 34, .tmp 7] := rfl
  have hp' : tmps[6]?.getD undef = .pointer (some ⟨g, 0, none⟩) := by simpa using hp
  unfold results
  simp only [e]
  go_simp

set_option maxHeartbeats 8000000 in
set_option maxRecDepth 10000 in
theorem share_any (g : Nat) (sel : Cnt → Int) (hg : ∀ c W, Calls Try.prog g #[c.enc] W fun e w' => e = .returned (.int .i64 (sel c)) ∧ Below W.heap.size W w') (eg : ∀ args w, (callFunc g args).run Try.prog w = .ok (.enter g args) w)
    (lot : Int) (A : Option Addr) (c : Nat) (l : List Stg) (bad r1 r2 r3 : Int) (w : World) (hz : StAt w A l) (hbig : l.length ≤ 9223372036854775807) (h : shareV sel lot l bad = some (r1, r2, r3)) :
    Calls Try.prog 42 #[.agg #[.int .i64 lot, .slice A l.length c], .int .i64 bad, .agg #[.func (.func g) #[] #[]]] w fun e w' => e = .returned (.tuple #[.agg #[.int .i64 r1, .int .i64 r2], .int .i64 r3]) ∧ Below w.heap.size w w' := by
  have HZ := Aw.mk hz
  have HG := Aw.mk hg
  have HE := Aw.mk eg
  have HCH := Aw.mk (fun W (hW : Below w.heap.size w W) => chk_walk lot A c l W (hz.below hW) hbig)
  clear hz hg eg hbig
  obtain ⟨w1, hw1⟩ : ∃ w1, w1 = ((w.alloc (.cells #[.int .i64 lot, .slice A l.length c] 31)).alloc (.cells #[.func (.func g) #[] #[]] 86)).alloc (.cells #[.int .i64 0, .int .i64 0] 34) := ⟨_, rfl⟩
  have hB1 : Below w.heap.size w w1 := by rw [hw1]; exact (((Below.refl _ _).alloc (Nat.le_refl _) _).alloc (by simp) _).alloc (by simp; omega) _
  have h3 : Blk w1 w.heap.size #[.int .i64 lot, .slice A l.length c] 31 := by rw [hw1]; exact ((Blk.new w _ _).alloc _).alloc _
  have h5 : Blk w1 (w.heap.size + 1) #[.func (.func g) #[] #[]] 86 := by
    have := (Blk.new (w.alloc (.cells #[.int .i64 lot, .slice A l.length c] 31)) #[.func (.func g) #[] #[]] 86).alloc (.cells #[.int .i64 0, .int .i64 0] 34)
    rw [hw1]; simpa using this
  have h6 : Blk w1 (w.heap.size + 1 + 1) #[.int .i64 0, .int .i64 0] 34 := by
    have := Blk.new ((w.alloc (.cells #[.int .i64 lot, .slice A l.length c] 31)).alloc (.cells #[.func (.func g) #[] #[]] 86)) #[.int .i64 0, .int .i64 0] 34
    rw [hw1]; simpa using this
  have p0 : w1.cell? ⟨w.heap.size, 0, none⟩ = some (.int .i64 lot) := h3.cell 0
  have p1 : w1.cell? ⟨w.heap.size, 1, none⟩ = some (.slice A l.length c) := h3.cell 1
  have HW1 := Aw.mk hw1
  have HB1 := Aw.mk hB1
  have H3 := Aw.mk h3
  have H5 := Aw.mk h5
  have H6 := Aw.mk h6
  clear hw1 hB1 h3 h5 h6
  by_cases hc : checkPlan lot l = 0
  case neg =>
    obtain ⟨e, he⟩ : ∃ e, e = checkPlan lot l := ⟨_, rfl⟩
    unfold shareV at h
    rw [if_neg hc] at h
    rw [← he] at h hc HCH
    cases h
    have n1 : (r3 != 0) = true := by simp [hc]
    clear hc he
    go_enter Try.func42, Try.ntmps42
    go_wp2_with fail
    rw [← HW1.out]
    refine (HCH.out w1 HB1.out).mono ?_
    intro e' V hp
    obtain ⟨rfl, hb⟩ := hp
    have H3V := Aw.mk (H3.out.below hb H3.out.lt)
    have H5V := Aw.mk (H5.out.below hb H5.out.lt)
    have H6V := Aw.mk (H6.out.below hb H6.out.lt)
    have HBV := Aw.mk (HB1.out.trans (hb.mono HB1.out.size))
    have r0 : V.cell? ⟨w.heap.size + 1 + 1, 0, none⟩ = some (.int .i64 0) := H6V.out.cell 0
    have r1' : V.cell? ⟨w.heap.size + 1 + 1, 1, none⟩ = some (.int .i64 0) := H6V.out.cell 1
    have z0 : V.frozen? ⟨w.heap.size + 1 + 1, 0, none⟩ = false := H6V.out.frozen 0
    have z1 : V.frozen? ⟨w.heap.size + 1 + 1, 1, none⟩ = false := H6V.out.frozen 1
    have p2 : V.cell? ⟨w.heap.size, 0, none⟩ = some (.int .i64 lot) := H3V.out.cell 0
    have p3 : V.cell? ⟨w.heap.size, 1, none⟩ = some (.slice A l.length c) := H3V.out.cell 1
    clear hb
    go_wp2_with fail
    refine bodyPost_ret (results42 rfl ((H6V.out.set 0 _).set 1 _)) rfl ⟨rfl, ?_⟩
    exact below_set (below_set HBV.out (Nat.le_succ_of_le (Nat.le_succ _))) (Nat.le_succ_of_le (Nat.le_succ _))
  case pos =>
    have hv := checkPlan_ok hc
    unfold shareV at h
    rw [if_pos hc] at h
    rw [hc] at HCH
    obtain ⟨lotN, rfl⟩ : ∃ n : Nat, lot = n := ⟨lot.toNat, by have := hv.lo; omega⟩
    have hl30 := hv.hi
    have HV := Aw.mk hv
    clear hv hc
    by_cases hbd : 0 ≤ bad ∧ bad ≤ (lotN : Int)
    case neg =>
      rw [if_neg hbd] at h
      cases h
      have n1 : decide (0 ≤ bad ∧ bad ≤ (lotN : Int)) = false := decide_eq_false hbd
      clear hbd
      have hwi := fun W => within_any bad 0 lotN W
      rw [n1] at hwi
      go_enter Try.func42, Try.ntmps42
      go_wp2_with fail
      rw [← HW1.out]
      refine (HCH.out w1 HB1.out).mono ?_
      intro e' V hp
      obtain ⟨rfl, hb⟩ := hp
      have H3V := Aw.mk (H3.out.below hb H3.out.lt)
      have H5V := Aw.mk (H5.out.below hb H5.out.lt)
      have H6V := Aw.mk (H6.out.below hb H6.out.lt)
      have HBV := Aw.mk (HB1.out.trans (hb.mono HB1.out.size))
      have r0 : V.cell? ⟨w.heap.size + 1 + 1, 0, none⟩ = some (.int .i64 0) := H6V.out.cell 0
      have r1' : V.cell? ⟨w.heap.size + 1 + 1, 1, none⟩ = some (.int .i64 0) := H6V.out.cell 1
      have z0 : V.frozen? ⟨w.heap.size + 1 + 1, 0, none⟩ = false := H6V.out.frozen 0
      have z1 : V.frozen? ⟨w.heap.size + 1 + 1, 1, none⟩ = false := H6V.out.frozen 1
      have p2 : V.cell? ⟨w.heap.size, 0, none⟩ = some (.int .i64 lotN) := H3V.out.cell 0
      have p3 : V.cell? ⟨w.heap.size, 1, none⟩ = some (.slice A l.length c) := H3V.out.cell 1
      clear hb
      go_wp2_with (go_at_call 39; refine (hwi _).mono ?_; rintro e V' ⟨rfl, rfl⟩)
      refine bodyPost_ret (results42 rfl ((H6V.out.set 0 _).set 1 _)) rfl ⟨rfl, ?_⟩
      exact below_set (below_set HBV.out (Nat.le_succ_of_le (Nat.le_succ _))) (Nat.le_succ_of_le (Nat.le_succ _))
    case pos =>
      rw [if_pos hbd] at h
      have n1 : decide (0 ≤ bad ∧ bad ≤ (lotN : Int)) = true := decide_eq_true hbd
      have hwi := fun W => within_any bad 0 lotN W
      rw [n1] at hwi
      obtain ⟨badN, rfl⟩ : ∃ n : Nat, bad = n := ⟨bad.toNat, by omega⟩
      simp only [Int.toNat_natCast] at h
      obtain ⟨C, hC⟩ : ∃ C, C = cntW lotN badN l 0 0 := ⟨_, rfl⟩
      rw [← hC] at h
      split at h
      case isFalse => cases h
      rename_i hpos
      obtain ⟨q1, q2, q3, q4⟩ := hpos
      obtain ⟨N, hN⟩ : ∃ n : Nat, sel C = n := ⟨(sel C).toNat, by omega⟩
      obtain ⟨D, hD⟩ : ∃ n : Nat, C.draws = n := ⟨C.draws.toNat, by omega⟩
      rw [hN, hD] at h
      simp only [Int.toNat_natCast] at h
      cases h
      have HN := Aw.mk hN
      have HD := Aw.mk hD
      have HC := Aw.mk hC
      have HQ := Aw.mk (show N ≤ 9223372036854775807 ∧ D ≤ 9223372036854775807 ∧ 0 < D ∧ badN ≤ lotN ∧ lotN ≤ 30 by omega)
      clear q1 q2 q3 q4 hN hD hC hbd hl30
      go_enter Try.func42, Try.ntmps42
      go_wp2_with fail
      rw [← HW1.out]
      refine (HCH.out w1 HB1.out).mono ?_
      intro e' V hp
      obtain ⟨rfl, hb⟩ := hp
      have H3V := Aw.mk (H3.out.below hb H3.out.lt)
      have H5V := Aw.mk (H5.out.below hb H5.out.lt)
      have H6V := Aw.mk (H6.out.below hb H6.out.lt)
      have HBV := Aw.mk (HB1.out.trans (hb.mono HB1.out.size))
      have r0 : V.cell? ⟨w.heap.size + 1 + 1, 0, none⟩ = some (.int .i64 0) := H6V.out.cell 0
      have r1' : V.cell? ⟨w.heap.size + 1 + 1, 1, none⟩ = some (.int .i64 0) := H6V.out.cell 1
      have z0 : V.frozen? ⟨w.heap.size + 1 + 1, 0, none⟩ = false := H6V.out.frozen 0
      have z1 : V.frozen? ⟨w.heap.size + 1 + 1, 1, none⟩ = false := H6V.out.frozen 1
      have p2 : V.cell? ⟨w.heap.size, 0, none⟩ = some (.int .i64 lotN) := H3V.out.cell 0
      have p3 : V.cell? ⟨w.heap.size, 1, none⟩ = some (.slice A l.length c) := H3V.out.cell 1
      clear hb
      go_wp2_with (go_at_call 39; refine (hwi _).mono ?_; rintro e V' ⟨rfl, rfl⟩)
      have HS := Aw.mk (HZ.out.below HBV.out)
      clear p0 p1 p2 p3 r0 r1' z0 z1
      refine (on_any (lotN : Int) A l.length c (badN : Int) V).mono ?_
      intro e V1 hp
      obtain ⟨Bw, m, rfl, hw, hm, hle1, hle2, hb⟩ := hp
      have hw' : Blk V1 Bw (work (lotN : Int) A l.length c (badN : Int) m) 108 := hw
      have HVV := HV.out
      have HCN := Aw.mk (count_any lotN badN HQ.out.2.2.2.2 HQ.out.2.2.2.1 A c m Bw l HVV.len HVV.ne HVV.last HVV.fit V1 hw' (HS.out.below hb) hm)
      have HM := Aw.mk hle2
      have HVB := Aw.mk hb
      clear hw hm hle1 hle2 hb hw' HVV
      go_wp2_with fail
      refine HCN.out.mono ?_
      intro e V2 hp
      obtain ⟨rfl, hcc⟩ := hp
      have hb2 : Below V.heap.size V V2 := ((Chg.below HVB.out (fun _ => False)).trans (hcc.mono fun k _ hk => .inr (by rw [hk]; exact HM.out))).toBelow (Nat.le_refl _) (fun _ h => h.elim)
      have H5W := Aw.mk (H5V.out.below hb2 H5V.out.lt)
      have H6W := Aw.mk (H6V.out.below hb2 H6V.out.lt)
      have HBW := Aw.mk (HBV.out.trans (hb2.mono HBV.out.size))
      clear hcc hb2
      rw [← HC.out]
      obtain ⟨ca, cp, cd⟩ := C
      obtain rfl : cd = (D : Int) := HD.out
      unfold Cnt.enc
      go_wp2_with fail
      have hgs : ∀ W, Calls Try.prog g #[(⟨ca, cp, (D : Int)⟩ : Cnt).enc] W fun e w' => e = .returned (.int .i64 (N : Int)) ∧ Below W.heap.size W w' := fun W => by
        rw [← HN.out]; exact HG.out _ W
      refine wpIn_wide.1 (share_region g N D (w.heap.size + 1) (w.heap.size + 1 + 1) V2.heap.size ⟨ca, cp, (D : Int)⟩ HQ.out.1 HQ.out.2.1 HQ.out.2.2.1 rfl hgs HE.out _ _ _ rfl rfl rfl rfl rfl ?_ (H6W.out.alloc _) (Blk.new _ _ _) ?_)
      · exact (H5W.out.alloc _).cell 0
      · intro a W hdf hsz h6 h7 hch hbk
        have hf : Below w.heap.size w W := (HBW.out.alloc HBW.out.size _).trans ((hch.toBelow (B := w.heap.size) (by simp; exact Nat.le_succ_of_le HBW.out.size) (fun k hk => by rw [hk]; exact Nat.le_succ_of_le (Nat.le_succ _))))
        have h6' : slot a 6 = .pointer (some ⟨w.heap.size + 1 + 1, 0, none⟩) := h6
        have h7' : slot a 7 = .int .i64 0 := h7
        rw [frame_lit' a 33 hsz, hdf]
        simp only [List.range, List.range.loop, List.map_cons, List.map_nil, h6', h7']
        clear hdf hsz h6 h6' h7 h7' hch hgs
        have HBK := Aw.mk hbk
        have HF := Aw.mk hf
        clear hbk hf
        dsimp only [Exit.then]
        generalize a = a'
        go_wp2_with fail
        exact bodyPost_ret (results42 rfl HBK.out) rfl ⟨rfl, HF.out⟩

end Go.Proofs.Ytigpnafpdmdmhaa.Hand

namespace Go.Proofs.Ytigpnafpdmdmhaa.Hand
open Go.RowKit Go.Shelf

theorem accepted_any (c : Cnt) (W : World) : Calls Try.prog 43 #[c.enc] W fun e w' => e = .returned (.int .i64 c.accepts) ∧ Below W.heap.size W w' := by
  obtain ⟨a, p, d⟩ := c
  unfold Cnt.enc
  go_enter Try.func43, Try.ntmps43
  go_wp2
  go_ret
  exact ⟨rfl, (Below.refl _ W).alloc (Nat.le_refl _) _⟩
theorem taken_any (c : Cnt) (W : World) : Calls Try.prog 46 #[c.enc] W fun e w' => e = .returned (.int .i64 c.pieces) ∧ Below W.heap.size W w' := by
  obtain ⟨a, p, d⟩ := c
  unfold Cnt.enc
  go_enter Try.func46, Try.ntmps46
  go_wp2
  go_ret
  exact ⟨rfl, (Below.refl _ W).alloc (Nat.le_refl _) _⟩

theorem results4_5 {f : Func} (hf : f.results = #[.cell 4 34, .tmp 5]) {tmps : Array Value} {W : World} {g : Nat} {x0 x1 : Value} (hp : tmps.getD 4 undef = .pointer (some ⟨g, 0, none⟩)) (h : Blk W g #[x0, x1] 34) :
    (results f tmps).run Try.prog W = .ok (.tuple #[.agg #[x0, x1], tmps.getD 5 undef]) W := by
  have c0 : W.cell? ⟨g, 0, none⟩ = some x0 := h.cell 0
  have c1 : W.cell? ⟨g, 1, none⟩ = some x1 := h.cell 1
  have hp' : tmps[4]?.getD undef = .pointer (some ⟨g, 0, none⟩) := by simpa using hp
  unfold results
  simp only [hf]
  go_simp

set_option maxHeartbeats 4000000 in
theorem chance_any (lot : Int) (A : Option Addr) (c : Nat) (l : List Stg) (bad r1 r2 r3 : Int) (w : World) (hz : StAt w A l) (hbig : l.length ≤ 9223372036854775807) (h : shareV Cnt.accepts lot l bad = some (r1, r2, r3)) :
    Calls Try.prog 18 #[.agg #[.int .i64 lot, .slice A l.length c], .int .i64 bad] w fun e w' => e = .returned (.tuple #[.agg #[.int .i64 r1, .int .i64 r2], .int .i64 r3]) ∧ Below w.heap.size w w' := by
  obtain ⟨w1, hw1⟩ : ∃ w1, w1 = (w.alloc (.cells #[.int .i64 lot, .slice A l.length c] 31)).alloc (.cells #[.int .i64 0, .int .i64 0] 34) := ⟨_, rfl⟩
  have hB1 : Below w.heap.size w w1 := by rw [hw1]; exact ((Below.refl _ _).alloc (Nat.le_refl _) _).alloc (by simp) _
  have h4 : Blk w1 (w.heap.size + 1) #[.int .i64 0, .int .i64 0] 34 := by
    have := Blk.new (w.alloc (.cells #[.int .i64 lot, .slice A l.length c] 31)) #[.int .i64 0, .int .i64 0] 34
    rw [hw1]; simpa using this
  have HC := Aw.mk (share_any 43 Cnt.accepts (fun c W => accepted_any c W) (enters_of Try.func43 (by kernel_rfl) rfl) lot A c l bad r1 r2 r3 w1 (hz.below hB1) hbig h)
  have HW1 := Aw.mk hw1
  have HB1 := Aw.mk hB1
  have H4 := Aw.mk h4
  clear hz hbig h hw1 hB1 h4
  go_enter Try.func18, Try.ntmps18
  go_wp2_with fail
  rw [← HW1.out]
  refine HC.out.mono ?_
  intro e V hp
  obtain ⟨rfl, hb⟩ := hp
  have H4V := Aw.mk (H4.out.below hb H4.out.lt)
  have HBV := Aw.mk (HB1.out.trans (hb.mono HB1.out.size))
  have c0 : V.cell? ⟨w.heap.size + 1, 0, none⟩ = some (.int .i64 0) := H4V.out.cell 0
  have c1 : V.cell? ⟨w.heap.size + 1, 1, none⟩ = some (.int .i64 0) := H4V.out.cell 1
  have z0 : V.frozen? ⟨w.heap.size + 1, 0, none⟩ = false := H4V.out.frozen 0
  have z1 : V.frozen? ⟨w.heap.size + 1, 1, none⟩ = false := H4V.out.frozen 1
  clear hb
  go_wp2_with fail
  refine bodyPost_ret (results4_5 rfl rfl ((H4V.out.set 0 _).set 1 _)) rfl ⟨rfl, ?_⟩
  exact below_set (below_set HBV.out (Nat.le_succ _)) (Nat.le_succ _)

set_option maxHeartbeats 4000000 in
theorem mean_any (lot : Int) (A : Option Addr) (c : Nat) (l : List Stg) (bad r1 r2 r3 : Int) (w : World) (hz : StAt w A l) (hbig : l.length ≤ 9223372036854775807) (h : shareV Cnt.pieces lot l bad = some (r1, r2, r3)) :
    Calls Try.prog 23 #[.agg #[.int .i64 lot, .slice A l.length c], .int .i64 bad] w fun e w' => e = .returned (.tuple #[.agg #[.int .i64 r1, .int .i64 r2], .int .i64 r3]) ∧ Below w.heap.size w w' := by
  obtain ⟨w1, hw1⟩ : ∃ w1, w1 = (w.alloc (.cells #[.int .i64 lot, .slice A l.length c] 31)).alloc (.cells #[.int .i64 0, .int .i64 0] 34) := ⟨_, rfl⟩
  have hB1 : Below w.heap.size w w1 := by rw [hw1]; exact ((Below.refl _ _).alloc (Nat.le_refl _) _).alloc (by simp) _
  have h4 : Blk w1 (w.heap.size + 1) #[.int .i64 0, .int .i64 0] 34 := by
    have := Blk.new (w.alloc (.cells #[.int .i64 lot, .slice A l.length c] 31)) #[.int .i64 0, .int .i64 0] 34
    rw [hw1]; simpa using this
  have HC := Aw.mk (share_any 46 Cnt.pieces (fun c W => taken_any c W) (enters_of Try.func46 (by kernel_rfl) rfl) lot A c l bad r1 r2 r3 w1 (hz.below hB1) hbig h)
  have HW1 := Aw.mk hw1
  have HB1 := Aw.mk hB1
  have H4 := Aw.mk h4
  clear hz hbig h hw1 hB1 h4
  go_enter Try.func23, Try.ntmps23
  go_wp2_with fail
  rw [← HW1.out]
  refine HC.out.mono ?_
  intro e V hp
  obtain ⟨rfl, hb⟩ := hp
  have H4V := Aw.mk (H4.out.below hb H4.out.lt)
  have HBV := Aw.mk (HB1.out.trans (hb.mono HB1.out.size))
  have c0 : V.cell? ⟨w.heap.size + 1, 0, none⟩ = some (.int .i64 0) := H4V.out.cell 0
  have c1 : V.cell? ⟨w.heap.size + 1, 1, none⟩ = some (.int .i64 0) := H4V.out.cell 1
  have z0 : V.frozen? ⟨w.heap.size + 1, 0, none⟩ = false := H4V.out.frozen 0
  have z1 : V.frozen? ⟨w.heap.size + 1, 1, none⟩ = false := H4V.out.frozen 1
  clear hb
  go_wp2_with fail
  refine bodyPost_ret (results4_5 rfl rfl ((H4V.out.set 0 _).set 1 _)) rfl ⟨rfl, ?_⟩
  exact below_set (below_set HBV.out (Nat.le_succ _)) (Nat.le_succ _)

end Go.Proofs.Ytigpnafpdmdmhaa.Hand

namespace Go.Proofs.Ytigpnafpdmdmhaa.Hand
open Go.RowKit

theorem OpOk.wpOpIn' {P : Program} {ops : Array Oper} {Q : Exit → Act → World → Prop} {i : Nat} {o : Oper} {a : Act} {w : World} {K : Act → World → Prop} {rd : Option Nat}
    (ho : ops[i]? = some o) (hw : Region.wanted o (yielded ops a.tmps) = true) (hd : ∀ c, o.op ≠ .defer c) (h : OpOk P o a w fun v w' => K (a.put o.dst v) w') :
    Go.wpOpIn { Fence.wide with round := rd } 0 P ops Q i K a w := by
  have h2 : Go.wpOpIn { Fence.wide with round := rd } 0 P #[{ o with guard := none }] Q 0 K a w := OpOk.wpOpIn (i := 0) (o := { o with guard := none }) rfl rfl hd h
  unfold Go.wpOpIn at h2 ⊢
  simp only [ho]
  rw [if_pos hw]
  simp only [List.getElem?_toArray, List.getElem?_cons_zero] at h2
  rw [if_pos (by rfl)] at h2
  exact h2

theorem wpOpIn_skip {P : Program} {ops : Array Oper} {Q : Exit → Act → World → Prop} {i : Nat} {o : Oper} {a : Act} {w : World} {K : Act → World → Prop} {rd : Option Nat}
    (ho : ops[i]? = some o) (hw : Region.wanted o (yielded ops a.tmps) = false) (h : K (a.put o.dst undef) w) : wpOpIn { Fence.wide with round := rd } 0 P ops Q i K a w := by
  unfold Go.wpOpIn
  simp only [ho]
  rw [if_neg (by rw [hw]; exact Bool.false_ne_true)]
  exact ⟨fun _ _ => trivial, h⟩

/-- The operations' own places, as a Bool; guards or not. -/
def dstOk2 (ops : Array Oper) (N : Nat) (d : Nat → Nat) (sz : Nat) : Bool :=
  ((List.range N).all fun i => match ops[i]? with
    | some o => (match o.op with | .defer _ => false | _ => true) && o.dst == some (d i) && decide (d i < sz)
    | none => false) && (List.range N).all fun i => (List.range i).all fun j => d i != d j

theorem dstOk2_spec {ops : Array Oper} {N : Nat} {d : Nat → Nat} {sz : Nat} (h : dstOk2 ops N d sz = true) :
    (∀ i, i < N → ∃ o, ops[i]? = some o ∧ (∀ c, o.op ≠ .defer c) ∧ o.dst = some (d i) ∧ d i < sz) ∧ ∀ i j, i < N → j < N → d i = d j → i = j := by
  unfold dstOk2 at h
  rw [Bool.and_eq_true] at h
  obtain ⟨h1, h2⟩ := h
  refine ⟨fun i hi => ?_, fun i j hi hj e => ?_⟩
  · have := List.all_eq_true.1 h1 i (List.mem_range.2 hi)
    cases ho : ops[i]? with
    | none => simp [ho] at this
    | some o =>
      simp only [ho, Bool.and_eq_true] at this
      obtain ⟨⟨a2, a3⟩, a4⟩ := this
      refine ⟨o, rfl, fun c hc => by simp [hc] at a2, by simpa using a3, by simpa using a4⟩
  · rcases Nat.lt_trichotomy i j with hlt | rfl | hlt
    · have := List.all_eq_true.1 (List.all_eq_true.1 h2 j (List.mem_range.2 hj)) i (List.mem_range.2 hlt)
      simp [e] at this
    · rfl
    · have := List.all_eq_true.1 (List.all_eq_true.1 h2 i (List.mem_range.2 hi)) j (List.mem_range.2 hlt)
      simp [e] at this

/-- **As region_spec, with guards and with callees that write: a region that draws its order: the operations before N in whatever order, each told by what it leaves; then the others in the text's order.** -/
theorem region_spec2 {P : Program} {rd : Option Nat} {id : Nat} {ops : Array Oper} {Q : Exit → Act → World → Prop} {a0 : Act} {w0 : World} {N : Nat} (hm : P.follows .mixedOrders = true) (hl : lastOk ops N = true)
    (d : Nat → Nat) (hdst : ∀ i, i < N → ∃ o, ops[i]? = some o ∧ (∀ c, o.op ≠ .defer c) ∧ o.dst = some (d i) ∧ d i < a0.tmps.size) (hinj : ∀ i j, i < N → j < N → d i = d j → i = j)
    (B : (Nat → Prop) → (Nat → Value) → World → Prop) (Rel : Nat → World → World → Prop) (Sp : (Nat → Prop) → Nat → Value → World → Prop)
    (hSp : ∀ (L : Nat → Prop) i j v w w', i < N → j < N → i ≠ j → ¬ L i → (∀ k ∈ anc ops (i + 1) [i], k = i ∨ L k) → (∀ k ∈ anc ops (j + 1) [j], k = j ∨ L k) → Rel i w w' → Sp L j v w → Sp (fun k => L k ∨ k = i) j v w')
    (hL : ∀ (L L' : Nat → Prop) j v w, (∀ k, k < N → L k → L' k) → Sp L j v w → Sp L' j v w)
    (hBc : ∀ (L L' : Nat → Prop) (f f' : Nat → Value) w, (∀ k, k < N → (L k ↔ L' k)) → (∀ k, k < N → f k = f' k) → B L f w → B L' f' w)
    (hB0 : B (fun _ => False) (fun j => a0.tmps.getD (d j) undef) w0.drew)
    (hop : ∀ (L : Nat → Prop) (i : Nat) (o : Oper) (a : Act) (w : World), i < N → ops[i]? = some o → a.tmps.size = a0.tmps.size → (∀ s, (∀ j, j < N → d j ≠ s) → a.tmps.getD s undef = a0.tmps.getD s undef) → B L (fun j => a.tmps.getD (d j) undef) w → ¬ L i → (∀ k ∈ anc ops (i + 1) [i], k = i ∨ L k) →
      (∀ j, j < N → (L j → Sp L j (a.tmps.getD (d j) undef) w)) → (∀ j, (o.after.toList.any fun e => Region.binds .any e && e.on == j) = true → Sp L j (a.tmps.getD (d j) undef) w) →
      (Region.wanted o (yielded ops a.tmps) = true → OpOk P o a w fun v w' => Rel i w w' ∧ Sp (fun k => L k ∨ k = i) i v w' ∧ B (fun k => L k ∨ k = i) (fun j => if j = i then v else a.tmps.getD (d j) undef) w') ∧ (Region.wanted o (yielded ops a.tmps) = false → Rel i w w ∧ Sp (fun k => L k ∨ k = i) i undef w ∧ B (fun k => L k ∨ k = i) (fun j => if j = i then undef else a.tmps.getD (d j) undef) w))
    (hlast : ∀ (a : Act) (w : World), a.defers = a0.defers → a.tmps.size = a0.tmps.size → (∀ s, (∀ j, j < N → d j ≠ s) → a.tmps.getD s undef = a0.tmps.getD s undef) → (∀ (L : Nat → Prop), (∀ j, j < N → L j) → B L (fun j => a.tmps.getD (d j) undef) w) → (∀ (L : Nat → Prop), (∀ j, j < N → L j) → ∀ j, j < N → Sp L j (a.tmps.getD (d j) undef) w) →
      tailRun P Q (ops.toList.drop N) a w) :
    (Code.region id ops true).wpIn { Fence.wide with round := rd } 0 P Q a0 w0 := by
  unfold lastOk at hl
  simp only [Bool.and_eq_true, decide_eq_true_eq] at hl
  obtain ⟨⟨⟨hsz, hac⟩, hanc0⟩, htl0⟩ := hl
  have hanc : ∀ j, j < N → j ∈ anc ops (N + 1) [N] := fun j hj => by simpa using List.all_eq_true.1 hanc0 j (List.mem_range.2 hj)
  have htl : ∀ i o, ops[i]? = some o → N ≤ i → o.guard = none ∧ (∀ c, o.op ≠ .defer c) ∧ (i = N ∨ ∃ e ∈ o.after, Region.binds .any e = true ∧ e.on + 1 = i) := fun i o ho hi => by
    have hlt := (Array.getElem?_eq_some_iff.1 ho).1
    have := List.all_eq_true.1 htl0 i (List.mem_range.2 hlt)
    simp only [ho, Bool.or_eq_true, decide_eq_true_eq, Bool.and_eq_true] at this
    obtain ⟨⟨a1, a2⟩, a3⟩ := this.resolve_left (by omega)
    refine ⟨by simpa using a1, fun c hc => by simp [hc] at a2, a3.imp (fun h => h) fun h => ?_⟩
    obtain ⟨e, he, hb⟩ := List.any_eq_true.1 h
    simp only [Bool.and_eq_true, beq_iff_eq] at hb
    exact ⟨e, by simpa using he, hb.1, hb.2⟩
  refine wpIn_region_any hm (wpAnyIn_inv hac
    (fun listed a w => (∃ k, N < k ∧ k ≤ ops.size ∧ (∀ j, j < k → listed.getD j false = true) ∧ (∀ j, k ≤ j → j < ops.size → listed.getD j true = false) ∧ tailRun P Q (ops.toList.drop k) a w) ∨
      ((∀ j, N ≤ j → j < ops.size → listed.getD j true = false) ∧ listed.size = ops.size ∧ (∀ i o, i ≠ N → ops[i]? = some o → listed.getD i false = true → ∀ e ∈ o.after, Region.binds .any e = true → listed.getD e.on false = true) ∧
      a.defers = a0.defers ∧ a.tmps.size = a0.tmps.size ∧ (∀ s, (∀ j, j < N → d j ≠ s) → a.tmps.getD s undef = a0.tmps.getD s undef) ∧ B (fun k => listed.getD k false = true) (fun j => a.tmps.getD (d j) undef) w ∧ ∀ j, j < N → listed.getD j false = true → Sp (fun k => listed.getD k false = true) j (a.tmps.getD (d j) undef) w)) ?_ ?_ ops.size _ a0 _ ?_ (by simp) ?_)
  · -- a step of the tail
    have tstep : ∀ (listed : Array Bool) (a : Act) (w : World) (k : Nat) (o : Oper), N ≤ k → ops[k]? = some o → listed.size = ops.size → (∀ j, j < k → listed.getD j false = true) → (∀ j, k ≤ j → j < ops.size → listed.getD j true = false) →
        tailRun P Q (ops.toList.drop k) a w → wpOpIn { Fence.wide with round := rd } 0 P ops Q k (fun a' w' => ∃ k', N < k' ∧ k' ≤ ops.size ∧ (∀ j, j < k' → (listed.setIfInBounds k true).getD j false = true) ∧ (∀ j, k' ≤ j → j < ops.size → (listed.setIfInBounds k true).getD j true = false) ∧ tailRun P Q (ops.toList.drop k') a' w') a w := by
      intro listed a w k o hk ho hs hlo hhi ht
      obtain ⟨hlt, hok⟩ := Array.getElem?_eq_some_iff.1 ho
      have hdr : ops.toList.drop k = o :: ops.toList.drop (k + 1) := by
        rw [List.drop_eq_getElem_cons (by simpa using hlt)]
        simp [hok]
      rw [hdr] at ht
      obtain ⟨g1, g2, _⟩ := htl k o ho hk
      refine OpOk.wpOpIn ho g1 g2 (OpOk.mono ht fun v w' h => ⟨k + 1, by omega, by omega, fun j hj => ?_, fun j hj hjs => ?_, h⟩)
      · by_cases e : j = k
        · subst e
          have : j < listed.size := by omega
          simp [this]
        · exact getD_set_true (hlo j (by omega))
      · rw [getD_set_ne true (by omega)]; exact hhi j (by omega) hjs
    rintro listed a w i o (⟨k, hk1, hk2, hlo, hhi, ht⟩ | ⟨hNl, hls, hcl, hdf, hts, hfix, hBw, hall⟩) hs ho hun hdeps
    · have hi : i < ops.size := (Array.getElem?_eq_some_iff.1 ho).1
      have hki : k ≤ i := by
        rcases Nat.lt_or_ge i k with h | h
        · have h1 := hlo i h
          have hil : i < listed.size := by omega
          simp [hil] at h1 hun
          rw [h1] at hun; cases hun
        · exact h
      have hik : i = k := by
        obtain ⟨_, _, h | ⟨e, he, hb, he1⟩⟩ := htl i o ho (by omega)
        · omega
        · rcases Nat.lt_or_ge k i with h | h
          · have h1 := hdeps e he hb
            have h2 := hhi e.on (by omega) (by omega)
            have hil : e.on < listed.size := by omega
            simp [hil] at h1 h2
            rw [h1] at h2; cases h2
          · omega
      subst hik
      exact wpOpIn_mono (fun a' w' h => .inl h) (tstep listed a w i o (by omega) ho hs hlo hhi ht)
    · have hi : i < ops.size := (Array.getElem?_eq_some_iff.1 ho).1
      rcases Nat.lt_or_ge i N with hiN' | hge
      · obtain ⟨o', ho', hdf', hds, hdlt⟩ := hdst i hiN'
        obtain rfl : o = o' := by rw [ho] at ho'; exact Option.some.inj ho'
        have hanc2 : ∀ k ∈ anc ops (i + 1) [i], k = i ∨ listed.getD k false = true :=
          anc_spec (N := i) (fun i' o' hne ho' hl' => by
            by_cases h : i' = N
            · subst h
              have h1 := hNl i' (Nat.le_refl _) hsz
              have hil : i' < listed.size := by omega
              simp [hil] at h1 hl'
              rw [h1] at hl'; cases hl'
            · exact hcl i' o' h ho' hl') (fun o' ho' => by obtain rfl : o = o' := Option.some.inj (ho.symm.trans ho'); exact hdeps) (i + 1) [i] (fun k hk => .inl (by simpa using hk))
        have hanc3 : ∀ j, j < N → listed.getD j false = true → ∀ k ∈ anc ops (j + 1) [j], k = j ∨ listed.getD k false = true := fun j hjN hjl =>
          anc_spec (N := j) (fun i' o' hne ho' hl' => by
            by_cases h : i' = N
            · subst h
              have h1 := hNl i' (Nat.le_refl _) hsz
              have hil : i' < listed.size := by omega
              simp [hil] at h1 hl'
              rw [h1] at hl'; cases hl'
            · exact hcl i' o' h ho' hl') (fun o' ho' => hcl j o' (by omega) ho' hjl) (j + 1) [j] (fun k hk => .inl (by simpa using hk))
        have hnl : ¬ listed.getD i false = true := by
          have hil : i < listed.size := by omega
          simp [hil] at hun ⊢
          exact hun
        have fin : ∀ (v : Value) (w' : World), Rel i w w' ∧ Sp (fun k => listed.getD k false = true ∨ k = i) i v w' ∧ B (fun k => listed.getD k false = true ∨ k = i) (fun j => if j = i then v else a.tmps.getD (d j) undef) w' → (∀ j, N ≤ j → j < ops.size → (listed.setIfInBounds i true).getD j true = false) ∧ (listed.setIfInBounds i true).size = ops.size ∧ (∀ i' o, i' ≠ N → ops[i']? = some o → (listed.setIfInBounds i true).getD i' false = true → ∀ e ∈ o.after, Region.binds .any e = true → (listed.setIfInBounds i true).getD e.on false = true) ∧
            (a.put o.dst v).defers = a0.defers ∧ (a.put o.dst v).tmps.size = a0.tmps.size ∧ (∀ s, (∀ j, j < N → d j ≠ s) → (a.put o.dst v).tmps.getD s undef = a0.tmps.getD s undef) ∧ B (fun k => (listed.setIfInBounds i true).getD k false = true) (fun j => (a.put o.dst v).tmps.getD (d j) undef) w' ∧ ∀ j, j < N → (listed.setIfInBounds i true).getD j false = true → Sp (fun k => (listed.setIfInBounds i true).getD k false = true) j ((a.put o.dst v).tmps.getD (d j) undef) w' := by
          rintro v w' ⟨hbw, hsp, hBn⟩
          have hil : i < listed.size := by omega
          have hLL : ∀ k, k < N → (listed.getD k false = true ∨ k = i) → (listed.setIfInBounds i true).getD k false = true := fun k _ hk => by
            rcases hk with hk | rfl
            · exact getD_set_true hk
            · simp [hil]
          refine ⟨?_, by simp [hls], ?_, ?_, ?_, ?_, ?_, ?_⟩
          · intro j hj hjs
            rw [getD_set_ne true (by omega)]; exact hNl j hj hjs
          · intro j oj hjN hoj hjl e he hb
            by_cases hji : i = j
            · subst hji
              obtain rfl : o = oj := by rw [ho] at hoj; exact Option.some.inj hoj
              exact getD_set_true (hdeps e he hb)
            · rw [getD_set_ne false hji] at hjl
              exact getD_set_true (hcl j oj hjN hoj hjl e he hb)
          · rw [hds]; exact hdf
          · rw [hds]; simp [Act.put, hts]
          · intro s hns
            rw [hds]
            have hne : d i ≠ s := hns i hiN'
            simp only [Act.put]
            rw [← hfix s hns]
            simp [Array.getElem?_setIfInBounds_ne hne]
          · refine hBc _ _ _ _ w' (fun k hk => ⟨hLL k hk, fun h => ?_⟩) (fun k hk => ?_) hBn
            · by_cases hki : i = k
              · exact .inr hki.symm
              · rw [getD_set_ne false hki] at h; exact .inl h
            · rw [hds]
              by_cases hki : k = i
              · subst hki
                have : d k < a.tmps.size := by omega
                simp [Act.put, this]
              · have hne : d i ≠ d k := fun e => hki (hinj i k hiN' hk e).symm
                rw [if_neg hki]
                simp [Act.put, Array.getElem?_setIfInBounds_ne hne]
          · intro j hj hjl
            rw [hds]
            by_cases hji : i = j
            · subst hji
              simp only [Act.put]
              have : d i < a.tmps.size := by omega
              have h2 := hL _ _ i v w' hLL hsp
              simpa [this] using h2
            · rw [getD_set_ne false hji] at hjl
              have hne : d i ≠ d j := fun e => hji (hinj i j hiN' hj e)
              have h2 := hL _ _ j _ w' hLL (hSp (fun k => listed.getD k false = true) i j _ w w' hiN' hj hji hnl hanc2 (hanc3 j hj hjl) hbw (hall j hj hjl))
              simpa [Act.put, Array.getElem?_setIfInBounds_ne hne] using h2
        obtain ⟨hw1, hw0⟩ := hop (fun k => listed.getD k false = true) i o a w hiN' ho hts hfix hBw hnl hanc2 hall (fun j hj => by
          obtain ⟨e, he, hb⟩ := List.any_eq_true.1 hj
          simp only [Bool.and_eq_true, beq_iff_eq] at hb
          obtain ⟨hb1, rfl⟩ := hb
          have he' : e ∈ o.after := by simpa using he
          have hlt := acyc_spec hac ho he'
          exact hall e.on (by omega) (hdeps e he' hb1))
        cases hwt : Region.wanted o (yielded ops a.tmps) with
        | true => exact OpOk.wpOpIn' ho hwt hdf' ((hw1 hwt).mono fun v w' h => .inr (fin v w' h))
        | false => exact wpOpIn_skip ho hwt (.inr (fin undef w (hw0 hwt)))
      · have hiN : i = N := by
          obtain ⟨_, _, h | ⟨e, he, hb, he1⟩⟩ := htl i o ho hge
          · exact h
          · rcases Nat.lt_or_ge N i with h | h
            · have h1 := hdeps e he hb
              have h2 := hNl e.on (by omega) (by omega)
              have hil : e.on < listed.size := by omega
              simp [hil] at h1 h2
              rw [h1] at h2; cases h2
            · omega
        subst hiN
        have hallL : ∀ j, j < i → listed.getD j false = true := fun j hj => by
          rcases anc_spec hcl (fun o' ho' e he hb => by obtain rfl : o = o' := Option.some.inj (ho.symm.trans ho'); exact hdeps e he hb) (i + 1) [i] (fun k hk => .inl (by simpa using hk)) j (hanc j hj) with h | h
          · omega
          · exact h
        exact wpOpIn_mono (fun a' w' h => .inl h) (tstep listed a w i o (by omega) ho hs hallL hNl (hlast a w hdf hts hfix (fun L hLn => hBc _ L _ _ w (fun k hk => ⟨fun _ => hLn k hk, fun _ => hallL k hk⟩) (fun _ _ => rfl) hBw) (fun L hLn j hj => hL _ L j _ w (fun k hk _ => hLn k hk) (hall j hj (hallL j hj)))))
  · rintro listed a w (⟨k, hk1, hk2, hlo, hhi, ht⟩ | ⟨hNl, _⟩) hall
    · have hk : k = ops.size := by
        rcases Nat.lt_or_ge k ops.size with h | h
        · have h1 := hall k h
          have h2 := hhi k (Nat.le_refl _) h
          by_cases hkl : k < listed.size
          · simp [hkl] at h1 h2
            rw [h1] at h2; cases h2
          · simp [hkl] at h1
        · omega
      subst hk
      rw [List.drop_of_length_le (by simp)] at ht
      exact ht
    · have h1 := hall N hsz
      have h2 := hNl N (Nat.le_refl _) hsz
      by_cases hkl : N < listed.size
      · simp [hkl] at h1 h2
        rw [h1] at h2; cases h2
      · simp [hkl] at h1
  · refine .inr ⟨fun j _ hj => by simp [hj], by simp, fun i o _ _ h => ?_, rfl, rfl, fun _ _ => rfl, hBc _ _ _ _ _ (fun k _ => ⟨fun h => h.elim, fun h => ?_⟩) (fun _ _ => rfl) hB0, fun j _ h => ?_⟩
    · simp [Array.getElem?_replicate] at h; split at h <;> simp at h
    · simp [Array.getElem?_replicate] at h; split at h <;> simp at h
    · simp [Array.getElem?_replicate] at h; split at h <;> simp at h
  · unfold left
    exact Nat.le_trans List.countP_le_length (by simp)

/-- As 'region_spec2', the places checked at once; each operation by its number. -/
theorem region_walk2 {P : Program} {rd : Option Nat} {id : Nat} {ops : Array Oper} {Q : Exit → Act → World → Prop} {a0 : Act} {w0 : World} (N : Nat) (d : Nat → Nat) (hm : P.follows .mixedOrders = true) (hl : lastOk ops N = true)
    (hd : dstOk2 ops N d a0.tmps.size = true)
    (B : (Nat → Prop) → (Nat → Value) → World → Prop) (Rel : Nat → World → World → Prop) (Sp : (Nat → Prop) → Nat → Value → World → Prop)
    (hSp : ∀ (L : Nat → Prop) i j v w w', i < N → j < N → i ≠ j → ¬ L i → (∀ k ∈ anc ops (i + 1) [i], k = i ∨ L k) → (∀ k ∈ anc ops (j + 1) [j], k = j ∨ L k) → Rel i w w' → Sp L j v w → Sp (fun k => L k ∨ k = i) j v w')
    (hL : ∀ (L L' : Nat → Prop) j v w, (∀ k, k < N → L k → L' k) → Sp L j v w → Sp L' j v w)
    (hBc : ∀ (L L' : Nat → Prop) (f f' : Nat → Value) w, (∀ k, k < N → (L k ↔ L' k)) → (∀ k, k < N → f k = f' k) → B L f w → B L' f' w)
    (hB0 : B (fun _ => False) (fun j => a0.tmps.getD (d j) undef) w0.drew)
    (hop : ∀ (L : Nat → Prop) (i : Nat) (a : Act) (w : World) (hi : i < ops.size), i < N → a.tmps.size = a0.tmps.size → (∀ s, (∀ j, j < N → d j ≠ s) → a.tmps.getD s undef = a0.tmps.getD s undef) → B L (fun j => a.tmps.getD (d j) undef) w → ¬ L i → (∀ k ∈ anc ops (i + 1) [i], k = i ∨ L k) →
      (∀ j, j < N → (L j → Sp L j (a.tmps.getD (d j) undef) w)) → (∀ j, (ops[i].after.toList.any fun e => Region.binds .any e && e.on == j) = true → Sp L j (a.tmps.getD (d j) undef) w) →
      (Region.wanted ops[i] (yielded ops a.tmps) = true → OpOk P ops[i] a w fun v w' => Rel i w w' ∧ Sp (fun k => L k ∨ k = i) i v w' ∧ B (fun k => L k ∨ k = i) (fun j => if j = i then v else a.tmps.getD (d j) undef) w') ∧ (Region.wanted ops[i] (yielded ops a.tmps) = false → Rel i w w ∧ Sp (fun k => L k ∨ k = i) i undef w ∧ B (fun k => L k ∨ k = i) (fun j => if j = i then undef else a.tmps.getD (d j) undef) w))
    (hlast : ∀ (a : Act) (w : World), a.defers = a0.defers → a.tmps.size = a0.tmps.size → (∀ s, (∀ j, j < N → d j ≠ s) → a.tmps.getD s undef = a0.tmps.getD s undef) → (∀ (L : Nat → Prop), (∀ j, j < N → L j) → B L (fun j => a.tmps.getD (d j) undef) w) → (∀ (L : Nat → Prop), (∀ j, j < N → L j) → ∀ j, j < N → Sp L j (a.tmps.getD (d j) undef) w) →
      tailRun P Q (ops.toList.drop N) a w) :
    (Code.region id ops true).wpIn { Fence.wide with round := rd } 0 P Q a0 w0 := by
  obtain ⟨h1, h2⟩ := dstOk2_spec hd
  refine region_spec2 hm hl d h1 h2 B Rel Sp hSp hL hBc hB0 ?_ hlast
  intro L i o a w hi ho hts hfix hBw hnl hanc hall hdep
  obtain ⟨his, rfl⟩ := Array.getElem?_eq_some_iff.1 ho
  exact hop L i a w his hi hts hfix hBw hnl hanc hall hdep

end Go.Proofs.Ytigpnafpdmdmhaa.Hand

namespace Go.Proofs.Ytigpnafpdmdmhaa.Hand
open Go.RowKit Go.Shelf

theorem Chg.cell {X : Nat → Prop} {w W : World} {p : Addr} {x : Value} (h : w.cell? p = some x) (hc : Chg X w W) (hx : ¬ X p.block) : W.cell? p = some x := by
  have e : W.heap[p.block]? = w.heap[p.block]? := hc.block _ (block_lt_of_cell h) hx
  exact (World.cell?_of_block (w := w) e).trans h

theorem mem_of_contains {l : List Nat} {a : Nat} (h : l.contains a = true) : a ∈ l := by simpa using h

/-- Maps alone are written. -/
def MapChg (b : Prop) (s : Nat) (W W' : World) : Prop := Chg (fun k => b ∧ s ≤ k ∧ ∃ es clock, W.heap[k]? = some (.map es clock)) W W'
theorem MapChg.blk {p : Prop} {s : Nat} {W W' : World} (h : MapChg p s W W') {b : Nat} {cs : Array Value} {t : Nat} (hb : Blk W b cs t) : Blk W' b cs t :=
  hb.chg h (fun ⟨_, _, _, _, hm⟩ => not_map hm hb rfl)
theorem MapChg.cell {p : Prop} {s : Nat} {W W' : World} (h : MapChg p s W W') {a : Addr} {v : Value} (hb : W.cell? a = some v) : W'.cell? a = some v :=
  Chg.cell hb h (fun ⟨_, _, _, _, hm⟩ => cell_not_map hm hb rfl)
theorem MapChg.stAt {p : Prop} {s : Nat} {W W' : World} (h : MapChg p s W W') {A : Option Addr} {l : List Stg} (hS : StAt W A l) : StAt W' A l := by
  intro i hi
  obtain ⟨b, off, hA, hlt, h0, h1, h2⟩ := hS i hi
  exact ⟨b, off, hA, Nat.lt_of_lt_of_le hlt (Chg.size h), h.cell h0, h.cell h1, h.cell h2⟩
theorem MapChg.below {p : Prop} {w W W' : World} (h : MapChg p w.heap.size W W') (hb : Below w.heap.size w W) : Below w.heap.size w W' :=
  hb.trans (Chg.toBelow h hb.size (fun _ hk => hk.2.1))
theorem MapChg.map {p : Prop} {s : Nat} {W W' : World} (h : MapChg p s W W') (hp : ¬ p) {m : Nat} {o : Obj} (hm : W.heap[m]? = some o) : W'.heap[m]? = some o :=
  (Chg.block h m (Array.getElem?_eq_some_iff.1 hm).1 (fun hx => hp hx.1)).trans hm

set_option maxHeartbeats 4000000 in
set_option maxRecDepth 10000 in
theorem kept_region1 (lot good bad : Nat) (hl30 : lot ≤ 30) (hgood : good ≤ lot) (hbad : bad ≤ lot) (A : Option Addr) (c : Nat) (l : List Stg) (hlen : l.length ≤ 3) (hne : l ≠ []) (hld : lastDec l) (hfit : fits lot 0 l)
    (B2 B3 : Nat) (al be : Int) (a0 : Act) (w0 : World) (Q : Exit → Act → World → Prop) (hsz : a0.tmps.size = 42)
    (f2 : a0.tmps.getD 2 undef = .pointer (some ⟨B2, 0, none⟩)) (f3 : a0.tmps.getD 3 undef = .pointer (some ⟨B3, 0, none⟩))
    (h2 : Blk w0 B2 #[.int .i64 good, .int .i64 bad, .int .i64 al, .int .i64 be] 68) (h3 : Blk w0 B3 #[.int .i64 lot, .slice A l.length c] 31) (hS : StAt w0 A l)
    (hQ : ∀ (B5 B6 : Nat) (a : Act) (W : World), a.defers = a0.defers → a.tmps.size = 42 → a.tmps.getD 2 undef = .pointer (some ⟨B2, 0, none⟩) → a.tmps.getD 5 undef = .pointer (some ⟨B5, 0, none⟩) → a.tmps.getD 6 undef = .pointer (some ⟨B6, 0, none⟩) →
      Below w0.heap.size w0 W → Blk W B5 (cntW lot good l 0 0).cells 84 → Blk W B6 (cntW lot bad l 0 0).cells 84 → Q .normal a W) :
    (Code.region 1 (opsOf Try.f49 1) true).wpIn Fence.wide 0 Try.prog Q a0 w0 := by
  refine region_walk2 (rd := none) 12 (fun i => if i < 10 then i + 7 else i - 5) (by kernel_rfl) (by kernel_rfl) (by rw [hsz]; kernel_rfl)
    (fun L f W => (Blk W B2 #[.int .i64 good, .int .i64 bad, .int .i64 al, .int .i64 be] 68 ∧ Blk W B3 #[.int .i64 lot, .slice A l.length c] 31 ∧ StAt W A l ∧ Below w0.heap.size w0 W) ∧
      (L 10 → ∃ b, f 10 = .pointer (some ⟨b, 0, none⟩) ∧ b < W.heap.size) ∧ (L 11 → ∃ b, f 11 = .pointer (some ⟨b, 0, none⟩) ∧ b < W.heap.size) ∧ (L 10 → L 11 → f 10 ≠ f 11))
    (fun i W W' => MapChg (i = 4 ∨ i = 9) w0.heap.size W W')
    (fun L i v W => match i with
      | 0 => v = .agg #[.int .i64 (lot : Int), .slice A l.length c]
      | 1 => v = .pointer (some ⟨B2, 0, none⟩)
      | 2 => v = .int .i64 (good : Int)
      | 3 => L 4 ∨ ∃ g m : Nat, v = .pointer (some ⟨g, 0, none⟩) ∧ w0.heap.size ≤ m ∧ Blk W g (work (lot : Int) A l.length c (good : Int) m) 108 ∧ W.heap[m]? = some (.map #[] 0)
      | 4 => v = (cntW lot good l 0 0).enc
      | 5 => v = .agg #[.int .i64 (lot : Int), .slice A l.length c]
      | 6 => v = .pointer (some ⟨B2, 1, none⟩)
      | 7 => v = .int .i64 (bad : Int)
      | 8 => L 9 ∨ ∃ g m : Nat, v = .pointer (some ⟨g, 0, none⟩) ∧ w0.heap.size ≤ m ∧ Blk W g (work (lot : Int) A l.length c (bad : Int) m) 108 ∧ W.heap[m]? = some (.map #[] 0)
      | 9 => v = (cntW lot bad l 0 0).enc
      | 10 => ∃ b : Nat, v = .pointer (some ⟨b, 0, none⟩) ∧ w0.heap.size ≤ b ∧ Blk W b #[.int .i64 0, .int .i64 0, .int .i64 0] 84
      | _ => ∃ b : Nat, v = .pointer (some ⟨b, 0, none⟩) ∧ w0.heap.size ≤ b ∧ Blk W b #[.int .i64 0, .int .i64 0, .int .i64 0] 84)
    ?hSp ?hL ?hBc ⟨⟨h2.drew, h3.drew, hS, (Below.refl _ _).drew⟩, fun h => h.elim, fun h => h.elim, fun h => h.elim⟩ ?hop ?hlast
  case hSp =>
    intro L i j v W W' hi hj hij hnl hanc hancj hr h
    have hb : (∃ b : Nat, v = .pointer (some ⟨b, 0, none⟩) ∧ w0.heap.size ≤ b ∧ Blk W b #[.int .i64 0, .int .i64 0, .int .i64 0] 84) → ∃ b : Nat, v = .pointer (some ⟨b, 0, none⟩) ∧ w0.heap.size ≤ b ∧ Blk W' b #[.int .i64 0, .int .i64 0, .int .i64 0] 84 := fun ⟨b, e1, e2, e3⟩ => ⟨b, e1, e2, hr.blk e3⟩
    match j, hj, hij, hancj, h with
    | 0, _, _, _, h | 1, _, _, _, h | 2, _, _, _, h | 4, _, _, _, h | 5, _, _, _, h | 6, _, _, _, h | 7, _, _, _, h | 9, _, _, _, h => exact h
    | 3, _, _, _, h =>
      rcases h with h | ⟨g, m, e1, e2, e3, e4⟩
      · exact .inl (.inl h)
      · by_cases i4 : i = 4
        · exact .inl (.inr i4.symm)
        · by_cases i9 : i = 9
          · subst i9
            exact .inl (.inl ((hanc 4 (mem_of_contains (by kernel_rfl))).resolve_left (by decide)))
          · exact .inr ⟨g, m, e1, e2, hr.blk e3, hr.map (by omega) e4⟩
    | 8, _, _, hancj, h =>
      rcases h with h | ⟨g, m, e1, e2, e3, e4⟩
      · exact .inl (.inl h)
      · by_cases i9 : i = 9
        · exact .inl (.inr i9.symm)
        · by_cases i4 : i = 4
          · subst i4
            exact absurd ((hancj 4 (mem_of_contains (by kernel_rfl))).resolve_left (by decide)) hnl
          · exact .inr ⟨g, m, e1, e2, hr.blk e3, hr.map (by omega) e4⟩
    | 10, _, _, _, h => exact hb h
    | _ + 11, _, _, _, h => exact hb h
  case hL =>
    intro L L' j v W hLL h
    match j, h with
    | 0, h | 1, h | 2, h | 4, h | 5, h | 6, h | 7, h | 9, h | 10, h => exact h
    | 3, h => exact h.imp (hLL 4 (by decide)) (fun h => h)
    | 8, h => exact h.imp (hLL 9 (by decide)) (fun h => h)
    | _ + 11, h => exact h
  case hBc =>
    rintro L L' f f' W hLL hff ⟨b1, b2, b3, b4⟩
    have a10 := hLL 10 (by decide)
    have a11 := hLL 11 (by decide)
    rw [hff 10 (by decide), a10] at b2
    rw [hff 11 (by decide), a11] at b3
    rw [hff 10 (by decide), hff 11 (by decide), a10, a11] at b4
    exact ⟨b1, b2, b3, b4⟩
  case hop =>
    intro L i a W hi hN hsz' hfix hBW hnl hanc hall hdep
    have f2 : a.tmps.getD 2 undef = .pointer (some ⟨B2, 0, none⟩) := (hfix 2 (fun j _ => by split <;> omega)).trans f2
    have f3 : a.tmps.getD 3 undef = .pointer (some ⟨B3, 0, none⟩) := (hfix 3 (fun j _ => by split <;> omega)).trans f3
    have e0 : ∀ x, a.eval (.tmp x) = a.tmps.getD x undef := fun _ => rfl
    have g0 : W.cell? ⟨B3, 0, none⟩ = some (.int .i64 lot) := hBW.1.2.1.cell 0
    have g1 : W.cell? ⟨B3, 1, none⟩ = some (.slice A l.length c) := hBW.1.2.1.cell 1
    have g2 : W.cell? ⟨B2, 0, none⟩ = some (.int .i64 good) := hBW.1.1.cell 0
    have g3 : W.cell? ⟨B2, 1, none⟩ = some (.int .i64 bad) := hBW.1.1.cell 1
    have hWd : ∀ {p : Prop} {W' : World}, MapChg p w0.heap.size W W' → (Blk W' B2 #[.int .i64 good, .int .i64 bad, .int .i64 al, .int .i64 be] 68 ∧ Blk W' B3 #[.int .i64 lot, .slice A l.length c] 31 ∧ StAt W' A l ∧ Below w0.heap.size w0 W') := fun hr => ⟨hr.blk hBW.1.1, hr.blk hBW.1.2.1, hr.stAt hBW.1.2.2.1, hr.below hBW.1.2.2.2⟩
    have hBn : ∀ (v : Value) (W' : World), i ≠ 10 → i ≠ 11 → MapChg (i = 4 ∨ i = 9) w0.heap.size W W' → (Blk W' B2 #[.int .i64 good, .int .i64 bad, .int .i64 al, .int .i64 be] 68 ∧ Blk W' B3 #[.int .i64 lot, .slice A l.length c] 31 ∧ StAt W' A l ∧ Below w0.heap.size w0 W') ∧
        ((L 10 ∨ 10 = i) → ∃ b, (if 10 = i then v else a.tmps.getD 5 undef) = .pointer (some ⟨b, 0, none⟩) ∧ b < W'.heap.size) ∧ ((L 11 ∨ 11 = i) → ∃ b, (if 11 = i then v else a.tmps.getD 6 undef) = .pointer (some ⟨b, 0, none⟩) ∧ b < W'.heap.size) ∧
        ((L 10 ∨ 10 = i) → (L 11 ∨ 11 = i) → (if 10 = i then v else a.tmps.getD 5 undef) ≠ (if 11 = i then v else a.tmps.getD 6 undef)) := by
      intro v W' n10 n11 hr
      have n10' : ¬ 10 = i := fun e => n10 e.symm
      have n11' : ¬ 11 = i := fun e => n11 e.symm
      refine ⟨hWd hr, fun h => ?_, fun h => ?_, fun h h' => ?_⟩
      · rw [if_neg n10']
        obtain ⟨b, e1, e2⟩ := hBW.2.1 (h.resolve_right n10')
        exact ⟨b, e1, Nat.lt_of_lt_of_le e2 (Chg.size hr)⟩
      · rw [if_neg n11']
        obtain ⟨b, e1, e2⟩ := hBW.2.2.1 (h.resolve_right n11')
        exact ⟨b, e1, Nat.lt_of_lt_of_le e2 (Chg.size hr)⟩
      · rw [if_neg n10', if_neg n11']
        exact hBW.2.2.2 (h.resolve_right n10') (h'.resolve_right n11')
    have hB10 : ∀ {o : Obj}, Below W.heap.size W (W.alloc o) → (Blk (W.alloc o) B2 #[.int .i64 good, .int .i64 bad, .int .i64 al, .int .i64 be] 68 ∧ Blk (W.alloc o) B3 #[.int .i64 lot, .slice A l.length c] 31 ∧ StAt (W.alloc o) A l ∧ Below w0.heap.size w0 (W.alloc o)) ∧
        ((L 10 ∨ 10 = 10) → ∃ b, (if 10 = 10 then .pointer (some ⟨W.heap.size, 0, none⟩) else a.tmps.getD 5 undef) = .pointer (some ⟨b, 0, none⟩) ∧ b < (W.alloc o).heap.size) ∧ ((L 11 ∨ 11 = 10) → ∃ b, (if 11 = 10 then .pointer (some ⟨W.heap.size, 0, none⟩) else a.tmps.getD 6 undef) = .pointer (some ⟨b, 0, none⟩) ∧ b < (W.alloc o).heap.size) ∧
        ((L 10 ∨ 10 = 10) → (L 11 ∨ 11 = 10) → (if 10 = 10 then .pointer (some ⟨W.heap.size, 0, none⟩) else a.tmps.getD 5 undef) ≠ (if 11 = 10 then .pointer (some ⟨W.heap.size, 0, none⟩) else a.tmps.getD 6 undef)) := by
      intro o hal
      refine ⟨hWd (p := False) (Chg.below hal _), fun _ => ⟨W.heap.size, rfl, by simp⟩, fun h => ?_, fun _ h => ?_⟩
      · obtain ⟨b, e1, e2⟩ := hBW.2.2.1 (h.resolve_right (by decide))
        exact ⟨b, e1, Nat.lt_of_lt_of_le e2 hal.size⟩
      · obtain ⟨b, e1, e2⟩ := hBW.2.2.1 (h.resolve_right (by decide))
        intro hq
        have e1' : a.tmps.getD 6 undef = .pointer (some ⟨b, 0, none⟩) := e1
        rw [if_pos rfl, if_neg (by decide), e1'] at hq
        cases hq
        omega
    have hB11 : ∀ {o : Obj}, Below W.heap.size W (W.alloc o) → (Blk (W.alloc o) B2 #[.int .i64 good, .int .i64 bad, .int .i64 al, .int .i64 be] 68 ∧ Blk (W.alloc o) B3 #[.int .i64 lot, .slice A l.length c] 31 ∧ StAt (W.alloc o) A l ∧ Below w0.heap.size w0 (W.alloc o)) ∧
        ((L 10 ∨ 10 = 11) → ∃ b, (if 10 = 11 then .pointer (some ⟨W.heap.size, 0, none⟩) else a.tmps.getD 5 undef) = .pointer (some ⟨b, 0, none⟩) ∧ b < (W.alloc o).heap.size) ∧ ((L 11 ∨ 11 = 11) → ∃ b, (if 11 = 11 then .pointer (some ⟨W.heap.size, 0, none⟩) else a.tmps.getD 6 undef) = .pointer (some ⟨b, 0, none⟩) ∧ b < (W.alloc o).heap.size) ∧
        ((L 10 ∨ 10 = 11) → (L 11 ∨ 11 = 11) → (if 10 = 11 then .pointer (some ⟨W.heap.size, 0, none⟩) else a.tmps.getD 5 undef) ≠ (if 11 = 11 then .pointer (some ⟨W.heap.size, 0, none⟩) else a.tmps.getD 6 undef)) := by
      intro o hal
      refine ⟨hWd (p := False) (Chg.below hal _), fun h => ?_, fun _ => ⟨W.heap.size, rfl, by simp⟩, fun h _ => ?_⟩
      · obtain ⟨b, e1, e2⟩ := hBW.2.1 (h.resolve_right (by decide))
        exact ⟨b, e1, Nat.lt_of_lt_of_le e2 hal.size⟩
      · obtain ⟨b, e1, e2⟩ := hBW.2.1 (h.resolve_right (by decide))
        intro hq
        have e1' : a.tmps.getD 5 undef = .pointer (some ⟨b, 0, none⟩) := e1
        rw [if_pos rfl, if_neg (by decide), e1'] at hq
        cases hq
        omega
    clear hQ
    match i, hnl, hanc, hN, hi, hdep, hBn with
    | 0, hL0, hanc, _, _, hdep, hBn =>
      refine ⟨fun _ => ?_, fun h => absurd (show true = false from h) (by decide)⟩
      refine OpOk.val (v := .agg #[.int .i64 (lot : Int), .slice A l.length c]) (w' := W) ?_ ⟨Chg.refl _ _, rfl, hBn _ _ (by decide) (by decide) (Chg.refl _ _)⟩
      show (execOp a.eval { dst := some 7, op := Op.load 31 (.tmp 3), type := _, pos := _, after := _, guard := none }).run Try.prog W = _
      simp only [execOp, List.map_toArray, List.map_cons, List.map_nil, e0, f3]
      go_simp
    | 1, hL0, hanc, _, _, hdep, hBn =>
      refine ⟨fun _ => ?_, fun h => absurd (show true = false from h) (by decide)⟩
      refine OpOk.val (v := .pointer (some ⟨B2, 0, none⟩)) (w' := W) ?_ ⟨Chg.refl _ _, rfl, hBn _ _ (by decide) (by decide) (Chg.refl _ _)⟩
      show (execOp a.eval { dst := some 8, op := Op.fieldAddr 68 (.tmp 2) 0, type := _, pos := _, after := _, guard := none }).run Try.prog W = _
      simp only [execOp, List.map_toArray, List.map_cons, List.map_nil, e0, f2]
      go_simp
    | 2, hL0, hanc, _, _, hdep, hBn =>
      refine ⟨fun _ => ?_, fun h => absurd (show true = false from h) (by decide)⟩
      have d8 : a.tmps.getD 8 undef = .pointer (some ⟨B2, 0, none⟩) := hdep 1 rfl
      refine OpOk.val (v := .int .i64 (good : Int)) (w' := W) ?_ ⟨Chg.refl _ _, rfl, hBn _ _ (by decide) (by decide) (Chg.refl _ _)⟩
      show (execOp a.eval { dst := some 9, op := Op.load 3 (.tmp 8), type := _, pos := _, after := _, guard := none }).run Try.prog W = _
      simp only [execOp, List.map_toArray, List.map_cons, List.map_nil, e0, d8]
      go_simp
    | 3, hL0, hanc, _, _, hdep, hBn =>
      refine ⟨fun _ => ?_, fun h => absurd (show true = false from h) (by decide)⟩
      have d7 : a.tmps.getD 7 undef = .agg #[.int .i64 (lot : Int), .slice A l.length c] := hdep 0 rfl
      have d9 : a.tmps.getD 9 undef = .int .i64 (good : Int) := hdep 2 rfl
      refine OpOk.call (f := 53) (args := #[.agg #[.int .i64 (lot : Int), .slice A l.length c], .int .i64 (good : Int)]) (w1 := W) ?_ ((on_any (lot : Int) A l.length c (good : Int) W).mono ?_)
      · show (execOp a.eval { dst := some 10, op := Op.call { callee := .value (.func 53), args := #[(.tmp 7), (.tmp 9)], argTypes := #[31, 3] }, type := _, pos := _, after := _, guard := none }).run Try.prog W = _
        have e53 : ∀ args w, (callFunc 53 args).run Try.prog w = .ok (.enter 53 args) w := enters_of Try.func53 (by kernel_rfl) rfl
        simp only [execOp, List.map_toArray, List.map_cons, List.map_nil, e0, d7, d9]
        go_simp
      · rintro e w' ⟨g, m, rfl, hbk, hm, hl1, hl2, hb⟩
        exact ⟨_, rfl, Chg.below hb _, .inr ⟨g, m, rfl, Nat.le_trans hBW.1.2.2.2.size hl2, hbk, hm⟩, hBn _ _ (by decide) (by decide) (Chg.below hb _)⟩
    | 4, hL0, hanc, _, _, hdep, hBn =>
      refine ⟨fun _ => ?_, fun h => absurd (show true = false from h) (by decide)⟩
      obtain ⟨g, m, d10, hl, hbk, hm⟩ := (show L 4 ∨ ∃ g m : Nat, a.tmps.getD 10 undef = .pointer (some ⟨g, 0, none⟩) ∧ w0.heap.size ≤ m ∧ Blk W g (work (lot : Int) A l.length c (good : Int) m) 108 ∧ W.heap[m]? = some (.map #[] 0) from hdep 3 rfl).resolve_left hL0
      refine OpOk.call (f := 54) (args := #[.pointer (some ⟨g, 0, none⟩)]) (w1 := W) ?_ ((count_any lot good hl30 hgood A c m g l hlen hne hld hfit W hbk hBW.1.2.2.1 hm).mono ?_)
      · show (execOp a.eval { dst := some 11, op := Op.call { callee := .value (.func 54), args := #[(.tmp 10)], argTypes := #[94] }, type := _, pos := _, after := _, guard := none }).run Try.prog W = _
        have e54 : ∀ args w, (callFunc 54 args).run Try.prog w = .ok (.enter 54 args) w := enters_of Try.func54 (by kernel_rfl) rfl
        simp only [execOp, List.map_toArray, List.map_cons, List.map_nil, e0, d10]
        go_simp
      · rintro e w' ⟨rfl, hc⟩
        have hr := hc.mono (Y := fun k => (4 = 4 ∨ 4 = 9) ∧ w0.heap.size ≤ k ∧ ∃ es clock, W.heap[k]? = some (.map es clock)) (fun k _ hk => ⟨by decide, by rw [hk]; exact hl, by rw [hk]; exact ⟨_, _, hm⟩⟩)
        exact ⟨_, rfl, hr, rfl, hBn _ _ (by decide) (by decide) hr⟩
    | 5, hL0, hanc, _, _, hdep, hBn =>
      refine ⟨fun _ => ?_, fun h => absurd (show true = false from h) (by decide)⟩
      refine OpOk.val (v := .agg #[.int .i64 (lot : Int), .slice A l.length c]) (w' := W) ?_ ⟨Chg.refl _ _, rfl, hBn _ _ (by decide) (by decide) (Chg.refl _ _)⟩
      show (execOp a.eval { dst := some 12, op := Op.load 31 (.tmp 3), type := _, pos := _, after := _, guard := none }).run Try.prog W = _
      simp only [execOp, List.map_toArray, List.map_cons, List.map_nil, e0, f3]
      go_simp
    | 6, hL0, hanc, _, _, hdep, hBn =>
      refine ⟨fun _ => ?_, fun h => absurd (show true = false from h) (by decide)⟩
      refine OpOk.val (v := .pointer (some ⟨B2, 1, none⟩)) (w' := W) ?_ ⟨Chg.refl _ _, rfl, hBn _ _ (by decide) (by decide) (Chg.refl _ _)⟩
      show (execOp a.eval { dst := some 13, op := Op.fieldAddr 68 (.tmp 2) 1, type := _, pos := _, after := _, guard := none }).run Try.prog W = _
      simp only [execOp, List.map_toArray, List.map_cons, List.map_nil, e0, f2]
      go_simp
    | 7, hL0, hanc, _, _, hdep, hBn =>
      refine ⟨fun _ => ?_, fun h => absurd (show true = false from h) (by decide)⟩
      have d13 : a.tmps.getD 13 undef = .pointer (some ⟨B2, 1, none⟩) := hdep 6 rfl
      refine OpOk.val (v := .int .i64 (bad : Int)) (w' := W) ?_ ⟨Chg.refl _ _, rfl, hBn _ _ (by decide) (by decide) (Chg.refl _ _)⟩
      show (execOp a.eval { dst := some 14, op := Op.load 3 (.tmp 13), type := _, pos := _, after := _, guard := none }).run Try.prog W = _
      simp only [execOp, List.map_toArray, List.map_cons, List.map_nil, e0, d13]
      go_simp
    | 8, hL0, hanc, _, _, hdep, hBn =>
      refine ⟨fun _ => ?_, fun h => absurd (show true = false from h) (by decide)⟩
      have d12 : a.tmps.getD 12 undef = .agg #[.int .i64 (lot : Int), .slice A l.length c] := hdep 5 rfl
      have d14 : a.tmps.getD 14 undef = .int .i64 (bad : Int) := hdep 7 rfl
      refine OpOk.call (f := 53) (args := #[.agg #[.int .i64 (lot : Int), .slice A l.length c], .int .i64 (bad : Int)]) (w1 := W) ?_ ((on_any (lot : Int) A l.length c (bad : Int) W).mono ?_)
      · show (execOp a.eval { dst := some 15, op := Op.call { callee := .value (.func 53), args := #[(.tmp 12), (.tmp 14)], argTypes := #[31, 3] }, type := _, pos := _, after := _, guard := none }).run Try.prog W = _
        have e53 : ∀ args w, (callFunc 53 args).run Try.prog w = .ok (.enter 53 args) w := enters_of Try.func53 (by kernel_rfl) rfl
        simp only [execOp, List.map_toArray, List.map_cons, List.map_nil, e0, d12, d14]
        go_simp
      · rintro e w' ⟨g, m, rfl, hbk, hm, hl1, hl2, hb⟩
        exact ⟨_, rfl, Chg.below hb _, .inr ⟨g, m, rfl, Nat.le_trans hBW.1.2.2.2.size hl2, hbk, hm⟩, hBn _ _ (by decide) (by decide) (Chg.below hb _)⟩
    | 9, hL0, hanc, _, _, hdep, hBn =>
      refine ⟨fun _ => ?_, fun h => absurd (show true = false from h) (by decide)⟩
      obtain ⟨g, m, d15, hl, hbk, hm⟩ := (show L 9 ∨ ∃ g m : Nat, a.tmps.getD 15 undef = .pointer (some ⟨g, 0, none⟩) ∧ w0.heap.size ≤ m ∧ Blk W g (work (lot : Int) A l.length c (bad : Int) m) 108 ∧ W.heap[m]? = some (.map #[] 0) from hdep 8 rfl).resolve_left hL0
      refine OpOk.call (f := 54) (args := #[.pointer (some ⟨g, 0, none⟩)]) (w1 := W) ?_ ((count_any lot bad hl30 hbad A c m g l hlen hne hld hfit W hbk hBW.1.2.2.1 hm).mono ?_)
      · show (execOp a.eval { dst := some 16, op := Op.call { callee := .value (.func 54), args := #[(.tmp 15)], argTypes := #[94] }, type := _, pos := _, after := _, guard := none }).run Try.prog W = _
        have e54 : ∀ args w, (callFunc 54 args).run Try.prog w = .ok (.enter 54 args) w := enters_of Try.func54 (by kernel_rfl) rfl
        simp only [execOp, List.map_toArray, List.map_cons, List.map_nil, e0, d15]
        go_simp
      · rintro e w' ⟨rfl, hc⟩
        have hr := hc.mono (Y := fun k => (9 = 4 ∨ 9 = 9) ∧ w0.heap.size ≤ k ∧ ∃ es clock, W.heap[k]? = some (.map es clock)) (fun k _ hk => ⟨by decide, by rw [hk]; exact hl, by rw [hk]; exact ⟨_, _, hm⟩⟩)
        exact ⟨_, rfl, hr, rfl, hBn _ _ (by decide) (by decide) hr⟩
    | 10, hL0, hanc, _, _, hdep, hBn =>
      refine ⟨fun _ => ?_, fun h => absurd (show true = false from h) (by decide)⟩
      have hal : Below W.heap.size W (W.alloc (.cells #[.int .i64 0, .int .i64 0, .int .i64 0] 84)) := (Below.refl _ _).alloc (Nat.le_refl _) _
      refine OpOk.val (v := .pointer (some ⟨W.heap.size, 0, none⟩)) (w' := W.alloc (.cells #[.int .i64 0, .int .i64 0, .int .i64 0] 84)) ?_ ⟨Chg.below hal _, ⟨_, rfl, hBW.1.2.2.2.size, Blk.new _ _ _⟩, ?_⟩
      · show (execOp a.eval { dst := some 5, op := Op.alloc 84, type := _, pos := _, after := _, guard := none }).run Try.prog W = _
        simp only [execOp]
        go_simp
      · exact hB10 hal
    | 11, hL0, hanc, _, _, hdep, hBn =>
      refine ⟨fun _ => ?_, fun h => absurd (show true = false from h) (by decide)⟩
      have hal : Below W.heap.size W (W.alloc (.cells #[.int .i64 0, .int .i64 0, .int .i64 0] 84)) := (Below.refl _ _).alloc (Nat.le_refl _) _
      refine OpOk.val (v := .pointer (some ⟨W.heap.size, 0, none⟩)) (w' := W.alloc (.cells #[.int .i64 0, .int .i64 0, .int .i64 0] 84)) ?_ ⟨Chg.below hal _, ⟨_, rfl, hBW.1.2.2.2.size, Blk.new _ _ _⟩, ?_⟩
      · show (execOp a.eval { dst := some 6, op := Op.alloc 84, type := _, pos := _, after := _, guard := none }).run Try.prog W = _
        simp only [execOp]
        go_simp
      · exact hB11 hal
    | kk + 12, _, _, h, _, _, _ => exact absurd h (by omega)
  case hlast =>
    intro a W e1 e2 hfix hBW hall
    obtain ⟨⟨_, _, _, hbel⟩, _, _, hdif⟩ := hBW (fun _ => True) (fun _ _ => trivial)
    have hdif := hdif trivial trivial
    have f2 : a.tmps.getD 2 undef = .pointer (some ⟨B2, 0, none⟩) := (hfix 2 (fun j _ => by split <;> omega)).trans f2
    have d4 : a.tmps.getD 11 undef = (cntW lot good l 0 0).enc := hall (fun _ => True) (fun _ _ => trivial) 4 (by decide)
    have d9 : a.tmps.getD 16 undef = (cntW lot bad l 0 0).enc := hall (fun _ => True) (fun _ _ => trivial) 9 (by decide)
    obtain ⟨B5, f5, l5, b5⟩ : ∃ b : Nat, a.tmps.getD 5 undef = .pointer (some ⟨b, 0, none⟩) ∧ w0.heap.size ≤ b ∧ Blk W b #[.int .i64 0, .int .i64 0, .int .i64 0] 84 := hall (fun _ => True) (fun _ _ => trivial) 10 (by decide)
    obtain ⟨B6, f6, l6, b6⟩ : ∃ b : Nat, a.tmps.getD 6 undef = .pointer (some ⟨b, 0, none⟩) ∧ w0.heap.size ≤ b ∧ Blk W b #[.int .i64 0, .int .i64 0, .int .i64 0] 84 := hall (fun _ => True) (fun _ _ => trivial) 11 (by decide)
    have hdif : B5 ≠ B6 := by
      intro e
      refine hdif ?_
      show a.tmps.getD 5 undef = a.tmps.getD 6 undef
      rw [f5, f6, e]
    have e0 : ∀ x, a.eval (.tmp x) = a.tmps.getD x undef := fun _ => rfl
    generalize cntW lot good l 0 0 = c1 at d4 hQ
    generalize cntW lot bad l 0 0 = c2 at d9 hQ
    obtain ⟨x1, x2, x3⟩ := c1
    obtain ⟨y1, y2, y3⟩ := c2
    unfold Cnt.enc at d4 d9
    have g0 : W.cell? ⟨B5, 0, none⟩ = some (.int .i64 0) := b5.cell 0
    have g1 : W.cell? ⟨B5, 1, none⟩ = some (.int .i64 0) := b5.cell 1
    have g2 : W.cell? ⟨B5, 2, none⟩ = some (.int .i64 0) := b5.cell 2
    have z0 : W.frozen? ⟨B5, 0, none⟩ = false := b5.frozen 0
    have z1 : W.frozen? ⟨B5, 1, none⟩ = false := b5.frozen 1
    have z2 : W.frozen? ⟨B5, 2, none⟩ = false := b5.frozen 2
    obtain ⟨W1, hW1⟩ : ∃ W1, W1 = ((W.setCell ⟨B5, 0, none⟩ (.int .i64 x1)).setCell ⟨B5, 1, none⟩ (.int .i64 x2)).setCell ⟨B5, 2, none⟩ (.int .i64 x3) := ⟨_, rfl⟩
    refine OpOk.skip (w' := W1) ?_ ?_
    · show (execOp a.eval { dst := none, op := Op.store 84 (.tmp 5) (.tmp 11), type := _, pos := _, after := _, guard := none }).run Try.prog W = _
      rw [hW1]
      simp only [execOp, e0, f5, d4]
      go_simp
    have k5 : Blk W1 B5 #[.int .i64 x1, .int .i64 x2, .int .i64 x3] 84 := by rw [hW1]; exact b5.set3 _ _ _
    have k6 : Blk W1 B6 #[.int .i64 0, .int .i64 0, .int .i64 0] 84 := by rw [hW1]; exact ((b6.other (Ne.symm hdif) _).other (Ne.symm hdif) _).other (Ne.symm hdif) _
    have hbel1 : Below w0.heap.size w0 W1 := by rw [hW1]; exact below_set (below_set (below_set hbel l5) l5) l5
    have g0 : W1.cell? ⟨B6, 0, none⟩ = some (.int .i64 0) := k6.cell 0
    have g1 : W1.cell? ⟨B6, 1, none⟩ = some (.int .i64 0) := k6.cell 1
    have g2 : W1.cell? ⟨B6, 2, none⟩ = some (.int .i64 0) := k6.cell 2
    have z0 : W1.frozen? ⟨B6, 0, none⟩ = false := k6.frozen 0
    have z1 : W1.frozen? ⟨B6, 1, none⟩ = false := k6.frozen 1
    have z2 : W1.frozen? ⟨B6, 2, none⟩ = false := k6.frozen 2
    clear hW1
    refine OpOk.skip (w' := ((W1.setCell ⟨B6, 0, none⟩ (.int .i64 y1)).setCell ⟨B6, 1, none⟩ (.int .i64 y2)).setCell ⟨B6, 2, none⟩ (.int .i64 y3)) ?_ ?_
    · show (execOp a.eval { dst := none, op := Op.store 84 (.tmp 6) (.tmp 16), type := _, pos := _, after := _, guard := none }).run Try.prog W1 = _
      simp only [execOp, e0, f6, d9]
      go_simp
    · exact hQ B5 B6 _ _ e1 (e2.trans hsz) f2 f5 f6 (below_set (below_set (below_set hbel1 l6) l6) l6) (((k5.other hdif _).other hdif _).other hdif _) (k6.set3 _ _ _)

end Go.Proofs.Ytigpnafpdmdmhaa.Hand

namespace Go.Proofs.Ytigpnafpdmdmhaa.Hand
open Go.RowKit Go.Shelf

/-- Whether counts keep a demand, as the machine reckons. -/
def keptB (c1 c2 : Cnt) (al be : Int) : Bool :=
  decide (wrap64 (wrap64 (1000 - al) * c1.draws) ≤ wrap64 (c1.accepts * 1000)) && decide (wrap64 (c2.accepts * 1000) ≤ wrap64 (be * c2.draws))

theorem wanted_of {ops : Array Oper} {o : Oper} {j d : Nat} {g : Bool} {a : Act} (hg : o.guard = some (j, true)) (hd : (ops[j]?).bind (·.dst) = some d) (hv : a.tmps.getD d undef = .bool g) :
    Region.wanted o (yielded ops a.tmps) = g := by
  unfold Region.wanted yielded
  rw [hg]
  simp only
  rw [hd]
  have hv' : a.tmps[d]? = some (.bool g) := by
    rw [Array.getD_eq_getD_getElem?] at hv
    cases h : a.tmps[d]? with
    | none => rw [h] at hv; simp [undef] at hv
    | some v => rw [h] at hv; simp at hv; rw [hv]
  simp only [Option.bind_some, hv']
  cases g <;> rfl

set_option maxHeartbeats 8000000 in
set_option maxRecDepth 10000 in
theorem kept_region2 (B2 B5 B6 : Nat) (c1 c2 : Cnt) (good bad al be : Int) (a0 : Act) (w0 : World) (Q : Exit → Act → World → Prop) (hsz : a0.tmps.size = 42)
    (f2 : a0.tmps.getD 2 undef = .pointer (some ⟨B2, 0, none⟩)) (f5 : a0.tmps.getD 5 undef = .pointer (some ⟨B5, 0, none⟩)) (f6 : a0.tmps.getD 6 undef = .pointer (some ⟨B6, 0, none⟩))
    (h2 : Blk w0 B2 #[.int .i64 good, .int .i64 bad, .int .i64 al, .int .i64 be] 68) (h5 : Blk w0 B5 c1.cells 84) (h6 : Blk w0 B6 c2.cells 84)
    (hQ : ∀ (a : Act) (W : World), a.defers = a0.defers → a.tmps.size = 42 → a.tmps.getD 4 undef = .bool (keptB c1 c2 al be) → Below w0.heap.size w0 W → Q .normal a W) :
    (Code.region 2 (opsOf Try.f49 2) true).wpIn Fence.wide 0 Try.prog Q a0 w0 := by
  refine region_walk2 (rd := none) 25 (fun i => i + 17) (by kernel_rfl) (by kernel_rfl) (by rw [hsz]; kernel_rfl)
    (fun _ _ W => Blk W B2 #[.int .i64 good, .int .i64 bad, .int .i64 al, .int .i64 be] 68 ∧ Blk W B5 c1.cells 84 ∧ Blk W B6 c2.cells 84 ∧ Below w0.heap.size w0 W)
    (fun _ W W' => Below W.heap.size W W')
    (fun _ i v W => match i with
      | 0 => v = .pointer (some ⟨B5, 0, none⟩)
      | 1 => v = .int .i64 c1.accepts
      | 2 => ∃ bb : Nat, v = .slice (some ⟨bb, 0, none⟩) 2 2 ∧ Blk W bb #[.int .i64 (c1.accepts), .int .i64 (1000)] 3
      | 3 => v = .int .i64 (wrap64 (c1.accepts * 1000))
      | 4 => v = .pointer (some ⟨B2, 2, none⟩)
      | 5 => v = .int .i64 al
      | 6 => v = .int .i64 (wrap64 (1000 - al))
      | 7 => v = .pointer (some ⟨B5, 2, none⟩)
      | 8 => v = .int .i64 c1.draws
      | 9 => ∃ bb : Nat, v = .slice (some ⟨bb, 0, none⟩) 2 2 ∧ Blk W bb #[.int .i64 (wrap64 (1000 - al)), .int .i64 (c1.draws)] 3
      | 10 => v = .int .i64 (wrap64 (wrap64 (1000 - al) * c1.draws))
      | 11 => v = .bool (decide (wrap64 (wrap64 (1000 - al) * c1.draws) ≤ wrap64 (c1.accepts * 1000)))
      | 12 => v = .bool (decide (wrap64 (wrap64 (1000 - al) * c1.draws) ≤ wrap64 (c1.accepts * 1000)))
      | 13 => (decide (wrap64 (wrap64 (1000 - al) * c1.draws) ≤ wrap64 (c1.accepts * 1000)) = true → v = .pointer (some ⟨B6, 0, none⟩))
      | 14 => (decide (wrap64 (wrap64 (1000 - al) * c1.draws) ≤ wrap64 (c1.accepts * 1000)) = true → v = .int .i64 c2.accepts)
      | 15 => (decide (wrap64 (wrap64 (1000 - al) * c1.draws) ≤ wrap64 (c1.accepts * 1000)) = true → ∃ bb : Nat, v = .slice (some ⟨bb, 0, none⟩) 2 2 ∧ Blk W bb #[.int .i64 (c2.accepts), .int .i64 (1000)] 3)
      | 16 => (decide (wrap64 (wrap64 (1000 - al) * c1.draws) ≤ wrap64 (c1.accepts * 1000)) = true → v = .int .i64 (wrap64 (c2.accepts * 1000)))
      | 17 => (decide (wrap64 (wrap64 (1000 - al) * c1.draws) ≤ wrap64 (c1.accepts * 1000)) = true → v = .pointer (some ⟨B2, 3, none⟩))
      | 18 => (decide (wrap64 (wrap64 (1000 - al) * c1.draws) ≤ wrap64 (c1.accepts * 1000)) = true → v = .int .i64 be)
      | 19 => (decide (wrap64 (wrap64 (1000 - al) * c1.draws) ≤ wrap64 (c1.accepts * 1000)) = true → v = .pointer (some ⟨B6, 2, none⟩))
      | 20 => (decide (wrap64 (wrap64 (1000 - al) * c1.draws) ≤ wrap64 (c1.accepts * 1000)) = true → v = .int .i64 c2.draws)
      | 21 => (decide (wrap64 (wrap64 (1000 - al) * c1.draws) ≤ wrap64 (c1.accepts * 1000)) = true → ∃ bb : Nat, v = .slice (some ⟨bb, 0, none⟩) 2 2 ∧ Blk W bb #[.int .i64 (be), .int .i64 (c2.draws)] 3)
      | 22 => (decide (wrap64 (wrap64 (1000 - al) * c1.draws) ≤ wrap64 (c1.accepts * 1000)) = true → v = .int .i64 (wrap64 (be * c2.draws)))
      | 23 => (decide (wrap64 (wrap64 (1000 - al) * c1.draws) ≤ wrap64 (c1.accepts * 1000)) = true → v = .bool (decide (wrap64 (c2.accepts * 1000) ≤ wrap64 (be * c2.draws))))
      | _ => v = .bool (keptB c1 c2 al be))
    ?hSp ?hL (fun _ _ _ _ _ _ _ h => h) ⟨h2.drew, h5.drew, h6.drew, (Below.refl _ _).drew⟩ ?hop ?hlast
  case hSp =>
    intro L j i v W W' _ hi _ _ _ _ hb h
    have hs : ∀ x y : Int, (∃ bb : Nat, v = .slice (some ⟨bb, 0, none⟩) 2 2 ∧ Blk W bb #[.int .i64 x, .int .i64 y] 3) → (∃ bb : Nat, v = .slice (some ⟨bb, 0, none⟩) 2 2 ∧ Blk W' bb #[.int .i64 x, .int .i64 y] 3) := fun x y ⟨bb, h1, h2⟩ => ⟨bb, h1, h2.below hb h2.lt⟩
    match i, h with
    | 0, h => exact h
    | 1, h => exact h
    | 2, h => exact hs _ _ h
    | 3, h => exact h
    | 4, h => exact h
    | 5, h => exact h
    | 6, h => exact h
    | 7, h => exact h
    | 8, h => exact h
    | 9, h => exact hs _ _ h
    | 10, h => exact h
    | 11, h => exact h
    | 12, h => exact h
    | 13, h => exact h
    | 14, h => exact h
    | 15, h => exact fun hg => hs _ _ (h hg)
    | 16, h => exact h
    | 17, h => exact h
    | 18, h => exact h
    | 19, h => exact h
    | 20, h => exact h
    | 21, h => exact fun hg => hs _ _ (h hg)
    | 22, h => exact h
    | 23, h => exact h
    | _ + 24, h => exact h
  case hL =>
    intro L L' j v W _ h
    exact h
  case hop =>
    intro L i a W hi hN _ hfix hBW hnl _ _ hdep
    have f2 : a.tmps.getD 2 undef = .pointer (some ⟨B2, 0, none⟩) := (hfix 2 (fun j _ => by omega)).trans f2
    have f5 : a.tmps.getD 5 undef = .pointer (some ⟨B5, 0, none⟩) := (hfix 5 (fun j _ => by omega)).trans f5
    have f6 : a.tmps.getD 6 undef = .pointer (some ⟨B6, 0, none⟩) := (hfix 6 (fun j _ => by omega)).trans f6
    have e0 : ∀ x, a.eval (.tmp x) = a.tmps.getD x undef := fun _ => rfl
    have g0 : W.cell? ⟨B5, 0, none⟩ = some (.int .i64 c1.accepts) := hBW.2.1.cell 0
    have g1 : W.cell? ⟨B5, 2, none⟩ = some (.int .i64 c1.draws) := hBW.2.1.cell 2
    have g2 : W.cell? ⟨B6, 0, none⟩ = some (.int .i64 c2.accepts) := hBW.2.2.1.cell 0
    have g3 : W.cell? ⟨B6, 2, none⟩ = some (.int .i64 c2.draws) := hBW.2.2.1.cell 2
    have g4 : W.cell? ⟨B2, 2, none⟩ = some (.int .i64 al) := hBW.1.cell 2
    have g5 : W.cell? ⟨B2, 3, none⟩ = some (.int .i64 be) := hBW.1.cell 3
    have hBs : ∀ {W' : World}, Below W.heap.size W W' → (Blk W' B2 #[.int .i64 good, .int .i64 bad, .int .i64 al, .int .i64 be] 68 ∧ Blk W' B5 c1.cells 84 ∧ Blk W' B6 c2.cells 84 ∧ Below w0.heap.size w0 W') := fun hb => ⟨hBW.1.below hb hBW.1.lt, hBW.2.1.below hb hBW.2.1.lt, hBW.2.2.1.below hb hBW.2.2.1.lt, hBW.2.2.2.trans (hb.mono hBW.2.2.2.size)⟩
    clear hQ
    match i, hN, hi, hdep with
    | 0, _, _, hdep =>
      refine ⟨fun _ => ?_, fun h => absurd (show true = false from h) (by decide)⟩
      refine OpOk.val (v := .pointer (some ⟨B5, 0, none⟩)) (w' := W) ?_ ⟨Below.refl _ _, rfl, hBW⟩
      show (execOp a.eval { dst := some 17, op := Op.fieldAddr 84 (.tmp 5) 0, type := _, pos := _, after := _, guard := none }).run Try.prog W = _
      simp only [execOp, List.map_toArray, List.map_cons, List.map_nil, e0, f5]
      go_simp
    | 1, _, _, hdep =>
      refine ⟨fun _ => ?_, fun h => absurd (show true = false from h) (by decide)⟩
      have d17 : a.tmps.getD 17 undef = .pointer (some ⟨B5, 0, none⟩) := hdep 0 rfl
      refine OpOk.val (v := .int .i64 c1.accepts) (w' := W) ?_ ⟨Below.refl _ _, rfl, hBW⟩
      show (execOp a.eval { dst := some 18, op := Op.load 3 (.tmp 17), type := _, pos := _, after := _, guard := none }).run Try.prog W = _
      simp only [execOp, List.map_toArray, List.map_cons, List.map_nil, e0, d17]
      go_simp
    | 2, _, _, hdep =>
      refine ⟨fun _ => ?_, fun h => absurd (show true = false from h) (by decide)⟩
      have d18 : a.tmps.getD 18 undef = .int .i64 c1.accepts := hdep 1 rfl
      have hal : Below W.heap.size W (W.alloc (.cells #[.int .i64 (c1.accepts), .int .i64 (1000)] 3)) := (Below.refl _ _).alloc (Nat.le_refl _) _
      refine OpOk.val (v := .slice (some ⟨W.heap.size, 0, none⟩) 2 2) (w' := W.alloc (.cells #[.int .i64 (c1.accepts), .int .i64 (1000)] 3)) ?_ ⟨hal, ⟨W.heap.size, rfl, Blk.new _ _ _⟩, hBs hal⟩
      show (execOp a.eval { dst := some 19, op := Op.buildSlice 53 2 #[(0, (.tmp 18)), (1, (.const (.int .i64 1000)))], type := _, pos := _, after := _, guard := none }).run Try.prog W = _
      simp only [execOp, List.map_toArray, List.map_cons, List.map_nil, e0, d18]
      go_simp
    | 3, _, _, hdep =>
      refine ⟨fun _ => ?_, fun h => absurd (show true = false from h) (by decide)⟩
      obtain ⟨bb, d19, hbb⟩ : ∃ bb : Nat, a.tmps.getD 19 undef = .slice (some ⟨bb, 0, none⟩) 2 2 ∧ Blk W bb #[.int .i64 (c1.accepts), .int .i64 (1000)] 3 := hdep 2 rfl
      refine OpOk.call (f := 55) (args := #[.slice (some ⟨bb, 0, none⟩) 2 2]) (w1 := W) ?_ ((times_any bb (c1.accepts) (1000) W (hbb.cell 0) (hbb.cell 1)).mono ?_)
      · show (execOp a.eval { dst := some 20, op := Op.call { callee := .value (.func 55), args := #[(.tmp 19)], argTypes := #[53] }, type := _, pos := _, after := _, guard := none }).run Try.prog W = _
        have e55 : ∀ args w, (callFunc 55 args).run Try.prog w = .ok (.enter 55 args) w := enters_of Try.func55 (by kernel_rfl) rfl
        simp only [execOp, List.map_toArray, List.map_cons, List.map_nil, e0, d19]
        go_simp
      · rintro e w' ⟨rfl, rfl⟩
        exact ⟨_, rfl, Below.refl _ _, rfl, hBW⟩
    | 4, _, _, hdep =>
      refine ⟨fun _ => ?_, fun h => absurd (show true = false from h) (by decide)⟩
      refine OpOk.val (v := .pointer (some ⟨B2, 2, none⟩)) (w' := W) ?_ ⟨Below.refl _ _, rfl, hBW⟩
      show (execOp a.eval { dst := some 21, op := Op.fieldAddr 68 (.tmp 2) 2, type := _, pos := _, after := _, guard := none }).run Try.prog W = _
      simp only [execOp, List.map_toArray, List.map_cons, List.map_nil, e0, f2]
      go_simp
    | 5, _, _, hdep =>
      refine ⟨fun _ => ?_, fun h => absurd (show true = false from h) (by decide)⟩
      have d21 : a.tmps.getD 21 undef = .pointer (some ⟨B2, 2, none⟩) := hdep 4 rfl
      refine OpOk.val (v := .int .i64 al) (w' := W) ?_ ⟨Below.refl _ _, rfl, hBW⟩
      show (execOp a.eval { dst := some 22, op := Op.load 3 (.tmp 21), type := _, pos := _, after := _, guard := none }).run Try.prog W = _
      simp only [execOp, List.map_toArray, List.map_cons, List.map_nil, e0, d21]
      go_simp
    | 6, _, _, hdep =>
      refine ⟨fun _ => ?_, fun h => absurd (show true = false from h) (by decide)⟩
      have d22 : a.tmps.getD 22 undef = .int .i64 al := hdep 5 rfl
      refine OpOk.val (v := .int .i64 (wrap64 (1000 - al))) (w' := W) ?_ ⟨Below.refl _ _, rfl, hBW⟩
      show (execOp a.eval { dst := some 23, op := Op.binOp BinOp.sub 3 (.const (.int .i64 1000)) (.tmp 22) 3, type := _, pos := _, after := _, guard := none }).run Try.prog W = _
      simp only [execOp, List.map_toArray, List.map_cons, List.map_nil, e0, d22]
      go_simp
      all_goals (first | rfl | exact Go.IntWalk.i64_left _)
    | 7, _, _, hdep =>
      refine ⟨fun _ => ?_, fun h => absurd (show true = false from h) (by decide)⟩
      refine OpOk.val (v := .pointer (some ⟨B5, 2, none⟩)) (w' := W) ?_ ⟨Below.refl _ _, rfl, hBW⟩
      show (execOp a.eval { dst := some 24, op := Op.fieldAddr 84 (.tmp 5) 2, type := _, pos := _, after := _, guard := none }).run Try.prog W = _
      simp only [execOp, List.map_toArray, List.map_cons, List.map_nil, e0, f5]
      go_simp
    | 8, _, _, hdep =>
      refine ⟨fun _ => ?_, fun h => absurd (show true = false from h) (by decide)⟩
      have d24 : a.tmps.getD 24 undef = .pointer (some ⟨B5, 2, none⟩) := hdep 7 rfl
      refine OpOk.val (v := .int .i64 c1.draws) (w' := W) ?_ ⟨Below.refl _ _, rfl, hBW⟩
      show (execOp a.eval { dst := some 25, op := Op.load 3 (.tmp 24), type := _, pos := _, after := _, guard := none }).run Try.prog W = _
      simp only [execOp, List.map_toArray, List.map_cons, List.map_nil, e0, d24]
      go_simp
    | 9, _, _, hdep =>
      refine ⟨fun _ => ?_, fun h => absurd (show true = false from h) (by decide)⟩
      have d23 : a.tmps.getD 23 undef = .int .i64 (wrap64 (1000 - al)) := hdep 6 rfl
      have d25 : a.tmps.getD 25 undef = .int .i64 c1.draws := hdep 8 rfl
      have hal : Below W.heap.size W (W.alloc (.cells #[.int .i64 (wrap64 (1000 - al)), .int .i64 (c1.draws)] 3)) := (Below.refl _ _).alloc (Nat.le_refl _) _
      refine OpOk.val (v := .slice (some ⟨W.heap.size, 0, none⟩) 2 2) (w' := W.alloc (.cells #[.int .i64 (wrap64 (1000 - al)), .int .i64 (c1.draws)] 3)) ?_ ⟨hal, ⟨W.heap.size, rfl, Blk.new _ _ _⟩, hBs hal⟩
      show (execOp a.eval { dst := some 26, op := Op.buildSlice 53 2 #[(0, (.tmp 23)), (1, (.tmp 25))], type := _, pos := _, after := _, guard := none }).run Try.prog W = _
      simp only [execOp, List.map_toArray, List.map_cons, List.map_nil, e0, d23, d25]
      go_simp
    | 10, _, _, hdep =>
      refine ⟨fun _ => ?_, fun h => absurd (show true = false from h) (by decide)⟩
      obtain ⟨bb, d26, hbb⟩ : ∃ bb : Nat, a.tmps.getD 26 undef = .slice (some ⟨bb, 0, none⟩) 2 2 ∧ Blk W bb #[.int .i64 (wrap64 (1000 - al)), .int .i64 (c1.draws)] 3 := hdep 9 rfl
      refine OpOk.call (f := 55) (args := #[.slice (some ⟨bb, 0, none⟩) 2 2]) (w1 := W) ?_ ((times_any bb (wrap64 (1000 - al)) (c1.draws) W (hbb.cell 0) (hbb.cell 1)).mono ?_)
      · show (execOp a.eval { dst := some 27, op := Op.call { callee := .value (.func 55), args := #[(.tmp 26)], argTypes := #[53] }, type := _, pos := _, after := _, guard := none }).run Try.prog W = _
        have e55 : ∀ args w, (callFunc 55 args).run Try.prog w = .ok (.enter 55 args) w := enters_of Try.func55 (by kernel_rfl) rfl
        simp only [execOp, List.map_toArray, List.map_cons, List.map_nil, e0, d26]
        go_simp
      · rintro e w' ⟨rfl, rfl⟩
        exact ⟨_, rfl, Below.refl _ _, rfl, hBW⟩
    | 11, _, _, hdep =>
      refine ⟨fun _ => ?_, fun h => absurd (show true = false from h) (by decide)⟩
      have d20 : a.tmps.getD 20 undef = .int .i64 (wrap64 (c1.accepts * 1000)) := hdep 3 rfl
      have d27 : a.tmps.getD 27 undef = .int .i64 (wrap64 (wrap64 (1000 - al) * c1.draws)) := hdep 10 rfl
      refine OpOk.val (v := .bool (decide (wrap64 (wrap64 (1000 - al) * c1.draws) ≤ wrap64 (c1.accepts * 1000)))) (w' := W) ?_ ⟨Below.refl _ _, rfl, hBW⟩
      show (execOp a.eval { dst := some 28, op := Op.binOp BinOp.geq 3 (.tmp 20) (.tmp 27) 3, type := _, pos := _, after := _, guard := none }).run Try.prog W = _
      simp only [execOp, List.map_toArray, List.map_cons, List.map_nil, e0, d20, d27]
      go_simp
      all_goals (first | rfl | exact Go.IntWalk.i64_left _)
    | 12, _, _, hdep =>
      refine ⟨fun _ => ?_, fun h => absurd (show true = false from h) (by decide)⟩
      have d28 : a.tmps.getD 28 undef = .bool (decide (wrap64 (wrap64 (1000 - al) * c1.draws) ≤ wrap64 (c1.accepts * 1000))) := hdep 11 rfl
      refine OpOk.val (v := .bool (decide (wrap64 (wrap64 (1000 - al) * c1.draws) ≤ wrap64 (c1.accepts * 1000)))) (w' := W) ?_ ⟨Below.refl _ _, rfl, hBW⟩
      show (execOp a.eval { dst := some 29, op := Op.move (.tmp 28), type := _, pos := _, after := _, guard := none }).run Try.prog W = _
      simp only [execOp, List.map_toArray, List.map_cons, List.map_nil, e0, d28]
      go_simp
    | 13, _, _, hdep =>
      have hv29 : a.tmps.getD 29 undef = .bool (decide (wrap64 (wrap64 (1000 - al) * c1.draws) ≤ wrap64 (c1.accepts * 1000))) := hdep 12 rfl
      refine ⟨fun hw => ?_, fun hw => ⟨Below.refl _ _, fun hg => absurd ((wanted_of (j := 12) (d := 29) rfl rfl hv29).symm.trans hw) (by rw [hg]; decide), hBW⟩⟩
      have hg : decide (wrap64 (wrap64 (1000 - al) * c1.draws) ≤ wrap64 (c1.accepts * 1000)) = true := (wanted_of (j := 12) (d := 29) rfl rfl hv29).symm.trans hw
      refine OpOk.val (v := .pointer (some ⟨B6, 0, none⟩)) (w' := W) ?_ ⟨Below.refl _ _, fun _ => rfl, hBW⟩
      show (execOp a.eval { dst := some 30, op := Op.fieldAddr 84 (.tmp 6) 0, type := _, pos := _, after := _, guard := some (12, true) }).run Try.prog W = _
      simp only [execOp, List.map_toArray, List.map_cons, List.map_nil, e0, f6]
      go_simp
    | 14, _, _, hdep =>
      have hv29 : a.tmps.getD 29 undef = .bool (decide (wrap64 (wrap64 (1000 - al) * c1.draws) ≤ wrap64 (c1.accepts * 1000))) := hdep 12 rfl
      refine ⟨fun hw => ?_, fun hw => ⟨Below.refl _ _, fun hg => absurd ((wanted_of (j := 12) (d := 29) rfl rfl hv29).symm.trans hw) (by rw [hg]; decide), hBW⟩⟩
      have hg : decide (wrap64 (wrap64 (1000 - al) * c1.draws) ≤ wrap64 (c1.accepts * 1000)) = true := (wanted_of (j := 12) (d := 29) rfl rfl hv29).symm.trans hw
      have d30 : a.tmps.getD 30 undef = .pointer (some ⟨B6, 0, none⟩) := hdep 13 rfl hg
      refine OpOk.val (v := .int .i64 c2.accepts) (w' := W) ?_ ⟨Below.refl _ _, fun _ => rfl, hBW⟩
      show (execOp a.eval { dst := some 31, op := Op.load 3 (.tmp 30), type := _, pos := _, after := _, guard := some (12, true) }).run Try.prog W = _
      simp only [execOp, List.map_toArray, List.map_cons, List.map_nil, e0, d30]
      go_simp
    | 15, _, _, hdep =>
      have hv29 : a.tmps.getD 29 undef = .bool (decide (wrap64 (wrap64 (1000 - al) * c1.draws) ≤ wrap64 (c1.accepts * 1000))) := hdep 12 rfl
      refine ⟨fun hw => ?_, fun hw => ⟨Below.refl _ _, fun hg => absurd ((wanted_of (j := 12) (d := 29) rfl rfl hv29).symm.trans hw) (by rw [hg]; decide), hBW⟩⟩
      have hg : decide (wrap64 (wrap64 (1000 - al) * c1.draws) ≤ wrap64 (c1.accepts * 1000)) = true := (wanted_of (j := 12) (d := 29) rfl rfl hv29).symm.trans hw
      have d31 : a.tmps.getD 31 undef = .int .i64 c2.accepts := hdep 14 rfl hg
      have hal : Below W.heap.size W (W.alloc (.cells #[.int .i64 (c2.accepts), .int .i64 (1000)] 3)) := (Below.refl _ _).alloc (Nat.le_refl _) _
      refine OpOk.val (v := .slice (some ⟨W.heap.size, 0, none⟩) 2 2) (w' := W.alloc (.cells #[.int .i64 (c2.accepts), .int .i64 (1000)] 3)) ?_ ⟨hal, fun _ => ⟨W.heap.size, rfl, Blk.new _ _ _⟩, hBs hal⟩
      show (execOp a.eval { dst := some 32, op := Op.buildSlice 53 2 #[(0, (.tmp 31)), (1, (.const (.int .i64 1000)))], type := _, pos := _, after := _, guard := some (12, true) }).run Try.prog W = _
      simp only [execOp, List.map_toArray, List.map_cons, List.map_nil, e0, d31]
      go_simp
    | 16, _, _, hdep =>
      have hv29 : a.tmps.getD 29 undef = .bool (decide (wrap64 (wrap64 (1000 - al) * c1.draws) ≤ wrap64 (c1.accepts * 1000))) := hdep 12 rfl
      refine ⟨fun hw => ?_, fun hw => ⟨Below.refl _ _, fun hg => absurd ((wanted_of (j := 12) (d := 29) rfl rfl hv29).symm.trans hw) (by rw [hg]; decide), hBW⟩⟩
      have hg : decide (wrap64 (wrap64 (1000 - al) * c1.draws) ≤ wrap64 (c1.accepts * 1000)) = true := (wanted_of (j := 12) (d := 29) rfl rfl hv29).symm.trans hw
      obtain ⟨bb, d32, hbb⟩ : ∃ bb : Nat, a.tmps.getD 32 undef = .slice (some ⟨bb, 0, none⟩) 2 2 ∧ Blk W bb #[.int .i64 (c2.accepts), .int .i64 (1000)] 3 := hdep 15 rfl hg
      refine OpOk.call (f := 55) (args := #[.slice (some ⟨bb, 0, none⟩) 2 2]) (w1 := W) ?_ ((times_any bb (c2.accepts) (1000) W (hbb.cell 0) (hbb.cell 1)).mono ?_)
      · show (execOp a.eval { dst := some 33, op := Op.call { callee := .value (.func 55), args := #[(.tmp 32)], argTypes := #[53] }, type := _, pos := _, after := _, guard := some (12, true) }).run Try.prog W = _
        have e55 : ∀ args w, (callFunc 55 args).run Try.prog w = .ok (.enter 55 args) w := enters_of Try.func55 (by kernel_rfl) rfl
        simp only [execOp, List.map_toArray, List.map_cons, List.map_nil, e0, d32]
        go_simp
      · rintro e w' ⟨rfl, rfl⟩
        exact ⟨_, rfl, Below.refl _ _, fun _ => rfl, hBW⟩
    | 17, _, _, hdep =>
      have hv29 : a.tmps.getD 29 undef = .bool (decide (wrap64 (wrap64 (1000 - al) * c1.draws) ≤ wrap64 (c1.accepts * 1000))) := hdep 12 rfl
      refine ⟨fun hw => ?_, fun hw => ⟨Below.refl _ _, fun hg => absurd ((wanted_of (j := 12) (d := 29) rfl rfl hv29).symm.trans hw) (by rw [hg]; decide), hBW⟩⟩
      have hg : decide (wrap64 (wrap64 (1000 - al) * c1.draws) ≤ wrap64 (c1.accepts * 1000)) = true := (wanted_of (j := 12) (d := 29) rfl rfl hv29).symm.trans hw
      refine OpOk.val (v := .pointer (some ⟨B2, 3, none⟩)) (w' := W) ?_ ⟨Below.refl _ _, fun _ => rfl, hBW⟩
      show (execOp a.eval { dst := some 34, op := Op.fieldAddr 68 (.tmp 2) 3, type := _, pos := _, after := _, guard := some (12, true) }).run Try.prog W = _
      simp only [execOp, List.map_toArray, List.map_cons, List.map_nil, e0, f2]
      go_simp
    | 18, _, _, hdep =>
      have hv29 : a.tmps.getD 29 undef = .bool (decide (wrap64 (wrap64 (1000 - al) * c1.draws) ≤ wrap64 (c1.accepts * 1000))) := hdep 12 rfl
      refine ⟨fun hw => ?_, fun hw => ⟨Below.refl _ _, fun hg => absurd ((wanted_of (j := 12) (d := 29) rfl rfl hv29).symm.trans hw) (by rw [hg]; decide), hBW⟩⟩
      have hg : decide (wrap64 (wrap64 (1000 - al) * c1.draws) ≤ wrap64 (c1.accepts * 1000)) = true := (wanted_of (j := 12) (d := 29) rfl rfl hv29).symm.trans hw
      have d34 : a.tmps.getD 34 undef = .pointer (some ⟨B2, 3, none⟩) := hdep 17 rfl hg
      refine OpOk.val (v := .int .i64 be) (w' := W) ?_ ⟨Below.refl _ _, fun _ => rfl, hBW⟩
      show (execOp a.eval { dst := some 35, op := Op.load 3 (.tmp 34), type := _, pos := _, after := _, guard := some (12, true) }).run Try.prog W = _
      simp only [execOp, List.map_toArray, List.map_cons, List.map_nil, e0, d34]
      go_simp
    | 19, _, _, hdep =>
      have hv29 : a.tmps.getD 29 undef = .bool (decide (wrap64 (wrap64 (1000 - al) * c1.draws) ≤ wrap64 (c1.accepts * 1000))) := hdep 12 rfl
      refine ⟨fun hw => ?_, fun hw => ⟨Below.refl _ _, fun hg => absurd ((wanted_of (j := 12) (d := 29) rfl rfl hv29).symm.trans hw) (by rw [hg]; decide), hBW⟩⟩
      have hg : decide (wrap64 (wrap64 (1000 - al) * c1.draws) ≤ wrap64 (c1.accepts * 1000)) = true := (wanted_of (j := 12) (d := 29) rfl rfl hv29).symm.trans hw
      refine OpOk.val (v := .pointer (some ⟨B6, 2, none⟩)) (w' := W) ?_ ⟨Below.refl _ _, fun _ => rfl, hBW⟩
      show (execOp a.eval { dst := some 36, op := Op.fieldAddr 84 (.tmp 6) 2, type := _, pos := _, after := _, guard := some (12, true) }).run Try.prog W = _
      simp only [execOp, List.map_toArray, List.map_cons, List.map_nil, e0, f6]
      go_simp
    | 20, _, _, hdep =>
      have hv29 : a.tmps.getD 29 undef = .bool (decide (wrap64 (wrap64 (1000 - al) * c1.draws) ≤ wrap64 (c1.accepts * 1000))) := hdep 12 rfl
      refine ⟨fun hw => ?_, fun hw => ⟨Below.refl _ _, fun hg => absurd ((wanted_of (j := 12) (d := 29) rfl rfl hv29).symm.trans hw) (by rw [hg]; decide), hBW⟩⟩
      have hg : decide (wrap64 (wrap64 (1000 - al) * c1.draws) ≤ wrap64 (c1.accepts * 1000)) = true := (wanted_of (j := 12) (d := 29) rfl rfl hv29).symm.trans hw
      have d36 : a.tmps.getD 36 undef = .pointer (some ⟨B6, 2, none⟩) := hdep 19 rfl hg
      refine OpOk.val (v := .int .i64 c2.draws) (w' := W) ?_ ⟨Below.refl _ _, fun _ => rfl, hBW⟩
      show (execOp a.eval { dst := some 37, op := Op.load 3 (.tmp 36), type := _, pos := _, after := _, guard := some (12, true) }).run Try.prog W = _
      simp only [execOp, List.map_toArray, List.map_cons, List.map_nil, e0, d36]
      go_simp
    | 21, _, _, hdep =>
      have hv29 : a.tmps.getD 29 undef = .bool (decide (wrap64 (wrap64 (1000 - al) * c1.draws) ≤ wrap64 (c1.accepts * 1000))) := hdep 12 rfl
      refine ⟨fun hw => ?_, fun hw => ⟨Below.refl _ _, fun hg => absurd ((wanted_of (j := 12) (d := 29) rfl rfl hv29).symm.trans hw) (by rw [hg]; decide), hBW⟩⟩
      have hg : decide (wrap64 (wrap64 (1000 - al) * c1.draws) ≤ wrap64 (c1.accepts * 1000)) = true := (wanted_of (j := 12) (d := 29) rfl rfl hv29).symm.trans hw
      have d35 : a.tmps.getD 35 undef = .int .i64 be := hdep 18 rfl hg
      have d37 : a.tmps.getD 37 undef = .int .i64 c2.draws := hdep 20 rfl hg
      have hal : Below W.heap.size W (W.alloc (.cells #[.int .i64 (be), .int .i64 (c2.draws)] 3)) := (Below.refl _ _).alloc (Nat.le_refl _) _
      refine OpOk.val (v := .slice (some ⟨W.heap.size, 0, none⟩) 2 2) (w' := W.alloc (.cells #[.int .i64 (be), .int .i64 (c2.draws)] 3)) ?_ ⟨hal, fun _ => ⟨W.heap.size, rfl, Blk.new _ _ _⟩, hBs hal⟩
      show (execOp a.eval { dst := some 38, op := Op.buildSlice 53 2 #[(0, (.tmp 35)), (1, (.tmp 37))], type := _, pos := _, after := _, guard := some (12, true) }).run Try.prog W = _
      simp only [execOp, List.map_toArray, List.map_cons, List.map_nil, e0, d35, d37]
      go_simp
    | 22, _, _, hdep =>
      have hv29 : a.tmps.getD 29 undef = .bool (decide (wrap64 (wrap64 (1000 - al) * c1.draws) ≤ wrap64 (c1.accepts * 1000))) := hdep 12 rfl
      refine ⟨fun hw => ?_, fun hw => ⟨Below.refl _ _, fun hg => absurd ((wanted_of (j := 12) (d := 29) rfl rfl hv29).symm.trans hw) (by rw [hg]; decide), hBW⟩⟩
      have hg : decide (wrap64 (wrap64 (1000 - al) * c1.draws) ≤ wrap64 (c1.accepts * 1000)) = true := (wanted_of (j := 12) (d := 29) rfl rfl hv29).symm.trans hw
      obtain ⟨bb, d38, hbb⟩ : ∃ bb : Nat, a.tmps.getD 38 undef = .slice (some ⟨bb, 0, none⟩) 2 2 ∧ Blk W bb #[.int .i64 (be), .int .i64 (c2.draws)] 3 := hdep 21 rfl hg
      refine OpOk.call (f := 55) (args := #[.slice (some ⟨bb, 0, none⟩) 2 2]) (w1 := W) ?_ ((times_any bb (be) (c2.draws) W (hbb.cell 0) (hbb.cell 1)).mono ?_)
      · show (execOp a.eval { dst := some 39, op := Op.call { callee := .value (.func 55), args := #[(.tmp 38)], argTypes := #[53] }, type := _, pos := _, after := _, guard := some (12, true) }).run Try.prog W = _
        have e55 : ∀ args w, (callFunc 55 args).run Try.prog w = .ok (.enter 55 args) w := enters_of Try.func55 (by kernel_rfl) rfl
        simp only [execOp, List.map_toArray, List.map_cons, List.map_nil, e0, d38]
        go_simp
      · rintro e w' ⟨rfl, rfl⟩
        exact ⟨_, rfl, Below.refl _ _, fun _ => rfl, hBW⟩
    | 23, _, _, hdep =>
      have hv29 : a.tmps.getD 29 undef = .bool (decide (wrap64 (wrap64 (1000 - al) * c1.draws) ≤ wrap64 (c1.accepts * 1000))) := hdep 12 rfl
      refine ⟨fun hw => ?_, fun hw => ⟨Below.refl _ _, fun hg => absurd ((wanted_of (j := 12) (d := 29) rfl rfl hv29).symm.trans hw) (by rw [hg]; decide), hBW⟩⟩
      have hg : decide (wrap64 (wrap64 (1000 - al) * c1.draws) ≤ wrap64 (c1.accepts * 1000)) = true := (wanted_of (j := 12) (d := 29) rfl rfl hv29).symm.trans hw
      have d33 : a.tmps.getD 33 undef = .int .i64 (wrap64 (c2.accepts * 1000)) := hdep 16 rfl hg
      have d39 : a.tmps.getD 39 undef = .int .i64 (wrap64 (be * c2.draws)) := hdep 22 rfl hg
      refine OpOk.val (v := .bool (decide (wrap64 (c2.accepts * 1000) ≤ wrap64 (be * c2.draws)))) (w' := W) ?_ ⟨Below.refl _ _, fun _ => rfl, hBW⟩
      show (execOp a.eval { dst := some 40, op := Op.binOp BinOp.leq 3 (.tmp 33) (.tmp 39) 3, type := _, pos := _, after := _, guard := some (12, true) }).run Try.prog W = _
      simp only [execOp, List.map_toArray, List.map_cons, List.map_nil, e0, d33, d39]
      go_simp
      all_goals (first | rfl | exact Go.IntWalk.i64_left _)
    | 24, _, _, hdep =>
      refine ⟨fun _ => ?_, fun h => absurd (show true = false from h) (by decide)⟩
      have d29 : a.tmps.getD 29 undef = .bool (decide (wrap64 (wrap64 (1000 - al) * c1.draws) ≤ wrap64 (c1.accepts * 1000))) := hdep 12 rfl
      have d40 : (decide (wrap64 (wrap64 (1000 - al) * c1.draws) ≤ wrap64 (c1.accepts * 1000)) = true → a.tmps.getD 40 undef = .bool (decide (wrap64 (c2.accepts * 1000) ≤ wrap64 (be * c2.draws)))) := hdep 23 rfl
      refine OpOk.val (v := .bool (keptB c1 c2 al be)) (w' := W) ?_ ⟨Below.refl _ _, rfl, hBW⟩
      show (execOp a.eval { dst := some 41, op := Op.pick (.tmp 29) (.tmp 40) (.const (.bool false)), type := _, pos := _, after := _, guard := none }).run Try.prog W = _
      cases hgb : (decide (wrap64 (wrap64 (1000 - al) * c1.draws) ≤ wrap64 (c1.accepts * 1000))) with
      | true =>
        rw [hgb] at d29
        have d40 := d40 hgb
        have hk : keptB c1 c2 al be = decide (wrap64 (c2.accepts * 1000) ≤ wrap64 (be * c2.draws)) := by unfold keptB; rw [hgb]; rfl
        rw [hk]
        simp only [execOp, List.map_toArray, List.map_cons, List.map_nil, e0, d29, d40]
        go_simp
      | false =>
        rw [hgb] at d29
        have hk : keptB c1 c2 al be = false := by unfold keptB; rw [hgb]; rfl
        rw [hk]
        simp only [execOp, List.map_toArray, List.map_cons, List.map_nil, e0, d29]
        go_simp
    | kk + 25, h, _, _ => exact absurd h (by omega)
  case hlast =>
    intro a W e1 e2 hfix hBW hall
    have d : a.tmps.getD 41 undef = .bool (keptB c1 c2 al be) := hall (fun _ => True) (fun _ _ => trivial) 24 (by decide)
    have e0 : ∀ x, a.eval (.tmp x) = a.tmps.getD x undef := fun _ => rfl
    refine OpOk.val (v := .bool (keptB c1 c2 al be)) (w' := W) ?_ ?_
    · show (execOp a.eval { dst := some 4, op := Op.assign (.tmp 41), type := _, pos := _, after := _, guard := none }).run Try.prog W = _
      simp only [execOp, e0, d]
      go_simp
    · refine hQ _ _ e1 ?_ ?_ (hBW (fun _ => True) (fun _ _ => trivial)).2.2.2
      · show (a.tmps.setIfInBounds 4 _).size = 42
        simp [show a.tmps.size = 42 from e2.trans hsz]
      · show (a.tmps.setIfInBounds 4 _).getD 4 undef = _
        simp [show a.tmps.size = 42 from e2.trans hsz]

end Go.Proofs.Ytigpnafpdmdmhaa.Hand

namespace Go.Proofs.Ytigpnafpdmdmhaa.Hand
open Go.RowKit Go.Shelf

/-- What kept says. -/
def keptV (lot : Int) (l : List Stg) (good bad al be : Int) : Option Bool :=
  if checkPlan lot l = 0 ∧ 0 ≤ good ∧ good ≤ lot ∧ 0 ≤ bad ∧ bad ≤ lot then some (keptB (cntW lot.toNat good.toNat l 0 0) (cntW lot.toNat bad.toNat l 0 0) al be) else none

set_option maxHeartbeats 4000000 in
set_option maxRecDepth 10000 in
theorem kept_any (lot : Int) (A : Option Addr) (c : Nat) (l : List Stg) (good bad al be : Int) (r : Bool) (w : World) (hz : StAt w A l) (h : keptV lot l good bad al be = some r) :
    Calls Try.prog 49 #[.agg #[.int .i64 good, .int .i64 bad, .int .i64 al, .int .i64 be], .agg #[.int .i64 lot, .slice A l.length c]] w fun e w' => e = .returned (.bool r) ∧ Below w.heap.size w w' := by
  unfold keptV at h
  split at h
  case isFalse => cases h
  rename_i hp
  obtain ⟨p1, p2, p3, p4, p5⟩ := hp
  cases h
  have hv := checkPlan_ok p1
  obtain ⟨L, rfl⟩ : ∃ n : Nat, lot = n := ⟨lot.toNat, by have := hv.lo; omega⟩
  obtain ⟨G, rfl⟩ : ∃ n : Nat, good = n := ⟨good.toNat, by omega⟩
  obtain ⟨D, rfl⟩ : ∃ n : Nat, bad = n := ⟨bad.toNat, by omega⟩
  have hl30 := hv.hi
  have HV := Aw.mk (show L ≤ 30 ∧ G ≤ L ∧ D ≤ L by omega)
  have HVV := Aw.mk hv
  have HZ := Aw.mk hz
  simp only [Int.toNat_natCast]
  clear p1 p2 p3 p4 p5 hv hl30 hz
  obtain ⟨C1, hC1⟩ : ∃ C, C = cntW L G l 0 0 := ⟨_, rfl⟩
  obtain ⟨C2, hC2⟩ : ∃ C, C = cntW L D l 0 0 := ⟨_, rfl⟩
  rw [← hC1, ← hC2]
  obtain ⟨b, hb⟩ : ∃ b, b = keptB C1 C2 al be := ⟨_, rfl⟩
  rw [← hb]
  have HC1 := Aw.mk hC1
  have HC2 := Aw.mk hC2
  have HBQ := Aw.mk hb
  clear hC1 hC2 hb
  go_enter Try.func49, Try.ntmps49
  go_wp2_with fail
  obtain ⟨w1, hw1⟩ : ∃ w1, w1 = (w.alloc (.cells #[.int .i64 G, .int .i64 D, .int .i64 al, .int .i64 be] 68)).alloc (.cells #[.int .i64 L, .slice A l.length c] 31) := ⟨_, rfl⟩
  have hB1 : Below w.heap.size w w1 := by rw [hw1]; exact ((Below.refl _ _).alloc (Nat.le_refl _) _).alloc (by simp) _
  have h2 : Blk w1 w.heap.size #[.int .i64 G, .int .i64 D, .int .i64 al, .int .i64 be] 68 := by rw [hw1]; exact (Blk.new w _ _).alloc _
  have h3 : Blk w1 (w.heap.size + 1) #[.int .i64 L, .slice A l.length c] 31 := by
    have := Blk.new (w.alloc (.cells #[.int .i64 G, .int .i64 D, .int .i64 al, .int .i64 be] 68)) #[.int .i64 L, .slice A l.length c] 31
    rw [hw1]; simpa using this
  rw [← hw1]
  clear hw1
  refine wpIn_wide.1 (kept_region1 L G D HV.out.1 HV.out.2.1 HV.out.2.2 A c l HVV.out.len HVV.out.ne HVV.out.last HVV.out.fit w.heap.size (w.heap.size + 1) al be _ w1 _ rfl rfl rfl h2 h3 (HZ.out.below hB1) ?_)
  intro B5 B6 a W hdf hsz f2 f5 f6 hbel k5 k6
  rw [← HC1.out] at k5
  rw [← HC2.out] at k6
  have k2 := h2.below hbel h2.lt
  have hbW : Below w.heap.size w W := hB1.trans (hbel.mono hB1.size)
  have f2' : slot a 2 = .pointer (some ⟨w.heap.size, 0, none⟩) := f2
  have f5' : slot a 5 = .pointer (some ⟨B5, 0, none⟩) := f5
  have f6' : slot a 6 = .pointer (some ⟨B6, 0, none⟩) := f6
  have K2 := Aw.mk k2
  have K5 := Aw.mk k5
  have K6 := Aw.mk k6
  have KB := Aw.mk hbW
  rw [frame_lit' a 42 hsz, hdf]
  simp only [List.range, List.range.loop, List.map_cons, List.map_nil, f2', f5', f6']
  clear f2 f5 f6 f2' f5' f6' hdf hsz k2 k5 k6 hbW hbel h2 h3 hB1
  dsimp only [Exit.then]
  generalize a = a'
  go_wp2_with fail
  refine wpIn_wide.1 (kept_region2 w.heap.size B5 B6 C1 C2 G D al be _ W _ rfl rfl rfl rfl K2.out K5.out K6.out ?_)
  intro a2 W2 hdf hsz f4 hbel
  have f4' : slot a2 4 = .bool b := by rw [HBQ.out]; exact f4
  have KB2 := Aw.mk (KB.out.trans (hbel.mono KB.out.size))
  rw [frame_lit' a2 42 hsz, hdf]
  simp only [List.range, List.range.loop, List.map_cons, List.map_nil, f4']
  clear f4 f4' hdf hsz hbel
  dsimp only [Exit.then]
  generalize a2 = a3
  go_wp2_with fail
  exact bodyPost_ret (results_tmp rfl _ _ _) rfl ⟨rfl, KB2.out⟩

end Go.Proofs.Ytigpnafpdmdmhaa.Hand

namespace Go.Proofs.Ytigpnafpdmdmhaa.Hand
open Go.RowKit Go.Shelf

/-- The plans of one stage with a Take, from an Accept on. -/
def candA (t : Int) : Nat → Int → List Stg
  | 0, _ => []
  | n + 1, a => ⟨t, a, a + 1⟩ :: candA t n (a + 1)
def candT : Nat → Nat → List Stg
  | 0, _ => []
  | n + 1, t => candA t (t + 2) (-1) ++ candT n (t + 1)
/-- The first that is kept; else the last. -/
def search (f : Stg → Option Bool) : List Stg → Option Stg → Option (Option Stg)
  | [], last => some last
  | s :: l, _ => (f s).bind fun k => if k = true then some (some s) else search f l (some s)

/-- A box with the plan that was tried last. -/
def OutBox (lot : Int) (B8 : Nat) (W : World) : Option Stg → Prop
  | none => Blk W B8 #[.int .i64 0, .slice none 0 0] 31
  | some s => ∃ b : Nat, B8 < b ∧ Blk W B8 #[.int .i64 lot, .slice (some ⟨b, 0, none⟩) 1 1] 31 ∧ Blk W b #[.int .i64 s.take, .int .i64 s.accept, .int .i64 s.reject] 61

theorem OutBox.below {lot : Int} {B8 : Nat} {W W' : World} {o : Option Stg} (h : OutBox lot B8 W o) (hb : Below W.heap.size W W') : OutBox lot B8 W' o := by
  cases o with
  | none => exact Blk.below h hb h.lt
  | some s =>
    obtain ⟨b, h1, h2, h3⟩ := h
    exact ⟨b, h1, h2.below hb h2.lt, h3.below hb h3.lt⟩

/-- The value of what was found. -/
def outL : Option Stg → List Stg
  | none => []
  | some s => [s]

/-- What single leaves. -/
def SinglePost (lot : Int) (res : Option Stg) (er : Int) (w : World) (e : Ending) (w' : World) : Prop :=
  ∃ v, e = .returned (.tuple #[.agg #[.int .i64 (match res with | none => 0 | some _ => lot), v], .int .i64 er]) ∧
    (match res with | none => v = .slice none 0 0 | some s => ∃ b : Nat, v = .slice (some ⟨b, 0, none⟩) 1 1 ∧ w.heap.size ≤ b ∧ Blk w' b #[.int .i64 s.take, .int .i64 s.accept, .int .i64 s.reject] 61) ∧ Below w.heap.size w w'

theorem results33 {tmps : Array Value} {W : World} {g : Nat} {x0 x1 : Value} (hp : tmps.getD 4 undef = .pointer (some ⟨g, 0, none⟩)) (h : Blk W g #[x0, x1] 31) :
    (results Try.f33 tmps).run Try.prog W = .ok (.tuple #[.agg #[x0, x1], tmps.getD 5 undef]) W := by
  have c0 : W.cell? ⟨g, 0, none⟩ = some x0 := h.cell 0
  have c1 : W.cell? ⟨g, 1, none⟩ = some x1 := h.cell 1
  have e : Try.f33.results = #[.cell 4 31, .tmp 5] := rfl
  have hp' : tmps[4]?.getD undef = .pointer (some ⟨g, 0, none⟩) := by simpa using hp
  unfold results
  simp only [e]
  go_simp

/-- What holds between the plans that are tried. -/
structure SiSt (lot : Nat) (f : Stg → Option Bool) (cs : List Stg) (res : Option Stg) (B8 : Nat) (w W : World) : Prop where
  x : ∃ last, search f cs last = some res ∧ OutBox lot B8 W last
  b4 : Blk W (w.heap.size + 1) #[.int .i64 0, .slice none 0 0] 31
  bel : Below w.heap.size w W
  b8 : w.heap.size + 1 < B8

theorem fin33 {lot : Int} {B8 : Nat} {w W : World} {res : Option Stg} (ho : OutBox lot B8 W res) (hb : Below w.heap.size w W) (h8 : w.heap.size + 1 < B8) :
    ∃ (n : Int) (p : Option Addr) (len cap : Nat), Blk W B8 #[.int .i64 n, .slice p len cap] 31 ∧
      SinglePost lot res 0 w (.returned (.tuple #[.agg #[.int .i64 n, .slice p len cap], .int .i64 0])) ((W.setCell ⟨w.heap.size + 1, 0, none⟩ (.int .i64 n)).setCell ⟨w.heap.size + 1, 1, none⟩ (.slice p len cap)) := by
  have hb2 : ∀ x y : Value, Below w.heap.size w ((W.setCell ⟨w.heap.size + 1, 0, none⟩ x).setCell ⟨w.heap.size + 1, 1, none⟩ y) := fun x y => below_set (below_set hb (Nat.le_succ _)) (Nat.le_succ _)
  cases res with
  | none => exact ⟨_, _, _, _, ho, _, rfl, rfl, hb2 _ _⟩
  | some s =>
    obtain ⟨b, h1, h2, h3⟩ := ho
    have hne : b ≠ w.heap.size + 1 := by omega
    exact ⟨_, _, _, _, h2, _, rfl, ⟨b, rfl, by omega, (h3.other hne _).other hne _⟩, hb2 _ _⟩

theorem OutBox.cells {lot : Int} {B8 : Nat} {W : World} {o : Option Stg} (h : OutBox lot B8 W o) : ∃ x y, Blk W B8 #[x, y] 31 := by
  cases o with
  | none => exact ⟨_, _, h⟩
  | some s => obtain ⟨b, _, h2, _⟩ := h; exact ⟨_, _, h2⟩

set_option maxHeartbeats 4000000 in
set_option maxRecDepth 10000 in
theorem single_any (lot : Nat) (hl : lot ≤ 30) (good bad al be : Int) (res : Option Stg) (w : World)
    (hask : ∀ W, Calls Try.prog 50 #[.agg #[.int .i64 good, .int .i64 bad, .int .i64 al, .int .i64 be], .int .i64 lot, .int .i64 30] W fun e w' => e = .returned (.int .i64 0) ∧ Below W.heap.size W w')
    (h : search (fun s => keptV lot [s] good bad al be) (candT lot 1) none = some res) :
    Calls Try.prog 33 #[.int .i64 lot, .agg #[.int .i64 good, .int .i64 bad, .int .i64 al, .int .i64 be]] w (SinglePost lot res 0 w) := by
  have HA := Aw.mk hask
  have H := Aw.mk h
  clear hask h
  go_enter Try.func33, Try.ntmps33
  go_wp2_with fail
  go_step3
  obtain ⟨w1, hw1⟩ : ∃ w1, w1 = (w.alloc (.cells #[.int .i64 good, .int .i64 bad, .int .i64 al, .int .i64 be] 68)).alloc (.cells #[.int .i64 0, .slice none 0 0] 31) := ⟨_, rfl⟩
  have hB1 : Below w.heap.size w w1 := by rw [hw1]; exact ((Below.refl _ _).alloc (Nat.le_refl _) _).alloc (by simp) _
  have h3 : Blk w1 w.heap.size #[.int .i64 good, .int .i64 bad, .int .i64 al, .int .i64 be] 68 := by rw [hw1]; exact (Blk.new w _ _).alloc _
  have h4 : Blk w1 (w.heap.size + 1) #[.int .i64 0, .slice none 0 0] 31 := by
    have := Blk.new (w.alloc (.cells #[.int .i64 good, .int .i64 bad, .int .i64 al, .int .i64 be] 68)) #[.int .i64 0, .slice none 0 0] 31
    rw [hw1]; simpa using this
  rw [← hw1]
  have b0 : w1.cell? ⟨w.heap.size, 0, none⟩ = some (.int .i64 good) := h3.cell 0
  have b1 : w1.cell? ⟨w.heap.size, 1, none⟩ = some (.int .i64 bad) := h3.cell 1
  have b2 : w1.cell? ⟨w.heap.size, 2, none⟩ = some (.int .i64 al) := h3.cell 2
  have b3 : w1.cell? ⟨w.heap.size, 3, none⟩ = some (.int .i64 be) := h3.cell 3
  have HB1 := Aw.mk hB1
  have H3 := Aw.mk h3
  have H4 := Aw.mk h4
  clear hw1 hB1 h3 h4
  go_wp2_with fail
  refine (HA.out w1).mono ?_
  intro e V hp
  obtain ⟨rfl, hb⟩ := hp
  have H3V := Aw.mk (H3.out.below hb H3.out.lt)
  have H4V := Aw.mk (H4.out.below hb H4.out.lt)
  have HBV := Aw.mk (HB1.out.trans (hb.mono HB1.out.size))
  have b0 : V.cell? ⟨w.heap.size, 0, none⟩ = some (.int .i64 good) := H3V.out.cell 0
  have b1 : V.cell? ⟨w.heap.size, 1, none⟩ = some (.int .i64 bad) := H3V.out.cell 1
  have b2 : V.cell? ⟨w.heap.size, 2, none⟩ = some (.int .i64 al) := H3V.out.cell 2
  have b3 : V.cell? ⟨w.heap.size, 3, none⟩ = some (.int .i64 be) := H3V.out.cell 3
  clear hb
  go_wp2_with fail
  go_step3
  obtain ⟨w2, hw2⟩ : ∃ w2, w2 = V.alloc (.cells #[.int .i64 0, .slice none 0 0] 31) := ⟨_, rfl⟩
  obtain ⟨B8, hB8⟩ : ∃ B8, B8 = V.heap.size := ⟨_, rfl⟩
  rw [← hw2, ← hB8]
  have HSI := Aw.mk (show SiSt lot (fun s => keptV lot [s] good bad al be) (candT lot 1) res B8 w w2 from ⟨⟨none, H.out, by rw [hw2, hB8]; exact Blk.new _ _ _⟩, by rw [hw2]; exact H4V.out.alloc _, by rw [hw2]; exact HBV.out.alloc HBV.out.size _, by rw [hB8]; exact H4V.out.lt⟩)
  obtain ⟨f, hf⟩ : ∃ f : Stg → Option Bool, f = fun s => keptV lot [s] good bad al be := ⟨_, rfl⟩
  rw [← hf] at HSI
  have HFF := Aw.mk hf
  clear hf hw2 hB8 b0 b1 b2 b3
  go_wp2_with fail
  go_loopg [9] (lot + 1) (fun gg s9 wr => ∃ t m : Nat, 1 ≤ t ∧ t + m = lot + 1 ∧ m ≤ gg ∧ s9 = .int .i64 (t : Int) ∧ Aw (SiSt lot f (candT m t) res B8 w wr))
  case atStart => exact ⟨1, lot, Nat.le_refl _, by omega, by omega, rfl, HSI⟩
  case round =>
    obtain ⟨t, m, ht1, htm, hgg, rfl, HS⟩ := hrel
    clear HSI
    rcases Nat.eq_zero_or_pos m with rfl | hm0
    · -- no more
      have c0 : decide ((t : Int) ≤ (lot : Int)) = false := decide_eq_false (by omega)
      have c0' : decide (t ≤ lot) = false := decide_eq_false (by omega)
      obtain ⟨⟨last, e1, e2⟩, b4, bel, b8⟩ := HS.out
      have e3 : last = res := by simpa [candT, search] using e1
      subst e3
      obtain ⟨n, p, len, cap, k8, hpost⟩ := fin33 e2 bel b8
      have q0 : wr.cell? ⟨B8, 0, none⟩ = some (.int .i64 n) := k8.cell 0
      have q1 : wr.cell? ⟨B8, 1, none⟩ = some (.slice p len cap) := k8.cell 1
      have q2 : wr.cell? ⟨w.heap.size + 1, 0, none⟩ = some (.int .i64 0) := b4.cell 0
      have q3 : wr.cell? ⟨w.heap.size + 1, 1, none⟩ = some (.slice none 0 0) := b4.cell 1
      have z0 : wr.frozen? ⟨w.heap.size + 1, 0, none⟩ = false := b4.frozen 0
      have z1 : wr.frozen? ⟨w.heap.size + 1, 1, none⟩ = false := b4.frozen 1
      have HP := Aw.mk hpost
      have H4W := Aw.mk b4
      clear hpost b4 bel b8 e1 e2 k8 htm hgg
      go_wp2_with fail
      rw [Exit.noGoto_ret]
      exact bodyPost_ret (results33 rfl ((H4W.out.set 0 _).set 1 _)) rfl HP.out
    · obtain ⟨m', rfl⟩ : ∃ m', m = m' + 1 := ⟨m - 1, by omega⟩
      have c0 : decide ((t : Int) ≤ (lot : Int)) = true := decide_eq_true (by omega)
      have c0' : decide (t ≤ lot) = true := decide_eq_true (by omega)
      have c1 : IntKind.i64.wrap ((t : Int) + 1) = (t : Int) + 1 := IntWalk.i64_in _ (by omega)
      go_wp2_with fail
      go_loopg [10] (t + 3) (fun gg s10 wr => ∃ (a : Int) (n : Nat), -1 ≤ a ∧ a + n = (t : Int) + 1 ∧ n ≤ gg ∧ s10 = .int .i64 a ∧ Aw (SiSt lot f (candA t n a ++ candT m' (t + 1)) res B8 w wr))
      case atStart => exact ⟨-1, t + 2, by omega, by omega, by omega, rfl, HS⟩
      case round =>
        obtain ⟨a, n, ha1, han, hgn, rfl, HS'⟩ := hrel
        clear HS
        rcases Nat.eq_zero_or_pos n with rfl | hn0
        · have c2 : decide (a ≤ (t : Int)) = false := decide_eq_false (by omega)
          go_wp2_with fail
          go_roundg m'
          case measure => omega
          case rel => exact ⟨t + 1, m', by omega, by omega, Nat.le_refl _, by go_num, ⟨by simpa [candA] using HS'.out⟩⟩
        · obtain ⟨n', rfl⟩ : ∃ n', n = n' + 1 := ⟨n - 1, by omega⟩
          have c2 : decide (a ≤ (t : Int)) = true := decide_eq_true (by omega)
          have c3 : IntKind.i64.wrap (a + 1) = a + 1 := IntWalk.i64_in _ (by omega)
          obtain ⟨⟨last, e1, e2⟩, b4, bel, b8⟩ := HS'.out
          obtain ⟨x8, y8, k8⟩ := e2.cells
          have hlt8 := k8.lt
          have q0 : wr.cell? ⟨B8, 0, none⟩ = some x8 := k8.cell 0
          have q1 : wr.cell? ⟨B8, 1, none⟩ = some y8 := k8.cell 1
          have z0 : wr.frozen? ⟨B8, 0, none⟩ = false := k8.frozen 0
          have z1 : wr.frozen? ⟨B8, 1, none⟩ = false := k8.frozen 1
          have HK8 := Aw.mk k8
          have H4W := Aw.mk b4
          have HBL := Aw.mk bel
          have H8 := Aw.mk b8
          have E1 := Aw.mk e1
          have hk : ∃ k, keptV lot [⟨t, a, a + 1⟩] good bad al be = some k ∧ ((k = true ∧ res = some ⟨t, a, a + 1⟩) ∨ (k = false ∧ search f (candA t n' (a + 1) ++ candT m' (t + 1)) (some ⟨t, a, a + 1⟩) = some res)) := by
            rw [candA, List.cons_append, search] at e1
            cases hfs : f ⟨t, a, a + 1⟩ with
            | none => rw [hfs] at e1; cases e1
            | some k =>
              rw [hfs] at e1
              refine ⟨k, by rw [← hfs, HFF.out], ?_⟩
              cases k with
              | true => exact .inl ⟨rfl, (Option.some.inj (by simpa using e1)).symm⟩
              | false => exact .inr ⟨rfl, by simpa using e1⟩
          obtain ⟨k, hkk, hkc⟩ := hk
          have HKK := Aw.mk hkk
          have HKC := Aw.mk hkc
          clear e1 e2 b4 bel b8 k8 hkk hkc
          go_wp2_with fail
          obtain ⟨w3, hw3⟩ : ∃ w3, w3 = (((wr.setCell ⟨B8, 0, none⟩ (.int .i64 lot)).setCell ⟨B8, 1, none⟩ (.slice (some ⟨wr.heap.size, 0, none⟩) 1 1)).alloc (.cells #[.int .i64 t, .int .i64 a, .int .i64 (a + 1)] 61)) := ⟨_, rfl⟩
          rw [← hw3]
          have hne4 : w.heap.size + 1 ≠ B8 := by have := H8.out; omega
          have k4 : Blk w3 (w.heap.size + 1) #[.int .i64 0, .slice none 0 0] 31 := by rw [hw3]; exact ((H4W.out.other hne4 _).other hne4 _).alloc _
          have k8 : Blk w3 B8 #[.int .i64 lot, .slice (some ⟨wr.heap.size, 0, none⟩) 1 1] 31 := by rw [hw3]; exact ((HK8.out.set 0 _).set 1 _).alloc _
          have kb : Blk w3 wr.heap.size #[.int .i64 t, .int .i64 a, .int .i64 (a + 1)] 61 := by
            have := Blk.new ((wr.setCell ⟨B8, 0, none⟩ (.int .i64 lot)).setCell ⟨B8, 1, none⟩ (.slice (some ⟨wr.heap.size, 0, none⟩) 1 1)) #[.int .i64 t, .int .i64 a, .int .i64 (a + 1)] 61
            rw [hw3]
            simpa [World.setCell] using this
          have hl8 : w.heap.size ≤ B8 := by have := H8.out; omega
          have hbl : Below w.heap.size w w3 := by
            rw [hw3]
            exact (below_set (below_set HBL.out hl8) hl8).alloc (by simp [World.setCell]; exact HBL.out.size) _
          have hzz : StAt w3 (some ⟨wr.heap.size, 0, none⟩) [⟨t, a, a + 1⟩] := by
            intro i hi
            obtain rfl : i = 0 := by simp at hi; exact hi
            exact ⟨wr.heap.size, 0, rfl, kb.lt, kb.cell 0, kb.cell 1, kb.cell 2⟩
          clear hw3
          refine (kept_any lot (some ⟨wr.heap.size, 0, none⟩) 1 [⟨t, a, a + 1⟩] good bad al be k w3 hzz HKK.out).mono ?_
          intro e V1 hp
          obtain ⟨rfl, hb1⟩ := hp
          have G4 := Aw.mk (k4.below hb1 k4.lt)
          have G8 := Aw.mk (k8.below hb1 k8.lt)
          have GB := Aw.mk (kb.below hb1 kb.lt)
          have GL := Aw.mk (hbl.trans (hb1.mono hbl.size))
          clear k4 k8 kb hl8 hbl hzz hb1 hne4 q0 q1 z0 z1
          rcases HKC.out with ⟨rfl, hres⟩ | ⟨rfl, hres⟩
          · have HRS := Aw.mk hres
            clear hres
            have q0 : V1.cell? ⟨B8, 0, none⟩ = some (.int .i64 lot) := G8.out.cell 0
            have q1 : V1.cell? ⟨B8, 1, none⟩ = some (.slice (some ⟨wr.heap.size, 0, none⟩) 1 1) := G8.out.cell 1
            have q2 : V1.cell? ⟨w.heap.size + 1, 0, none⟩ = some (.int .i64 0) := G4.out.cell 0
            have q3 : V1.cell? ⟨w.heap.size + 1, 1, none⟩ = some (.slice none 0 0) := G4.out.cell 1
            have z0 : V1.frozen? ⟨w.heap.size + 1, 0, none⟩ = false := G4.out.frozen 0
            have z1 : V1.frozen? ⟨w.heap.size + 1, 1, none⟩ = false := G4.out.frozen 1
            go_wp2_with fail
            rw [Exit.noGoto_ret]
            refine bodyPost_ret (results33 rfl ((G4.out.set 0 _).set 1 _)) rfl ?_
            have hx := H8.out
            have hne : wr.heap.size ≠ w.heap.size + 1 := by omega
            rw [HRS.out]
            exact ⟨_, rfl, ⟨wr.heap.size, rfl, by omega, (GB.out.other hne _).other hne _⟩, below_set (below_set GL.out (Nat.le_succ _)) (Nat.le_succ _)⟩
          · have HRS := Aw.mk hres
            clear hres
            go_wp2_with fail
            go_roundg n'
            case measure => omega
            case rel => exact ⟨a + 1, n', by omega, by omega, Nat.le_refl _, rfl, ⟨⟨some ⟨t, a, a + 1⟩, HRS.out, wr.heap.size, hlt8, G8.out, GB.out⟩, G4.out, GL.out, H8.out⟩⟩

end Go.Proofs.Ytigpnafpdmdmhaa.Hand

namespace Go.Proofs.Ytigpnafpdmdmhaa.Hand
open Go.RowKit Go.Shelf

set_option maxHeartbeats 4000000 in
theorem single_err (lot good bad al be er : Int) (her : er ≠ 0) (w : World)
    (hask : ∀ W, Calls Try.prog 50 #[.agg #[.int .i64 good, .int .i64 bad, .int .i64 al, .int .i64 be], .int .i64 lot, .int .i64 30] W fun e w' => e = .returned (.int .i64 er) ∧ Below W.heap.size W w') :
    Calls Try.prog 33 #[.int .i64 lot, .agg #[.int .i64 good, .int .i64 bad, .int .i64 al, .int .i64 be]] w (SinglePost lot none er w) := by
  have HA := Aw.mk hask
  have n1 : (er != 0) = true := by simp [her]
  clear hask
  go_enter Try.func33, Try.ntmps33
  go_wp2_with fail
  go_step3
  obtain ⟨w1, hw1⟩ : ∃ w1, w1 = (w.alloc (.cells #[.int .i64 good, .int .i64 bad, .int .i64 al, .int .i64 be] 68)).alloc (.cells #[.int .i64 0, .slice none 0 0] 31) := ⟨_, rfl⟩
  have hB1 : Below w.heap.size w w1 := by rw [hw1]; exact ((Below.refl _ _).alloc (Nat.le_refl _) _).alloc (by simp) _
  have h3 : Blk w1 w.heap.size #[.int .i64 good, .int .i64 bad, .int .i64 al, .int .i64 be] 68 := by rw [hw1]; exact (Blk.new w _ _).alloc _
  have h4 : Blk w1 (w.heap.size + 1) #[.int .i64 0, .slice none 0 0] 31 := by
    have := Blk.new (w.alloc (.cells #[.int .i64 good, .int .i64 bad, .int .i64 al, .int .i64 be] 68)) #[.int .i64 0, .slice none 0 0] 31
    rw [hw1]; simpa using this
  rw [← hw1]
  have b0 : w1.cell? ⟨w.heap.size, 0, none⟩ = some (.int .i64 good) := h3.cell 0
  have b1 : w1.cell? ⟨w.heap.size, 1, none⟩ = some (.int .i64 bad) := h3.cell 1
  have b2 : w1.cell? ⟨w.heap.size, 2, none⟩ = some (.int .i64 al) := h3.cell 2
  have b3 : w1.cell? ⟨w.heap.size, 3, none⟩ = some (.int .i64 be) := h3.cell 3
  have HB1 := Aw.mk hB1
  have H4 := Aw.mk h4
  clear hw1 hB1 h3 h4
  go_wp2_with fail
  refine (HA.out w1).mono ?_
  intro e V hp
  obtain ⟨rfl, hb⟩ := hp
  have H4V := Aw.mk (H4.out.below hb H4.out.lt)
  have HBV := Aw.mk (HB1.out.trans (hb.mono HB1.out.size))
  have q2 : V.cell? ⟨w.heap.size + 1, 0, none⟩ = some (.int .i64 0) := H4V.out.cell 0
  have q3 : V.cell? ⟨w.heap.size + 1, 1, none⟩ = some (.slice none 0 0) := H4V.out.cell 1
  have z0 : V.frozen? ⟨w.heap.size + 1, 0, none⟩ = false := H4V.out.frozen 0
  have z1 : V.frozen? ⟨w.heap.size + 1, 1, none⟩ = false := H4V.out.frozen 1
  clear hb
  go_wp2_with fail
  rw [Exit.noGoto_ret]
  refine bodyPost_ret (results33 rfl ((H4V.out.set 0 _).set 1 _)) rfl ?_
  exact ⟨_, rfl, rfl, below_set (below_set HBV.out (Nat.le_succ _)) (Nat.le_succ _)⟩

end Go.Proofs.Ytigpnafpdmdmhaa.Hand

namespace Go.Proofs.Ytigpnafpdmdmhaa.Hand
open Go.RowKit Go.Shelf

/-- A row of bools. -/
def BoAt (w : World) (A : Option Addr) (l : List Bool) : Prop := ∀ i, ∀ hi : i < l.length, ∃ b off, A = some ⟨b, off, none⟩ ∧ b < w.heap.size ∧ w.cell? ⟨b, off + i, none⟩ = some (.bool l[i])
theorem BoAt.below {w W : World} {A : Option Addr} {l : List Bool} (h : BoAt w A l) (hb : Below w.heap.size w W) : BoAt W A l := by
  intro i hi
  obtain ⟨b, off, hA, hlt, h0⟩ := h i hi
  exact ⟨b, off, hA, Nat.lt_of_lt_of_le hlt hb.size, held_cell h0 hb⟩

/-- How many are bad. -/
def bads (l : List Bool) : Nat := l.countP (fun b => b)

/-- What results say from a stage on. -/
def playGo (rs : List Bool) : List Stg → Nat → Nat → Int → Int × Int × Int
  | [], taken, _, v => if taken < rs.length then (0, 0, 2) else (v, 0, 0)
  | s :: l, taken, bad, _ =>
    if rs.length < taken + s.take.toNat then (3, (taken : Int) + s.take - rs.length, 0)
    else if saysV s ((bad + bads ((rs.drop taken).take s.take.toNat) : Nat) : Int) = 3 then playGo rs l (taken + s.take.toNat) (bad + bads ((rs.drop taken).take s.take.toNat)) 3
    else if taken + s.take.toNat < rs.length then (0, 0, 2) else (saysV s ((bad + bads ((rs.drop taken).take s.take.toNat) : Nat) : Int), 0, 0)

/-- What results say, or the plan's error. -/
def playV (lot : Int) (l : List Stg) (rs : List Bool) : Int × Int × Int :=
  if checkPlan lot l = 0 then playGo rs l 0 0 0 else (0, 0, checkPlan lot l)

theorem results24 (tmps : Array Value) (W : World) : (results Try.f24 tmps).run Try.prog W = .ok (.tuple #[tmps.getD 4 undef, tmps.getD 5 undef, tmps.getD 6 undef]) W := by
  have e : Try.f24.results = #[.tmp 4, .tmp 5, .tmp 6] := rfl
  unfold results
  simp only [e]
  go_simp

set_option maxHeartbeats 4000000 in
set_option maxRecDepth 10000 in
theorem play_any (lot : Int) (A A1 : Option Addr) (c c1 : Nat) (l : List Stg) (rs : List Bool) (r1 r2 r3 : Int) (w : World) (hz : StAt w A l) (hbig : l.length ≤ 9223372036854775807) (hz1 : BoAt w A1 rs) (hbig1 : rs.length ≤ 9223372036854775807) (hcap : rs.length ≤ c1) (h : playV lot l rs = (r1, r2, r3)) :
    Calls Try.prog 24 #[.agg #[.int .i64 lot, .slice A l.length c], .slice A1 rs.length c1] w fun e w' => e = .returned (.tuple #[.int .u8 r1, .int .i64 r2, .int .i64 r3]) ∧ Below w.heap.size w w' := by
  have HZ := Aw.mk hz
  have HZ1 := Aw.mk hz1
  have HCH := Aw.mk (fun W (hW : Below w.heap.size w W) => chk_walk lot A c l W (hz.below hW) hbig)
  clear hz hz1
  obtain ⟨w1, hw1⟩ : ∃ w1, w1 = w.alloc (.cells #[.int .i64 lot, .slice A l.length c] 31) := ⟨_, rfl⟩
  have HB1 := Aw.mk (show Below w.heap.size w w1 from by rw [hw1]; exact (Below.refl _ _).alloc (Nat.le_refl _) _)
  have h3 : Blk w1 w.heap.size #[.int .i64 lot, .slice A l.length c] 31 := by rw [hw1]; exact Blk.new w _ _
  have p0 : w1.cell? ⟨w.heap.size, 0, none⟩ = some (.int .i64 lot) := h3.cell 0
  have p1 : w1.cell? ⟨w.heap.size, 1, none⟩ = some (.slice A l.length c) := h3.cell 1
  have HW1 := Aw.mk hw1
  have H3 := Aw.mk h3
  clear hw1 h3
  by_cases hc : checkPlan lot l = 0
  case neg =>
    obtain ⟨e, he⟩ : ∃ e, e = checkPlan lot l := ⟨_, rfl⟩
    unfold playV at h
    rw [if_neg hc] at h
    rw [← he] at h hc HCH
    cases h
    have n1 : (r3 != 0) = true := by simp [hc]
    clear hc he
    go_enter Try.func24, Try.ntmps24
    go_wp2_with fail
    go_step3
    go_wp2_with fail
    rw [← HW1.out]
    refine (HCH.out w1 HB1.out).mono ?_
    intro e' V hp
    obtain ⟨rfl, hb⟩ := hp
    have H3V := Aw.mk (H3.out.below hb H3.out.lt)
    have HBV := Aw.mk (HB1.out.trans (hb.mono HB1.out.size))
    have p2 : V.cell? ⟨w.heap.size, 0, none⟩ = some (.int .i64 lot) := H3V.out.cell 0
    have p3 : V.cell? ⟨w.heap.size, 1, none⟩ = some (.slice A l.length c) := H3V.out.cell 1
    clear hb
    go_wp2_with fail
    rw [Exit.noGoto_ret]
    exact bodyPost_ret (results24 _ _) rfl ⟨rfl, HBV.out⟩
  case pos =>
    have hv := checkPlan_ok hc
    unfold playV at h
    rw [if_pos hc] at h
    rw [hc] at HCH
    obtain ⟨lotN, rfl⟩ : ∃ n : Nat, lot = n := ⟨lot.toNat, by have := hv.lo; omega⟩
    have hl30 := hv.hi
    have hlen3 := hv.len
    have HF := Aw.mk (show fits lotN 0 l from hv.fit)
    have H := Aw.mk h
    clear hv hc h
    go_enter Try.func24, Try.ntmps24
    go_wp2_with fail
    go_step3
    go_wp2_with fail
    rw [← HW1.out]
    refine (HCH.out w1 HB1.out).mono ?_
    intro e' V hp
    obtain ⟨rfl, hb⟩ := hp
    have H3V := Aw.mk (H3.out.below hb H3.out.lt)
    have HBV := Aw.mk (HB1.out.trans (hb.mono HB1.out.size))
    have p2 : V.cell? ⟨w.heap.size, 0, none⟩ = some (.int .i64 lotN) := H3V.out.cell 0
    have p3 : V.cell? ⟨w.heap.size, 1, none⟩ = some (.slice A l.length c) := H3V.out.cell 1
    clear hb
    go_wp2_with fail
    go_step3
    go_wp2_with fail
    go_loopg [4, 8, 9, 22] (l.length + 1) (fun gg s4 s8 s9 s22 wr => ∃ (i taken bad : Nat) (v : Int), i ≤ l.length ∧ l.length + 1 - i ≤ gg ∧ taken ≤ lotN ∧ bad ≤ taken ∧ taken ≤ rs.length ∧ s4 = .int .u8 v ∧ s8 = .int .i64 taken ∧ s9 = .int .i64 bad ∧ s22 = .int .i64 i ∧
      Aw (playGo rs (l.drop i) taken bad v = (r1, r2, r3) ∧ fits lotN taken (l.drop i) ∧ Below w.heap.size w wr))
    case atStart => exact ⟨0, 0, 0, 0, by omega, by omega, by omega, by omega, by omega, rfl, rfl, rfl, rfl, ⟨H.out, HF.out, HBV.out⟩⟩
    case round =>
      obtain ⟨i, taken, bad, v, hi, hgg, ht, hbt, htr, rfl, rfl, rfl, rfl, HI⟩ := hrel
      have b1 : (taken : Int) ≤ 30 := by omega
      by_cases hil : i < l.length
      · have c0 : decide ((i : Int) < (l.length : Int)) = true := decide_eq_true (by omega)
        have c0' : decide (i < l.length) = true := decide_eq_true hil
        have hi' : (i : Int) < (l.length : Int) := by omega
        have cw1 : IntKind.i64.wrap ((i : Int) + 1) = (i : Int) + 1 := IntWalk.i64_in _ (by omega)
        have hdr := List.drop_eq_getElem_cons hil
        obtain ⟨hI1, hI2, hI3⟩ := HI.out
        obtain ⟨bA, off, rfl, hblt, g0, g1, g2⟩ := HZ.out.below hI3 i hil
        rw [hdr] at hI1 hI2
        generalize l[i] = s at hI1 hI2 g0 g1 g2
        obtain ⟨tk, ac, rj⟩ := s
        obtain ⟨f1, f2, f3⟩ := hI2
        simp only at f1 f2 f3 g0 g1 g2
        obtain ⟨k, rfl⟩ : ∃ k : Nat, tk = k := ⟨tk.toNat, by omega⟩
        simp only [Int.toNat_natCast] at f2 f3
        rw [playGo] at hI1
        simp only [Int.toNat_natCast] at hI1
        have c2 : IntKind.i64.wrap ((taken : Int) + (k : Int)) = (taken : Int) + (k : Int) := IntWalk.i64_in _ (by omega)
        have F1 := Aw.mk hI1
        have F2 := Aw.mk (show (1 : Int) ≤ k ∧ fits lotN (taken + k) (l.drop (i + 1)) from ⟨f1, f3⟩)
        have F3 := Aw.mk hI3
        clear hI1 f1 f3 hI3 hdr HI
        by_cases hshort : rs.length < taken + k
        · have c3 : decide ((rs.length : Int) < (taken : Int) + (k : Int)) = true := decide_eq_true (by omega)
          have c4 : IntKind.i64.wrap ((taken : Int) + (k : Int) - (rs.length : Int)) = (taken : Int) + (k : Int) - (rs.length : Int) := IntWalk.i64_in _ (by omega)
          have hq : (r1, r2, r3) = (3, (taken : Int) + (k : Int) - (rs.length : Int), 0) := by have := F1.out; rw [if_pos hshort] at this; exact this.symm
          cases hq
          go_wp2_with fail
          go_quiet (fail)
          all_goals
            go_wp2_with fail
            rw [Exit.noGoto_ret]
            refine bodyPost_ret (results24 _ _) rfl ⟨rfl, ?_⟩
            have hal := F3.out.alloc F3.out.size (.cells #[.int .i64 k, .int .i64 ac, .int .i64 rj] 61)
            exact ⟨hal.os, hal.tape, hal.output, hal.size, hal.block⟩
        · have c3 : decide ((rs.length : Int) < (taken : Int) + (k : Int)) = false := decide_eq_false (by omega)
          have hkpos : 1 ≤ k := by have := F2.out.1; omega
          obtain ⟨bB, offB, rfl, hbltB, gB⟩ := HZ1.out.below F3.out taken (by omega)
          clear gB
          have GB := Aw.mk (show ∀ j : Nat, j < k → ∀ W, Below wr.heap.size wr W → ∃ bv, rs[taken + j]? = some bv ∧ W.cell? ⟨bB, offB + taken + j, none⟩ = some (.bool bv) from fun j hj W hW => by
            obtain ⟨b', o', e1, e2, e3⟩ := (HZ1.out.below F3.out).below hW (taken + j) (by omega)
            cases e1
            exact ⟨_, List.getElem?_eq_getElem (by omega), by rw [Nat.add_assoc]; exact e3⟩)
          have c5 : (0 : Int) ≤ (taken : Int) := by omega
          have c6 : (taken : Int) ≤ (taken : Int) + (k : Int) := by omega
          have c7 : (taken : Int) + (k : Int) ≤ (c1 : Int) := by omega
          go_wp2_with fail
          rw [Nat.add_sub_cancel_left]
          obtain ⟨w5, hw5⟩ : ∃ w5, w5 = wr.alloc (.cells #[.int .i64 k, .int .i64 ac, .int .i64 rj] 61) := ⟨_, rfl⟩
          obtain ⟨Bt, hBt⟩ : ∃ Bt, Bt = wr.heap.size := ⟨_, rfl⟩
          rw [← hw5, ← hBt]
          have HT := Aw.mk (show Blk w5 Bt #[.int .i64 k, .int .i64 ac, .int .i64 rj] 61 from by rw [hw5, hBt]; exact Blk.new _ _ _)
          have HB5 := Aw.mk (show Below wr.heap.size wr w5 from by rw [hw5]; exact (Below.refl _ _).alloc (Nat.le_refl _) _)
          have HF5 := Aw.mk (show Below w.heap.size w w5 from F3.out.trans (HB5.out.mono F3.out.size))
          clear hw5 hBt c0 c0' c2 c3 c5 c6 c7
          go_loopg [9, 48] (k + 1) (fun gg s9 s48 wr2 => ∃ j : Nat, j ≤ k ∧ k + 1 - j ≤ gg ∧ s9 = .int .i64 ((bad + bads ((rs.drop taken).take j) : Nat) : Int) ∧ s48 = .int .i64 j ∧ Aw (wr2 = w5))
          case atStart => exact ⟨0, by omega, by omega, rfl, rfl, ⟨rfl⟩⟩
          case round =>
            obtain ⟨j, hjk, hgj, rfl, rfl, HW⟩ := hrel
            obtain rfl := HW.out
            have hbj : bads ((rs.drop taken).take j) ≤ j := by
              unfold bads
              exact Nat.le_trans List.countP_le_length (by rw [List.length_take]; omega)
            obtain ⟨bd, hbd⟩ : ∃ bd, bd = bad + bads ((rs.drop taken).take j) := ⟨_, rfl⟩
            rw [← hbd]
            by_cases hj : j < k
            · have d0 : decide ((j : Int) < (k : Int)) = true := decide_eq_true (by omega)
              have d0' : decide (j < k) = true := decide_eq_true hj
              have d1 : (j : Int) < (k : Int) := by omega
              have d2 : IntKind.i64.wrap ((j : Int) + 1) = (j : Int) + 1 := IntWalk.i64_in _ (by omega)
              have d3 : IntKind.i64.wrap ((bd : Int) + 1) = (bd : Int) + 1 := IntWalk.i64_in _ (by omega)
              obtain ⟨bv, hbv, hcell⟩ := GB.out j hj wr HB5.out
              have hstep : bads ((rs.drop taken).take (j + 1)) = bads ((rs.drop taken).take j) + (if bv = true then 1 else 0) := by
                unfold bads
                rw [List.take_add_one, List.countP_append, List.getElem?_drop, hbv]
                cases bv <;> simp
              cases bv with
              | true =>
                have HST := Aw.mk (show bad + bads ((rs.drop taken).take (j + 1)) = bd + 1 by rw [hstep, if_pos rfl]; omega)
                clear hstep hbd hbv hbj
                go_wp2_with fail
                go_roundg (k - j)
                case measure => omega
                case rel => exact ⟨j + 1, hj, by omega, by rw [HST.out]; go_num, by go_num, ⟨rfl⟩⟩
              | false =>
                have HST := Aw.mk (show bad + bads ((rs.drop taken).take (j + 1)) = bd by rw [hstep, if_neg (by decide)]; omega)
                clear hstep hbd hbv hbj
                go_wp2_with fail
                go_roundg (k - j)
                case measure => omega
                case rel => exact ⟨j + 1, hj, by omega, by rw [HST.out], by go_num, ⟨rfl⟩⟩
            · obtain rfl : j = k := by omega
              have d0 : decide ((j : Int) < (j : Int)) = false := decide_eq_false (by omega)
              have hjb : bd ≤ taken + j := by omega
              have HBD := Aw.mk hbd
              have t0 : wr.cell? ⟨Bt, 0, none⟩ = some (.int .i64 j) := HT.out.cell 0
              have t1 : wr.cell? ⟨Bt, 1, none⟩ = some (.int .i64 ac) := HT.out.cell 1
              have t2 : wr.cell? ⟨Bt, 2, none⟩ = some (.int .i64 rj) := HT.out.cell 2
              have c2 : IntKind.i64.wrap ((taken : Int) + (j : Int)) = (taken : Int) + (j : Int) := IntWalk.i64_in _ (by omega)
              clear hbd
              go_wp2_with fail
              refine (says_any ⟨(j : Int), ac, rj⟩ (bd : Int) wr).mono ?_
              intro e V2 hp
              obtain ⟨rfl, hb2⟩ := hp
              have HV2 := Aw.mk (HF5.out.trans (hb2.mono HF5.out.size))
              have hf1 := F1.out
              rw [if_neg hshort, ← HBD.out] at hf1
              have F1' := Aw.mk hf1
              obtain ⟨sv, hsv⟩ : ∃ sv, sv = saysV ⟨(j : Int), ac, rj⟩ (bd : Int) := ⟨_, rfl⟩
              rw [← hsv] at F1' ⊢
              clear hb2 hf1 F1 hsv
              by_cases h3 : sv = 3
              · subst h3
                have F1a := Aw.mk (show playGo rs (l.drop (i + 1)) (taken + j) bd 3 = (r1, r2, r3) by have := F1'.out; rw [if_pos rfl] at this; exact this)
                clear F1'
                go_wp2_with fail
                go_roundg (l.length - i)
                case measure => omega
                case rel => exact ⟨i + 1, taken + j, bd, 3, hil, by omega, f2, hjb, by omega, rfl, by go_num, rfl, by go_num, ⟨F1a.out, F2.out.2, HV2.out⟩⟩
              · have n3 : (sv != 3) = true := by simp [h3]
                have hf2 := F1'.out
                rw [if_neg h3] at hf2
                by_cases hmore : taken + j < rs.length
                · rw [if_pos hmore] at hf2
                  cases hf2
                  have m0 : decide ((taken : Int) + (j : Int) < (rs.length : Int)) = true := decide_eq_true (by omega)
                  go_wp2_with fail
                  rw [Exit.noGoto_ret]
                  exact bodyPost_ret (results24 _ _) rfl ⟨rfl, HV2.out⟩
                · rw [if_neg hmore] at hf2
                  cases hf2
                  have m0 : decide ((taken : Int) + (j : Int) < (rs.length : Int)) = false := decide_eq_false (by omega)
                  go_wp2_with fail
                  rw [Exit.noGoto_ret]
                  exact bodyPost_ret (results24 _ _) rfl ⟨rfl, HV2.out⟩
      · have c0 : decide ((i : Int) < (l.length : Int)) = false := decide_eq_false (by omega)
        have c0' : decide (i < l.length) = false := decide_eq_false hil
        obtain ⟨hI1, _, hI3⟩ := HI.out
        rw [List.drop_of_length_le (by omega), playGo] at hI1
        have F3 := Aw.mk hI3
        clear hI3 HI
        by_cases hmore : taken < rs.length
        · rw [if_pos hmore] at hI1
          cases hI1
          have m0 : decide ((taken : Int) < (rs.length : Int)) = true := decide_eq_true (by omega)
          have m0' : decide (taken < rs.length) = true := decide_eq_true hmore
          go_wp2_with fail
          rw [Exit.noGoto_ret]
          exact bodyPost_ret (results24 _ _) rfl ⟨rfl, F3.out⟩
        · rw [if_neg hmore] at hI1
          cases hI1
          have m0 : decide ((taken : Int) < (rs.length : Int)) = false := decide_eq_false (by omega)
          have m0' : decide (taken < rs.length) = false := decide_eq_false hmore
          go_wp2_with fail
          rw [Exit.noGoto_ret]
          exact bodyPost_ret (results24 _ _) rfl ⟨rfl, F3.out⟩
end Go.Proofs.Ytigpnafpdmdmhaa.Hand

namespace Go.Proofs.Ytigpnafpdmdmhaa.Hand
open Go.RowKit Go.Shelf
theorem lt_of_cell {w : World} {a : Addr} {x : Value} (h : w.cell? a = some x) : a.block < w.heap.size := block_lt_of_cell h
end Go.Proofs.Ytigpnafpdmdmhaa.Hand
