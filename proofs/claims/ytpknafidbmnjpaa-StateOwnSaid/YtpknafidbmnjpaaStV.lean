/-
  The law StateOwn: a copy is nobody else's. No condition.
-/
import Derived.Test.YtpknafidbmnjpaaStU
namespace Go.Proofs.Ytpknafidbmnjpaa
open Go.RowKit

def mkL (p : Nat) (q4 q5 : Bool) : Array Bool := #[true, decide (1 ≤ p), true, decide (2 ≤ p), q4, q5, false, false]

def BoxOut (v : Value) (L H : Nat) : Prop := ∀ O, v = .pointer (some ⟨O, 0, none⟩) → O < L ∨ H ≤ O

def OwnBox (w1 w : World) (q : Bool) (v : Value) : Prop := q = true → ∃ O, v = .pointer (some ⟨O, 0, none⟩) ∧ w1.heap.size ≤ O ∧ Blk w O #[.slice none 0 0, .slice none 0 0, .int .i64 0] 25

theorem OwnBox.below {w1 w w' : World} {q : Bool} {v : Value} (h : OwnBox w1 w q v) (hb : Below w.heap.size w w') : OwnBox w1 w' q v := fun hq => by
  obtain ⟨O, h1, h2, h3⟩ := h hq
  exact ⟨O, h1, h2, h3.below hb h3.lt⟩

theorem OwnBox.lt {w1 w : World} {q : Bool} {v : Value} (h : OwnBox w1 w q v) (hq : q = true) {O : Nat} (hO : v = .pointer (some ⟨O, 0, none⟩)) : O < w.heap.size := by
  obtain ⟨O', h1, h2, h3⟩ := h hq
  rw [hO] at h1
  injection h1 with h1
  injection h1 with h1
  injection h1 with h1
  rw [h1]
  exact h3.lt

/-- How far region 5 has come. -/
def OwnF (t : SEnt) (w1 : World) (p : Nat) (q4 q5 : Bool) (v4 v5 v16 v18 : Value) (w : World) : Prop :=
  Below w1.heap.size w1 w ∧ OwnBox w1 w q4 v4 ∧ OwnBox w1 w q5 v5 ∧ (q4 = true → q5 = true → v4 ≠ v5) ∧
    (1 ≤ p → ∃ L H uv uf, v16 = .agg #[uv, uf, .int .i64 t.asks] ∧ w1.heap.size ≤ L ∧ L ≤ H ∧ H ≤ w.heap.size ∧ CopyIn w L H uv uf t ∧ (q4 = true → BoxOut v4 L H) ∧ (q5 = true → BoxOut v5 L H) ∧
      (2 ≤ p → ∃ L2 H2 uv2 uf2, v18 = .agg #[uv2, uf2, .int .i64 t.asks] ∧ H ≤ L2 ∧ L2 ≤ H2 ∧ H2 ≤ w.heap.size ∧ CopyIn w L2 H2 uv2 uf2 t ∧ (q4 = true → BoxOut v4 L2 H2) ∧ (q5 = true → BoxOut v5 L2 H2)))

theorem OwnF.call1 {t : SEnt} {w1 w w' : World} {q4 q5 : Bool} {v4 v5 v16 v18 uv uf : Value} (h : OwnF t w1 0 q4 q5 v4 v5 v16 v18 w) (hb : Below w.heap.size w w') (hc : CopyIn w' w.heap.size w'.heap.size uv uf t) :
    OwnF t w1 1 q4 q5 v4 v5 (.agg #[uv, uf, .int .i64 t.asks]) v18 w' := by
  obtain ⟨h1, h2, h3, h4, -⟩ := h
  exact ⟨below_next h1 hb, h2.below hb, h3.below hb, h4, fun _ => ⟨w.heap.size, w'.heap.size, uv, uf, rfl, h1.size, hb.size, Nat.le_refl _, hc, fun hq O hO => .inl (h2.lt hq hO), fun hq O hO => .inl (h3.lt hq hO), fun h => by omega⟩⟩

theorem OwnF.call3 {t : SEnt} {w1 w w' : World} {q4 q5 : Bool} {v4 v5 v16 v18 uv uf : Value} (h : OwnF t w1 1 q4 q5 v4 v5 v16 v18 w) (hb : Below w.heap.size w w') (hc : CopyIn w' w.heap.size w'.heap.size uv uf t) :
    OwnF t w1 2 q4 q5 v4 v5 v16 (.agg #[uv, uf, .int .i64 t.asks]) w' := by
  obtain ⟨h1, h2, h3, h4, h5⟩ := h
  obtain ⟨L, H, uv1, uf1, e1, g1, g2, g3, g4, g5, g6, -⟩ := h5 (Nat.le_refl _)
  have hs := hb.size
  exact ⟨below_next h1 hb, h2.below hb, h3.below hb, h4, fun _ => ⟨L, H, uv1, uf1, e1, g1, g2, by omega, g4.below hb, g5, g6, fun _ => ⟨w.heap.size, w'.heap.size, uv, uf, rfl, g3, hs, Nat.le_refl _, hc, fun hq O hO => .inl (h2.lt hq hO), fun hq O hO => .inl (h3.lt hq hO)⟩⟩⟩

theorem ptr_inj {a b : Nat} (h : Value.pointer (some ⟨a, 0, none⟩) = Value.pointer (some ⟨b, 0, none⟩)) : a = b := by
  injection h with h
  injection h with h
  injection h with h

theorem OwnF.al4 {t : SEnt} {w1 w : World} {p : Nat} {q5 : Bool} {v4 v5 v16 v18 : Value} (h : OwnF t w1 p false q5 v4 v5 v16 v18 w) :
    OwnF t w1 p true q5 (.pointer (some ⟨w.heap.size, 0, none⟩)) v5 v16 v18 (w.alloc (.cells #[.slice none 0 0, .slice none 0 0, .int .i64 0] 25)) := by
  have hb := (Below.refl w.heap.size w).alloc (Nat.le_refl _) (.cells #[.slice none 0 0, .slice none 0 0, .int .i64 0] 25)
  have hs := hb.size
  obtain ⟨h1, h2, h3, h4, h5⟩ := h
  refine ⟨below_next h1 hb, fun _ => ⟨_, rfl, h1.size, Blk.new _ _ _⟩, h3.below hb, fun _ hq he => ?_, fun hp => ?_⟩
  · have := h3.lt hq he.symm
    omega
  · obtain ⟨L, H, uv1, uf1, e1, g1, g2, g3, g4, g5, g6, g7⟩ := h5 hp
    refine ⟨L, H, uv1, uf1, e1, g1, g2, by omega, g4.below hb, fun _ O hO => .inr (by rw [← ptr_inj hO]; exact g3), g6, fun hp2 => ?_⟩
    obtain ⟨L2, H2, uv2, uf2, e2, k1, k2, k3, k4, k5, k6⟩ := g7 hp2
    exact ⟨L2, H2, uv2, uf2, e2, k1, k2, by omega, k4.below hb, fun _ O hO => .inr (by rw [← ptr_inj hO]; exact k3), k6⟩

theorem OwnF.al5 {t : SEnt} {w1 w : World} {p : Nat} {q4 : Bool} {v4 v5 v16 v18 : Value} (h : OwnF t w1 p q4 false v4 v5 v16 v18 w) :
    OwnF t w1 p q4 true v4 (.pointer (some ⟨w.heap.size, 0, none⟩)) v16 v18 (w.alloc (.cells #[.slice none 0 0, .slice none 0 0, .int .i64 0] 25)) := by
  have hb := (Below.refl w.heap.size w).alloc (Nat.le_refl _) (.cells #[.slice none 0 0, .slice none 0 0, .int .i64 0] 25)
  have hs := hb.size
  obtain ⟨h1, h2, h3, h4, h5⟩ := h
  refine ⟨below_next h1 hb, h2.below hb, fun _ => ⟨_, rfl, h1.size, Blk.new _ _ _⟩, fun hq _ he => ?_, fun hp => ?_⟩
  · have := h2.lt hq he
    omega
  · obtain ⟨L, H, uv1, uf1, e1, g1, g2, g3, g4, g5, g6, g7⟩ := h5 hp
    refine ⟨L, H, uv1, uf1, e1, g1, g2, by omega, g4.below hb, g5, fun _ O hO => .inr (by rw [← ptr_inj hO]; exact g3), fun hp2 => ?_⟩
    obtain ⟨L2, H2, uv2, uf2, e2, k1, k2, k3, k4, k5, k6⟩ := g7 hp2
    exact ⟨L2, H2, uv2, uf2, e2, k1, k2, by omega, k4.below hb, k5, fun _ O hO => .inr (by rw [← ptr_inj hO]; exact k3)⟩

def OwnI (t : SEnt) (uvt uft : Value) (w1 : World) (X1 : Nat) (m : Nat) (listed : Array Bool) (a' : Act) (w : World) : Prop :=
  ∃ (p : Nat) (q4 q5 : Bool) (v4 v5 v16 v18 : Value), p ≤ 2 ∧ m = (2 - p) + (if q4 then 0 else 1) + (if q5 then 0 else 1) ∧ listed = mkL p q4 q5 ∧ a' = { tmps := #[slot a' 0, .pointer (some ⟨X1, 0, none⟩), slot a' 2, slot a' 3, v4, v5, slot a' 6, slot a' 7, slot a' 8, slot a' 9, slot a' 10, slot a' 11, slot a' 12, slot a' 13, slot a' 14, .agg #[uvt, uft, .int .i64 t.asks], v16, .agg #[uvt, uft, .int .i64 t.asks], v18, slot a' 19, slot a' 20, slot a' 21, slot a' 22, slot a' 23, slot a' 24, slot a' 25, slot a' 26, slot a' 27, slot a' 28, slot a' 29, slot a' 30, slot a' 31, slot a' 32, slot a' 33, slot a' 34, slot a' 35, slot a' 36, slot a' 37, slot a' 38, slot a' 39, slot a' 40, slot a' 41, slot a' 42, slot a' 43, slot a' 44, slot a' 45, slot a' 46, slot a' 47, slot a' 48, slot a' 49, slot a' 50, slot a' 51, slot a' 52, slot a' 53, slot a' 54, slot a' 55, slot a' 56, slot a' 57, slot a' 58, slot a' 59, slot a' 60, slot a' 61, slot a' 62, slot a' 63, slot a' 64, slot a' 65, slot a' 66, slot a' 67, slot a' 68, slot a' 69, slot a' 70, slot a' 71, slot a' 72, slot a' 73, slot a' 74, slot a' 75, slot a' 76, slot a' 77, slot a' 78, slot a' 79, slot a' 80, slot a' 81, slot a' 82, slot a' 83, slot a' 84, slot a' 85, slot a' 86, slot a' 87, slot a' 88, slot a' 89, slot a' 90, slot a' 91, slot a' 92, slot a' 93, slot a' 94, slot a' 95, slot a' 96, slot a' 97, slot a' 98, slot a' 99, slot a' 100, slot a' 101], defers := [] } ∧ OwnF t w1 p q4 q5 v4 v5 v16 v18 w

def OwnJ (L H : Nat) (uv uf : Value) (us : List (Value × Value)) (n : Nat) (w6 w' : World) (k : Nat) : Prop := k ≤ n ∧ Keeps (fun i => L ≤ i ∧ i < H) w6 w' ∧ OwnShape w' L H uv uf us


set_option maxRecDepth 100000 in
set_option maxHeartbeats 4000000 in
theorem stateOwn_any (uv uf : Value) (s : SEnt) (w : World) (hst : IsState w uv uf s) :
    Calls Try.prog 5 #[.agg #[uv, uf, .int .i64 s.asks]] w (TrueEnd w) := by
  obtain ⟨hv, hf, -⟩ := id hst
  obtain ⟨av, capv, rfl, _, _, _⟩ := hv
  obtain ⟨af, capf, rfl, _, _⟩ := hf.slice
  have hbx := Blk.new w #[.slice av s.vals.length capv, .slice af s.frames.length capf, .int .i64 s.asks] 25
  have hb := (Below.refl w.heap.size w).alloc (Nat.le_refl _) (.cells #[.slice av s.vals.length capv, .slice af s.frames.length capf, .int .i64 s.asks] 25)
  have HST := Lib.hid (hst.below hb)
  clear hst hf
  go_enter Try.func5, Try.ntmps5
  go_wp2_with fail
  generalize w.alloc (.cells #[.slice av s.vals.length capv, .slice af s.frames.length capf, .int .i64 s.asks] 25) = w0 at hbx hb HST ⊢
  refine (stateBegun_any _).mono ?_
  rintro y w1 ⟨rfl, hb1⟩
  have hbx := hbx.below hb1 hbx.lt
  have HST := Lib.hid (HST.out.below hb1)
  replace hb := below_next hb hb1
  clear hb1
  obtain ⟨x0, x1, x2⟩ := hbx.three
  go_wp2_with fail
  refine (cutState_any _ _ s w1 HST.out).mono ?_
  rintro y w2 ⟨uv1, uf1, rfl, hst1, hb2⟩
  obtain ⟨t, ht⟩ : ∃ t, s.cut = t := ⟨_, rfl⟩
  have hasks : s.asks = t.asks := by rw [← ht]; rfl
  have HTL := Lib.hid (show t.vals.length ≤ 30 ∧ t.frames.length ≤ 34 ∧ ∀ f ∈ t.frames, f.locals.length ≤ 34 ∧ f.labels.length ≤ 42 by
    rw [← ht]
    refine ⟨by show (s.vals.take 30).length ≤ 30; rw [List.length_take]; omega, by show ((s.frames.take 34).map FEnt.cut).length ≤ 34; rw [List.length_map, List.length_take]; omega, fun f hf => ?_⟩
    obtain ⟨g, hg, rfl⟩ := List.mem_map.1 (show f ∈ (s.frames.take 34).map FEnt.cut from hf)
    exact ⟨by show (g.locals.take 34).length ≤ 34; rw [List.length_take]; omega, by show (g.labels.take 42).length ≤ 42; rw [List.length_take]; omega⟩)
  rw [ht] at hst1
  have hw1 := hbx.lt
  have hbx2 := hbx.below hb2 hbx.lt
  replace hb := below_next hb hb2
  obtain ⟨hv, hf, hok⟩ := hst1.isState
  obtain ⟨av1, capv1, rfl, _, hcv1, _⟩ := hv
  obtain ⟨af1, capf1, rfl, _, hcf1⟩ := hf.slice
  unfold maxLen at hcv1
  rw [hasks] at hbx2 ⊢
  clear hb2 hf HST hok ht hbx hasks x0 x1 x2
  obtain ⟨x0, x1, x2⟩ := hbx2.three
  have z0 := hbx2.free 0
  have z1 := hbx2.free 1
  have z2 := hbx2.free 2
  have hx3 := hbx2.set3 (.slice av1 t.vals.length capv1) (.slice af1 t.frames.length capf1) (.int .i64 t.asks)
  have hkx := set3Keeps w2 w.heap.size (.slice av1 t.vals.length capv1) (.slice af1 t.frames.length capf1) (.int .i64 t.asks)
  have hst3 := hst1.keeps hkx (fun i h => by omega)
  have hb3 := hb.trans (hkx.below hb.size (fun i h => by omega))
  clear hst1 hbx2
  go_wp2_with fail
  generalize ((w2.setCell ⟨w.heap.size, 0, none⟩ (.slice av1 t.vals.length capv1)).setCell ⟨w.heap.size, 1, none⟩ (.slice af1 t.frames.length capf1)).setCell ⟨w.heap.size, 2, none⟩ (.int .i64 t.asks) = w3 at hx3 hst3 hb3 ⊢
  have HST := Lib.hid hst3.isState
  replace hb := hb3
  have HBT := Lib.hid hx3
  have hXl := hx3.lt
  clear hx3 hst3 hb3 hkx x0 x1 x2 z0 z1 z2
  refine wp_region_inv (Cells3 w.heap.size (.slice av1 t.vals.length capv1) (.slice af1 t.frames.length capf1) (.int .i64 t.asks)) [0, 2] 4 [(6, false), (7, false)] (OwnI t (.slice av1 t.vals.length capv1) (.slice af1 t.frames.length capf1) w3 w.heap.size) (by kernel_rfl) (by kernel_rfl) HBT.out.cells3 ?_ ?_ ?_ ?_
  · simp only [List.map_cons, List.map_nil]
    iterate 2 (first | (apply seg_skip rfl rfl; simp only [Act.put, List.setIfInBounds_toArray, List.set_cons_succ, List.set_cons_zero]) | (apply seg_pure rfl rfl rfl; · (rintro w' ⟨t0, t1, t2⟩; go_wp2; exact ⟨rfl, rfl, rfl⟩)))
    refine seg_nil ?_
    refine ⟨rfl, 0, false, false, _, _, _, _, by omega, by simp, rfl, rfl, (Below.refl _ _).drew, (fun h => by cases h), (fun h => by cases h), (fun h => by cases h), (fun h => by omega)⟩
  · rintro m listed a w' ⟨p, q4, q5, v4, v5, v16, v18, -, -, -, -, hf⟩
    exact (HBT.out.below hf.1 HBT.out.lt).cells3
  · rintro m listed a' wr ⟨p, q4, q5, v4, v5, v16, v18, hp, hm, hl, hfr, hf⟩
    obtain ⟨f, hff⟩ : ∃ f, f = slot a' := ⟨_, rfl⟩
    rw [← hff] at hfr
    clear hff
    subst hfr hl
    rcases (show p = 0 ∨ p = 1 ∨ p = 2 by omega) with rfl | rfl | rfl <;> cases q4 <;> cases q5
    · refine ⟨[1, 4, 5], by kernel_rfl, by simp, ?_⟩
      intro j hj
      simp only [List.mem_cons, List.not_mem_nil, or_false] at hj
      rcases hj with rfl | rfl | rfl
      · refine ⟨_, rfl, rfl, ?_⟩
        dsimp only [bare]
        go_wp2_with fail
        refine (copyState_any _ _ t wr (HST.out.below hf.1) (by have := HTL.out.1; omega) (by have := HTL.out.2.1; omega) (fun f hf => by have := HTL.out.2.2 f hf; omega)).mono ?_
        rintro y w' ⟨uv, uf, M, rfl, hb', hM1, hM2, hov, hovM, hcf⟩
        have hn := hf.call1 hb' (copyIn_of hM1 hov hcf)
        have HN := Lib.hid hn
        clear hn hov hovM hcf
        go_wp2_with fail
        exact ⟨trivial, 1, false, false, _, _, _, _, by omega, by simp at hm ⊢; omega, rfl, rfl, HN.out⟩
      · refine ⟨_, rfl, rfl, ?_⟩
        dsimp only [bare]
        have HN := Lib.hid hf.al4
        go_wp2_with fail
        exact ⟨trivial, 0, true, false, _, _, _, _, by omega, by simp at hm ⊢; omega, rfl, rfl, HN.out⟩
      · refine ⟨_, rfl, rfl, ?_⟩
        dsimp only [bare]
        have HN := Lib.hid hf.al5
        go_wp2_with fail
        exact ⟨trivial, 0, false, true, _, _, _, _, by omega, by simp at hm ⊢; omega, rfl, rfl, HN.out⟩
    · refine ⟨[1, 4], by kernel_rfl, by simp, ?_⟩
      intro j hj
      simp only [List.mem_cons, List.not_mem_nil, or_false] at hj
      rcases hj with rfl | rfl
      · refine ⟨_, rfl, rfl, ?_⟩
        dsimp only [bare]
        go_wp2_with fail
        refine (copyState_any _ _ t wr (HST.out.below hf.1) (by have := HTL.out.1; omega) (by have := HTL.out.2.1; omega) (fun f hf => by have := HTL.out.2.2 f hf; omega)).mono ?_
        rintro y w' ⟨uv, uf, M, rfl, hb', hM1, hM2, hov, hovM, hcf⟩
        have hn := hf.call1 hb' (copyIn_of hM1 hov hcf)
        have HN := Lib.hid hn
        clear hn hov hovM hcf
        go_wp2_with fail
        exact ⟨trivial, 1, false, true, _, _, _, _, by omega, by simp at hm ⊢; omega, rfl, rfl, HN.out⟩
      · refine ⟨_, rfl, rfl, ?_⟩
        dsimp only [bare]
        have HN := Lib.hid hf.al4
        go_wp2_with fail
        exact ⟨trivial, 0, true, true, _, _, _, _, by omega, by simp at hm ⊢; omega, rfl, rfl, HN.out⟩
    · refine ⟨[1, 5], by kernel_rfl, by simp, ?_⟩
      intro j hj
      simp only [List.mem_cons, List.not_mem_nil, or_false] at hj
      rcases hj with rfl | rfl
      · refine ⟨_, rfl, rfl, ?_⟩
        dsimp only [bare]
        go_wp2_with fail
        refine (copyState_any _ _ t wr (HST.out.below hf.1) (by have := HTL.out.1; omega) (by have := HTL.out.2.1; omega) (fun f hf => by have := HTL.out.2.2 f hf; omega)).mono ?_
        rintro y w' ⟨uv, uf, M, rfl, hb', hM1, hM2, hov, hovM, hcf⟩
        have hn := hf.call1 hb' (copyIn_of hM1 hov hcf)
        have HN := Lib.hid hn
        clear hn hov hovM hcf
        go_wp2_with fail
        exact ⟨trivial, 1, true, false, _, _, _, _, by omega, by simp at hm ⊢; omega, rfl, rfl, HN.out⟩
      · refine ⟨_, rfl, rfl, ?_⟩
        dsimp only [bare]
        have HN := Lib.hid hf.al5
        go_wp2_with fail
        exact ⟨trivial, 0, true, true, _, _, _, _, by omega, by simp at hm ⊢; omega, rfl, rfl, HN.out⟩
    · refine ⟨[1], by kernel_rfl, by simp, ?_⟩
      intro j hj
      simp only [List.mem_cons, List.not_mem_nil, or_false] at hj
      subst hj
      · refine ⟨_, rfl, rfl, ?_⟩
        dsimp only [bare]
        go_wp2_with fail
        refine (copyState_any _ _ t wr (HST.out.below hf.1) (by have := HTL.out.1; omega) (by have := HTL.out.2.1; omega) (fun f hf => by have := HTL.out.2.2 f hf; omega)).mono ?_
        rintro y w' ⟨uv, uf, M, rfl, hb', hM1, hM2, hov, hovM, hcf⟩
        have hn := hf.call1 hb' (copyIn_of hM1 hov hcf)
        have HN := Lib.hid hn
        clear hn hov hovM hcf
        go_wp2_with fail
        exact ⟨trivial, 1, true, true, _, _, _, _, by omega, by simp at hm ⊢; omega, rfl, rfl, HN.out⟩
    · refine ⟨[3, 4, 5], by kernel_rfl, by simp, ?_⟩
      intro j hj
      simp only [List.mem_cons, List.not_mem_nil, or_false] at hj
      rcases hj with rfl | rfl | rfl
      · refine ⟨_, rfl, rfl, ?_⟩
        dsimp only [bare]
        go_wp2_with fail
        refine (copyState_any _ _ t wr (HST.out.below hf.1) (by have := HTL.out.1; omega) (by have := HTL.out.2.1; omega) (fun f hf => by have := HTL.out.2.2 f hf; omega)).mono ?_
        rintro y w' ⟨uv, uf, M, rfl, hb', hM1, hM2, hov, hovM, hcf⟩
        have hn := hf.call3 hb' (copyIn_of hM1 hov hcf)
        have HN := Lib.hid hn
        clear hn hov hovM hcf
        go_wp2_with fail
        exact ⟨trivial, 2, false, false, _, _, _, _, by omega, by simp at hm ⊢; omega, rfl, rfl, HN.out⟩
      · refine ⟨_, rfl, rfl, ?_⟩
        dsimp only [bare]
        have HN := Lib.hid hf.al4
        go_wp2_with fail
        exact ⟨trivial, 1, true, false, _, _, _, _, by omega, by simp at hm ⊢; omega, rfl, rfl, HN.out⟩
      · refine ⟨_, rfl, rfl, ?_⟩
        dsimp only [bare]
        have HN := Lib.hid hf.al5
        go_wp2_with fail
        exact ⟨trivial, 1, false, true, _, _, _, _, by omega, by simp at hm ⊢; omega, rfl, rfl, HN.out⟩
    · refine ⟨[3, 4], by kernel_rfl, by simp, ?_⟩
      intro j hj
      simp only [List.mem_cons, List.not_mem_nil, or_false] at hj
      rcases hj with rfl | rfl
      · refine ⟨_, rfl, rfl, ?_⟩
        dsimp only [bare]
        go_wp2_with fail
        refine (copyState_any _ _ t wr (HST.out.below hf.1) (by have := HTL.out.1; omega) (by have := HTL.out.2.1; omega) (fun f hf => by have := HTL.out.2.2 f hf; omega)).mono ?_
        rintro y w' ⟨uv, uf, M, rfl, hb', hM1, hM2, hov, hovM, hcf⟩
        have hn := hf.call3 hb' (copyIn_of hM1 hov hcf)
        have HN := Lib.hid hn
        clear hn hov hovM hcf
        go_wp2_with fail
        exact ⟨trivial, 2, false, true, _, _, _, _, by omega, by simp at hm ⊢; omega, rfl, rfl, HN.out⟩
      · refine ⟨_, rfl, rfl, ?_⟩
        dsimp only [bare]
        have HN := Lib.hid hf.al4
        go_wp2_with fail
        exact ⟨trivial, 1, true, true, _, _, _, _, by omega, by simp at hm ⊢; omega, rfl, rfl, HN.out⟩
    · refine ⟨[3, 5], by kernel_rfl, by simp, ?_⟩
      intro j hj
      simp only [List.mem_cons, List.not_mem_nil, or_false] at hj
      rcases hj with rfl | rfl
      · refine ⟨_, rfl, rfl, ?_⟩
        dsimp only [bare]
        go_wp2_with fail
        refine (copyState_any _ _ t wr (HST.out.below hf.1) (by have := HTL.out.1; omega) (by have := HTL.out.2.1; omega) (fun f hf => by have := HTL.out.2.2 f hf; omega)).mono ?_
        rintro y w' ⟨uv, uf, M, rfl, hb', hM1, hM2, hov, hovM, hcf⟩
        have hn := hf.call3 hb' (copyIn_of hM1 hov hcf)
        have HN := Lib.hid hn
        clear hn hov hovM hcf
        go_wp2_with fail
        exact ⟨trivial, 2, true, false, _, _, _, _, by omega, by simp at hm ⊢; omega, rfl, rfl, HN.out⟩
      · refine ⟨_, rfl, rfl, ?_⟩
        dsimp only [bare]
        have HN := Lib.hid hf.al5
        go_wp2_with fail
        exact ⟨trivial, 1, true, true, _, _, _, _, by omega, by simp at hm ⊢; omega, rfl, rfl, HN.out⟩
    · refine ⟨[3], by kernel_rfl, by simp, ?_⟩
      intro j hj
      simp only [List.mem_cons, List.not_mem_nil, or_false] at hj
      subst hj
      · refine ⟨_, rfl, rfl, ?_⟩
        dsimp only [bare]
        go_wp2_with fail
        refine (copyState_any _ _ t wr (HST.out.below hf.1) (by have := HTL.out.1; omega) (by have := HTL.out.2.1; omega) (fun f hf => by have := HTL.out.2.2 f hf; omega)).mono ?_
        rintro y w' ⟨uv, uf, M, rfl, hb', hM1, hM2, hov, hovM, hcf⟩
        have hn := hf.call3 hb' (copyIn_of hM1 hov hcf)
        have HN := Lib.hid hn
        clear hn hov hovM hcf
        go_wp2_with fail
        exact ⟨trivial, 2, true, true, _, _, _, _, by omega, by simp at hm ⊢; omega, rfl, rfl, HN.out⟩
    · refine ⟨[4, 5], by kernel_rfl, by simp, ?_⟩
      intro j hj
      simp only [List.mem_cons, List.not_mem_nil, or_false] at hj
      rcases hj with rfl | rfl
      · refine ⟨_, rfl, rfl, ?_⟩
        dsimp only [bare]
        have HN := Lib.hid hf.al4
        go_wp2_with fail
        exact ⟨trivial, 2, true, false, _, _, _, _, by omega, by simp at hm ⊢; omega, rfl, rfl, HN.out⟩
      · refine ⟨_, rfl, rfl, ?_⟩
        dsimp only [bare]
        have HN := Lib.hid hf.al5
        go_wp2_with fail
        exact ⟨trivial, 2, false, true, _, _, _, _, by omega, by simp at hm ⊢; omega, rfl, rfl, HN.out⟩
    · refine ⟨[4], by kernel_rfl, by simp, ?_⟩
      intro j hj
      simp only [List.mem_cons, List.not_mem_nil, or_false] at hj
      subst hj
      · refine ⟨_, rfl, rfl, ?_⟩
        dsimp only [bare]
        have HN := Lib.hid hf.al4
        go_wp2_with fail
        exact ⟨trivial, 2, true, true, _, _, _, _, by omega, by simp at hm ⊢; omega, rfl, rfl, HN.out⟩
    · refine ⟨[5], by kernel_rfl, by simp, ?_⟩
      intro j hj
      simp only [List.mem_cons, List.not_mem_nil, or_false] at hj
      subst hj
      · refine ⟨_, rfl, rfl, ?_⟩
        dsimp only [bare]
        have HN := Lib.hid hf.al5
        go_wp2_with fail
        exact ⟨trivial, 2, true, true, _, _, _, _, by omega, by simp at hm ⊢; omega, rfl, rfl, HN.out⟩
    · simp at hm
  · rintro listed a' wr ⟨p, q4, q5, v4, v5, v16, v18, hp, hm, hl, hfr, hf⟩
    obtain ⟨f, hff⟩ : ∃ f, f = slot a' := ⟨_, rfl⟩
    rw [← hff] at hfr
    clear hff
    subst hfr hl
    have hm2 : p = 2 ∧ q4 = true ∧ q5 = true := by
      cases q4 <;> cases q5 <;> simp only [if_true, Bool.false_eq_true, if_false] at hm <;> first | omega | exact ⟨by omega, rfl, rfl⟩
    obtain ⟨rfl, rfl, rfl⟩ := hm2
    obtain ⟨hb1, hx4, hx5, hne, hc⟩ := hf
    obtain ⟨O4, rfl, h4a, h4b⟩ := hx4 rfl
    obtain ⟨O5, rfl, h5a, h5b⟩ := hx5 rfl
    have hne45 : O4 ≠ O5 := fun e => hne rfl rfl (by rw [e])
    obtain ⟨L, H, uv, uf, rfl, g1, g2, g3, g4, g5, g6, g7⟩ := hc (by omega)
    obtain ⟨L2, H2, uv2, uf2, rfl, k1, k2, k3, k4, k5, k6⟩ := g7 (by omega)
    have b4 := g5 rfl O4 rfl
    have b5 := g6 rfl O5 rfl
    have d4 := k5 rfl O4 rfl
    have d5 := k6 rfl O5 rfl
    clear hm hp hx4 hx5 hne hc g5 g6 g7 k5 k6
    refine ⟨by kernel_rfl, ?_⟩
    obtain ⟨hv, hf', -⟩ := g4.isState HST.out.2.2
    obtain ⟨a4, c4, rfl, _, hc4, _⟩ := hv
    obtain ⟨f4, e4, rfl, _, he4⟩ := hf'.slice
    obtain ⟨hv2, hf2, -⟩ := k4.isState HST.out.2.2
    obtain ⟨a5, c5, rfl, _, hc5, _⟩ := hv2
    obtain ⟨f5, e5, rfl, _, he5⟩ := hf2.slice
    unfold maxLen at hc4 hc5
    clear hf' hf2
    have hk1 := set3Keeps wr O4 (.slice a4 t.vals.length c4) (.slice f4 t.frames.length e4) (.int .i64 t.asks)
    have hO4 := h4b.set3 (.slice a4 t.vals.length c4) (.slice f4 t.frames.length e4) (.int .i64 t.asks)
    have hO5 := h5b.keeps hk1 (fun h => hne45 h.symm)
    have hc1 := g4.keeps hk1 (fun i h => by subst h; exact b4)
    have hc2 := k4.keeps hk1 (fun i h => by subst h; exact d4)
    have hbr := hb1.trans (hk1.below hb1.size (fun i h => by omega))
    obtain ⟨x0, x1, x2⟩ := h4b.three
    have z0 := h4b.free 0
    have z1 := h4b.free 1
    have z2 := h4b.free 2
    refine seg_loud rfl rfl ?_
    have HC1 := Lib.hid hc1
    have HC2 := Lib.hid hc2
    have HO5 := Lib.hid hO5
    have HO4 := Lib.hid hO4
    clear g4 k4 h4b h5b hc1 hc2 hO4 hO5
    go_wp2_with fail
    refine ⟨(HBT.out.below hbr HBT.out.lt).cells3, ?_⟩
    clear x0 x1 x2 z0 z1 z2 hb1
    generalize ((wr.setCell ⟨O4, 0, none⟩ (.slice a4 t.vals.length c4)).setCell ⟨O4, 1, none⟩ (.slice f4 t.frames.length e4)).setCell ⟨O4, 2, none⟩ (.int .i64 t.asks) = w5 at hk1 HC1 HC2 HO4 HO5 hbr ⊢
    have hk2 := set3Keeps w5 O5 (.slice a5 t.vals.length c5) (.slice f5 t.frames.length e5) (.int .i64 t.asks)
    have hO5 := HO5.out.set3 (.slice a5 t.vals.length c5) (.slice f5 t.frames.length e5) (.int .i64 t.asks)
    have hO4 := HO4.out.keeps hk2 (fun h => hne45 h)
    have hc1 := HC1.out.keeps hk2 (fun i h => by subst h; exact b5)
    have hc2 := HC2.out.keeps hk2 (fun i h => by subst h; exact d5)
    have hbr2 := hbr.trans (hk2.below hbr.size (fun i h => by omega))
    obtain ⟨x0, x1, x2⟩ := HO5.out.three
    have z0 := HO5.out.free 0
    have z1 := HO5.out.free 1
    have z2 := HO5.out.free 2
    refine seg_loud rfl rfl ?_
    clear HC1 HC2 HO4
    have HC1 := Lib.hid hc1
    have HC2 := Lib.hid hc2
    have HB5 := Lib.hid hO5
    have HB4 := Lib.hid hO4
    clear hc1 hc2 hO4 hO5
    go_wp2_with fail
    refine ⟨(HBT.out.below hbr2 HBT.out.lt).cells3, ?_⟩
    refine seg_nil ?_
    refine NoPanic.normal ?_
    clear x0 x1 x2 z0 z1 z2 hbr HO5
    generalize ((w5.setCell ⟨O5, 0, none⟩ (.slice a5 t.vals.length c5)).setCell ⟨O5, 1, none⟩ (.slice f5 t.frames.length e5)).setCell ⟨O5, 2, none⟩ (.int .i64 t.asks) = w6 at hk2 HC1 HC2 HB4 HB5 hbr2 ⊢
    obtain ⟨us, hul, hsh⟩ := HC1.out.shape
    have HBT6 := Lib.hid (HBT.out.below hbr2 HBT.out.lt)
    have HB36 := Lib.hid hbr2
    have hb6 := hb.trans (hbr2.mono hb.size)
    have hs26 := hbr2.size
    clear HC1 hbr2 hk2 hk1
    obtain ⟨x0, x1, x2⟩ := HB4.out.three
    go_wp2_with fail
    clear x0 x1 x2
    refine wp_loop_r (fun a' w' => ∃ (k : Nat), a' = { tmps := #[slot a' 0, .pointer (some ⟨w.heap.size, 0, none⟩), slot a' 2, slot a' 3, .pointer (some ⟨O4, 0, none⟩), .pointer (some ⟨O5, 0, none⟩), slot a' 6, slot a' 7, slot a' 8, slot a' 9, slot a' 10, slot a' 11, slot a' 12, slot a' 13, slot a' 14, slot a' 15, slot a' 16, slot a' 17, slot a' 18, slot a' 19, slot a' 20, .int .i64 t.vals.length, .int .i64 k, slot a' 23, slot a' 24, slot a' 25, slot a' 26, slot a' 27, slot a' 28, slot a' 29, slot a' 30, slot a' 31, slot a' 32, slot a' 33, slot a' 34, slot a' 35, slot a' 36, slot a' 37, slot a' 38, slot a' 39, slot a' 40, slot a' 41, slot a' 42, slot a' 43, slot a' 44, slot a' 45, slot a' 46, slot a' 47, slot a' 48, slot a' 49, slot a' 50, slot a' 51, slot a' 52, slot a' 53, slot a' 54, slot a' 55, slot a' 56, slot a' 57, slot a' 58, slot a' 59, slot a' 60, slot a' 61, slot a' 62, slot a' 63, slot a' 64, slot a' 65, slot a' 66, slot a' 67, slot a' 68, slot a' 69, slot a' 70, slot a' 71, slot a' 72, slot a' 73, slot a' 74, slot a' 75, slot a' 76, slot a' 77, slot a' 78, slot a' 79, slot a' 80, slot a' 81, slot a' 82, slot a' 83, slot a' 84, slot a' 85, slot a' 86, slot a' 87, slot a' 88, slot a' 89, slot a' 90, slot a' 91, slot a' 92, slot a' 93, slot a' 94, slot a' 95, slot a' 96, slot a' 97, slot a' 98, slot a' 99, slot a' 100, slot a' 101], defers := [] } ∧ OwnJ L H (.slice a4 t.vals.length c4) (.slice f4 t.frames.length e4) us t.vals.length w6 w' k) (fun a' _ => (t.vals.length - (intOf (a'.tmps.getD 22 undef)).toNat)) ?_ ?_
    · exact ⟨0, rfl, by omega, Keeps.refl _ _, hsh⟩
    clear hsh
    rintro R a' wa ⟨k, hfr, hJ⟩ HR
    obtain ⟨f, hff⟩ : ∃ f, f = slot a' := ⟨_, rfl⟩
    rw [← hff] at hfr
    clear hff
    subst hfr
    obtain ⟨hk, hkk, hsh⟩ := hJ
    have hb4 := HB4.out.keeps hkk (fun h => by omega)
    obtain ⟨x0, x1, x2⟩ := hb4.three
    clear hb4
    by_cases hkl : k < t.vals.length
    · obtain ⟨g, cur, y0, y1, e1, hg, hbg, cc0, cc1⟩ := hsh.1.get hkl
      subst e1
      have zf := hbg.free (k * 2 + 1)
      have hkx := setKeeps wa g (k * 2 + 1) (.int .i64 (wrap64 (y1 + 7)))
      have HSH := Lib.hid (hsh.set hbg (by decide) (k * 2 + 1) (wrap64 (y1 + 7)))
      clear hsh hbg
      go_wp2_with fail
      refine HR.out _ _ ⟨k + 1, rfl, by omega, hkk.trans hkx (fun i h => .inl (by subst h; exact hg)), HSH.out⟩ ?_
      simp [intOf]
      omega
    obtain rfl : k = t.vals.length := by omega
    have HSH := Lib.hid hsh
    clear HR hsh
    go_wp2_with fail
    clear x0 x1 x2
    refine wp_loop_r (fun a' w' => ∃ (i : Nat), a' = { tmps := #[slot a' 0, .pointer (some ⟨w.heap.size, 0, none⟩), slot a' 2, slot a' 3, .pointer (some ⟨O4, 0, none⟩), .pointer (some ⟨O5, 0, none⟩), slot a' 6, slot a' 7, slot a' 8, slot a' 9, slot a' 10, slot a' 11, slot a' 12, slot a' 13, slot a' 14, slot a' 15, slot a' 16, slot a' 17, slot a' 18, slot a' 19, slot a' 20, slot a' 21, slot a' 22, slot a' 23, slot a' 24, slot a' 25, slot a' 26, slot a' 27, slot a' 28, slot a' 29, slot a' 30, slot a' 31, slot a' 32, slot a' 33, slot a' 34, slot a' 35, slot a' 36, .int .i64 t.frames.length, .int .i64 i, slot a' 39, slot a' 40, slot a' 41, slot a' 42, slot a' 43, slot a' 44, slot a' 45, slot a' 46, slot a' 47, slot a' 48, slot a' 49, slot a' 50, slot a' 51, slot a' 52, slot a' 53, slot a' 54, slot a' 55, slot a' 56, slot a' 57, slot a' 58, slot a' 59, slot a' 60, slot a' 61, slot a' 62, slot a' 63, slot a' 64, slot a' 65, slot a' 66, slot a' 67, slot a' 68, slot a' 69, slot a' 70, slot a' 71, slot a' 72, slot a' 73, slot a' 74, slot a' 75, slot a' 76, slot a' 77, slot a' 78, slot a' 79, slot a' 80, slot a' 81, slot a' 82, slot a' 83, slot a' 84, slot a' 85, slot a' 86, slot a' 87, slot a' 88, slot a' 89, slot a' 90, slot a' 91, slot a' 92, slot a' 93, slot a' 94, slot a' 95, slot a' 96, slot a' 97, slot a' 98, slot a' 99, slot a' 100, slot a' 101], defers := [] } ∧ OwnJ L H (.slice a4 t.vals.length c4) (.slice f4 t.frames.length e4) us t.frames.length w6 w' i) (fun a' _ => (t.frames.length - (intOf (a'.tmps.getD 38 undef)).toNat)) ?_ ?_
    · exact ⟨0, rfl, by omega, hkk, HSH.out⟩
    clear HSH hkk hkl hk
    rintro R a' wb ⟨i, hfr, hJ⟩ HR
    obtain ⟨f, hff⟩ : ∃ f, f = slot a' := ⟨_, rfl⟩
    rw [← hff] at hfr
    clear hff
    subst hfr
    obtain ⟨hi, hkb, hsh⟩ := hJ
    have hb4 := HB4.out.keeps hkb (fun h => by omega)
    obtain ⟨x0, x1, x2⟩ := hb4.three
    clear hb4
    by_cases hil : i < t.frames.length
    rotate_left
    · obtain rfl : i = t.frames.length := by omega
      have hb5 := HB5.out.keeps hkb (fun h => by omega)
      have hbt := HBT6.out.keeps hkb (fun h => by omega)
      obtain ⟨y0, y1, y2⟩ := hb5.three
      obtain ⟨v0, v1, v2⟩ := hbt.three
      have hbt3 := HB36.out.trans (hkb.below HB36.out.size (fun i h => by omega))
      have HD := Lib.hid ((HC2.out.keeps hkb (fun i h => .inl (by omega))).isState HST.out.2.2)
      have HT := Lib.hid (HST.out.below hbt3)
      have hbw := hb6.trans (hkb.below hb6.size (fun i h => by omega))
      clear hkb hsh hbt3
      go_wp2_with fail
      refine (lawEqS_any _ _ _ _ t t wb HD.out HT.out).mono ?_
      rintro y wz ⟨r, rfl, hr, hbz⟩
      obtain rfl := hr.2 rfl
      have hbq := hbw.trans (hbz.mono hbw.size)
      clear hr hbz y0 y1 y2 v0 v1 v2 x0 x1 x2
      go_wp2_with fail
      go_ret
      exact ⟨rfl, hbq⟩
    obtain ⟨⟨u1, u2⟩, hu⟩ : ∃ u, us[i]? = some u := ⟨_, List.getElem?_eq_getElem (by omega)⟩
    have HU := Lib.hid hu
    obtain ⟨g, cur, z, e1, -, hg, hbg, q1, q2, q4, hi1, hi2⟩ := hsh.2.get hu
    subst e1
    obtain ⟨au, nu, capu, rfl, hnu, hcu⟩ := hi1.slice
    obtain ⟨ax, nx, capx, rfl, hnx, hcx⟩ := hi2.slice
    have HSH := Lib.hid hsh
    have HRB := HR
    clear HR hsh hbg hi1 hi2 hu
    go_wp2_with fail
    clear x0 x1 x2 q1 q2 q4
    refine wp_loop_r (fun a' w' => ∃ (j : Nat), a' = { tmps := #[slot a' 0, .pointer (some ⟨w.heap.size, 0, none⟩), slot a' 2, slot a' 3, .pointer (some ⟨O4, 0, none⟩), .pointer (some ⟨O5, 0, none⟩), slot a' 6, .int .i64 i, slot a' 8, slot a' 9, slot a' 10, slot a' 11, slot a' 12, slot a' 13, slot a' 14, slot a' 15, slot a' 16, slot a' 17, slot a' 18, slot a' 19, slot a' 20, slot a' 21, slot a' 22, slot a' 23, slot a' 24, slot a' 25, slot a' 26, slot a' 27, slot a' 28, slot a' 29, slot a' 30, slot a' 31, slot a' 32, slot a' 33, slot a' 34, slot a' 35, slot a' 36, .int .i64 t.frames.length, .int .i64 i, slot a' 39, slot a' 40, slot a' 41, slot a' 42, slot a' 43, slot a' 44, slot a' 45, slot a' 46, .int .i64 nu, .int .i64 j, slot a' 49, slot a' 50, slot a' 51, slot a' 52, slot a' 53, slot a' 54, slot a' 55, slot a' 56, slot a' 57, slot a' 58, slot a' 59, slot a' 60, slot a' 61, slot a' 62, slot a' 63, slot a' 64, slot a' 65, slot a' 66, slot a' 67, slot a' 68, slot a' 69, slot a' 70, slot a' 71, slot a' 72, slot a' 73, slot a' 74, slot a' 75, slot a' 76, slot a' 77, slot a' 78, slot a' 79, slot a' 80, slot a' 81, slot a' 82, slot a' 83, slot a' 84, slot a' 85, slot a' 86, slot a' 87, slot a' 88, slot a' 89, slot a' 90, slot a' 91, slot a' 92, slot a' 93, slot a' 94, slot a' 95, slot a' 96, slot a' 97, slot a' 98, slot a' 99, slot a' 100, slot a' 101], defers := [] } ∧ OwnJ L H (.slice a4 t.vals.length c4) (.slice (some ⟨g, 0, none⟩) t.frames.length e4) us nu w6 w' j) (fun a' _ => (nu - (intOf (a'.tmps.getD 48 undef)).toNat)) ?_ ?_
    · exact ⟨0, rfl, by omega, hkb, HSH.out⟩
    clear hkb HSH
    rintro R a' wc ⟨j, hfr, hJ⟩ HR
    obtain ⟨f, hff⟩ : ∃ f, f = slot a' := ⟨_, rfl⟩
    rw [← hff] at hfr
    clear hff
    subst hfr
    obtain ⟨hj, hkc, hsh⟩ := hJ
    have hb4 := HB4.out.keeps hkc (fun h => by omega)
    obtain ⟨x0, x1, x2⟩ := hb4.three
    clear hb4
    obtain ⟨g', cur', z', e1, -, hg', hbg', q1, q2, q4, hi1, hi2⟩ := hsh.2.get HU.out
    obtain rfl : g = g' := by
      injection e1 with e1
      injection e1 with e1 _
    by_cases hjl : j < nu
    · obtain ⟨gg, curg, y0, y1, e2, hgg, hbgg, cc0, cc1⟩ := hi1.get hjl
      subst e2
      have zf := hbgg.free (j * 2 + 1)
      have hkx := setKeeps wc gg (j * 2 + 1) (.int .i64 (wrap64 (y1 + 7)))
      have HSH := Lib.hid (hsh.set hbgg (by decide) (j * 2 + 1) (wrap64 (y1 + 7)))
      clear hsh hbgg hbg' hi1 hi2 e1
      go_wp2_with fail
      refine HR.out _ _ ⟨j + 1, rfl, by omega, hkc.trans hkx (fun i h => .inl (by subst h; exact hgg)), HSH.out⟩ ?_
      simp [intOf]
      omega
    obtain rfl : j = nu := by omega
    have HSH := Lib.hid hsh
    clear HR hsh hbg' hi1 hi2 e1
    go_wp2_with fail
    clear x0 x1 x2 q1 q2 q4
    refine wp_loop_r (fun a' w' => ∃ (j' : Nat), a' = { tmps := #[slot a' 0, .pointer (some ⟨w.heap.size, 0, none⟩), slot a' 2, slot a' 3, .pointer (some ⟨O4, 0, none⟩), .pointer (some ⟨O5, 0, none⟩), slot a' 6, .int .i64 i, slot a' 8, slot a' 9, slot a' 10, slot a' 11, slot a' 12, slot a' 13, slot a' 14, slot a' 15, slot a' 16, slot a' 17, slot a' 18, slot a' 19, slot a' 20, slot a' 21, slot a' 22, slot a' 23, slot a' 24, slot a' 25, slot a' 26, slot a' 27, slot a' 28, slot a' 29, slot a' 30, slot a' 31, slot a' 32, slot a' 33, slot a' 34, slot a' 35, slot a' 36, .int .i64 t.frames.length, .int .i64 i, slot a' 39, slot a' 40, slot a' 41, slot a' 42, slot a' 43, slot a' 44, slot a' 45, slot a' 46, slot a' 47, slot a' 48, slot a' 49, slot a' 50, slot a' 51, slot a' 52, slot a' 53, slot a' 54, slot a' 55, slot a' 56, slot a' 57, slot a' 58, slot a' 59, slot a' 60, slot a' 61, slot a' 62, slot a' 63, slot a' 64, slot a' 65, slot a' 66, slot a' 67, slot a' 68, slot a' 69, slot a' 70, .int .i64 nx, .int .i64 j', slot a' 73, slot a' 74, slot a' 75, slot a' 76, slot a' 77, slot a' 78, slot a' 79, slot a' 80, slot a' 81, slot a' 82, slot a' 83, slot a' 84, slot a' 85, slot a' 86, slot a' 87, slot a' 88, slot a' 89, slot a' 90, slot a' 91, slot a' 92, slot a' 93, slot a' 94, slot a' 95, slot a' 96, slot a' 97, slot a' 98, slot a' 99, slot a' 100, slot a' 101], defers := [] } ∧ OwnJ L H (.slice a4 t.vals.length c4) (.slice (some ⟨g, 0, none⟩) t.frames.length e4) us nx w6 w' j') (fun a' _ => (nx - (intOf (a'.tmps.getD 72 undef)).toNat)) ?_ ?_
    · exact ⟨0, rfl, by omega, hkc, HSH.out⟩
    clear hkc HSH hjl hj
    rintro R a' wd ⟨j', hfr, hJ⟩ HR
    obtain ⟨f, hff⟩ : ∃ f, f = slot a' := ⟨_, rfl⟩
    rw [← hff] at hfr
    clear hff
    subst hfr
    obtain ⟨hj', hkd, hsh⟩ := hJ
    have hb4 := HB4.out.keeps hkd (fun h => by omega)
    obtain ⟨x0, x1, x2⟩ := hb4.three
    clear hb4
    obtain ⟨g', cur', z', e1, -, hg', hbg', q1, q2, q4, hi1, hi2⟩ := hsh.2.get HU.out
    obtain rfl : g = g' := by
      injection e1 with e1
      injection e1 with e1 _
    by_cases hjl : j' < nx
    · obtain ⟨gg, curg, y0, y1, e2, hgg, hbgg, cc0, cc1⟩ := hi2.get hjl
      subst e2
      have zf := hbgg.free (j' * 2)
      have hkx := setKeeps wd gg (j' * 2) (.int .i64 (wrap64 (y0 + 7)))
      have HSH := Lib.hid (hsh.set hbgg (by decide) (j' * 2) (wrap64 (y0 + 7)))
      clear hsh hbgg hbg' hi1 hi2 e1
      go_wp2_with fail
      refine HR.out _ _ ⟨j' + 1, rfl, by omega, hkd.trans hkx (fun i h => .inl (by subst h; exact hgg)), HSH.out⟩ ?_
      simp [intOf]
      omega
    obtain rfl : j' = nx := by omega
    have zf := hbg'.free (i * 5 + 1)
    have hkx := setKeeps wd g (i * 5 + 1) (.int .i64 (wrap64 (z' + 7)))
    have HSH := Lib.hid (hsh.setPc i (wrap64 (z' + 7)))
    clear hsh hbg' hi1 hi2 e1
    go_wp2_with fail
    refine HRB.out _ _ ⟨i + 1, rfl, by omega, hkd.trans hkx (fun i h => .inl (by subst h; exact hg')), HSH.out⟩ ?_
    simp [intOf]
    omega
end Go.Proofs.Ytpknafidbmnjpaa
