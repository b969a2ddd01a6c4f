/-
  Walks of the statements' own functions tells, begun (state).
-/
import Derived.Test.YtpknafidbmnjpaaStI
import Derived.Test.YtpknafidbmnjpaaStL
import Derived.Test.YtpknafidbmnjpaaShort
namespace Go.Proofs.Ytpknafidbmnjpaa
open Go.RowKit

def TellS (v : Value) (l : List UInt8) (X : Nat) (x0 x1 x2 : Value) (w : World) : Prop :=
  (convert 28 9 v).run Try.prog w = .ok (.string (bs l)) w ∧ w.cell? ⟨X, 0, none⟩ = some x0 ∧ w.cell? ⟨X, 1, none⟩ = some x1 ∧ w.cell? ⟨X, 2, none⟩ = some x2

set_option maxRecDepth 100000 in
set_option maxHeartbeats 4000000 in
theorem tellsS_any (v : Value) (l : List UInt8) (w : World) (hv : IsBytes w v l) (hll : l.length ≤ 400000) : Calls Try.prog 17 #[v] w (TrueEnd w) := by
  have HV := Lib.hid hv
  clear hv
  go_enter Try.func17, Try.ntmps17
  go_wp2_with fail
  refine (decState_any _ l _ HV.out hll).mono ?_
  rintro x w1 ⟨hb, uv, uf, s, err, rfl, hst, hd⟩
  obtain ⟨hv1, hf1, -⟩ := id hst
  obtain ⟨av, capv, rfl, _, _, _⟩ := hv1
  obtain ⟨af, capf, rfl, _, _⟩ := hf1.slice
  clear hf1
  have hbx := Blk.new w1 #[.slice av s.vals.length capv, .slice af s.frames.length capf, .int .i64 s.asks] 25
  have hal := (Below.refl w1.heap.size w1).alloc (Nat.le_refl _) (.cells #[.slice av s.vals.length capv, .slice af s.frames.length capf, .int .i64 s.asks] 25)
  have HST := Lib.hid (hst.below hal)
  replace hb := hb.trans (hal.mono hb.size)
  obtain ⟨X, hX⟩ : ∃ X, X = w1.heap.size := ⟨_, rfl⟩
  rcases hd with ⟨rfl, hm, heq⟩ | ⟨rfl, hs0, -⟩
  · have HM := Lib.hid hm
    have HQ := Lib.hid heq
    clear hst hm heq
    go_wp2_with fail
    rw [← hX] at hbx ⊢
    clear hX
    generalize w1.alloc (.cells #[.slice av s.vals.length capv, .slice af s.frames.length capf, .int .i64 s.asks] 25) = wa at hbx hb HST ⊢
    clear hal
    refine wp_region_seq (TellS v l X (.slice av s.vals.length capv) (.slice af s.frames.length capf) (.int .i64 s.asks)) [(0, true), (1, false), (2, true), (3, true), (6, true), (7, true), (4, false), (5, false), (8, true), (9, true),
      (10, true)] (by kernel_rfl) (by kernel_rfl) ⟨run_str (HV.out.below hb.drew), hbx.cell 0, hbx.cell 1, hbx.cell 2⟩ ?_
    iterate 1 (first | (apply seg_skip rfl rfl; simp only [Act.put, List.setIfInBounds_toArray, List.set_cons_succ, List.set_cons_zero]) | (apply seg_pure rfl rfl rfl; · (rintro w' ⟨t0, t1, t2, t3⟩; go_wp2; exact ⟨rfl, rfl, rfl⟩)))
    refine seg_loud rfl rfl ?_
    go_wp2_with fail
    refine (lawMayS_any _ _ s _ (HST.out.below (Below.refl _ _).drew)).mono ?_
    rintro x w2 ⟨rfl, hb2'⟩
    have hb2 : Below wa.heap.size wa w2 := below_undrew hb2'
    rw [decide_eq_true HM.out]
    have hbx2 := hbx.below hb2 hbx.lt
    have HST := Lib.hid (HST.out.below hb2)
    replace hb := below_next hb hb2
    clear hb2' hb2 hbx
    go_wp2_with fail
    refine ⟨⟨run_str (HV.out.below hb), hbx2.cell 0, hbx2.cell 1, hbx2.cell 2⟩, ?_⟩
    iterate 4 (first | (apply seg_skip rfl rfl; simp only [Act.put, List.setIfInBounds_toArray, List.set_cons_succ, List.set_cons_zero]) | (apply seg_pure rfl rfl rfl; · (rintro w' ⟨t0, t1, t2, t3⟩; go_wp2; exact ⟨rfl, rfl, rfl⟩)))
    refine seg_loud rfl rfl ?_
    go_wp2_with fail
    refine (encState_any _ _ s _ HST.out).mono ?_
    rintro x w3 ⟨u, rfl, hb3, hou⟩
    rcases hou with ⟨-, hou⟩ | ⟨h, -⟩
    rotate_left
    · exact absurd HM.out h
    have hbx3 := hbx2.below hb3 hbx2.lt
    replace hb := below_next hb hb3
    have hcv := run_str hou.isBytes
    rw [HQ.out] at hcv
    clear HST hb3 hou hbx2
    go_wp2_with fail
    refine ⟨⟨run_str (HV.out.below hb), hbx3.cell 0, hbx3.cell 1, hbx3.cell 2⟩, ?_⟩
    refine seg_loud rfl rfl ?_
    go_wp2_with fail
    refine ⟨⟨run_str (HV.out.below hb), hbx3.cell 0, hbx3.cell 1, hbx3.cell 2⟩, ?_⟩
    iterate 3 (first | (apply seg_skip rfl rfl; simp only [Act.put, List.setIfInBounds_toArray, List.set_cons_succ, List.set_cons_zero]) | (apply seg_pure rfl rfl rfl; · (rintro w' ⟨t0, t1, t2, t3⟩; go_wp2; exact ⟨rfl, rfl, rfl⟩)))
    refine seg_nil ?_
    refine NoPanic.normal ?_
    go_wp2_with fail
    go_ret
    exact ⟨rfl, hb⟩
  · have HS0 := Lib.hid hs0
    clear hst hs0
    go_wp2_with fail
    rw [← hX] at hbx ⊢
    clear hX
    generalize w1.alloc (.cells #[.slice av s.vals.length capv, .slice af s.frames.length capf, .int .i64 s.asks] 25) = wa at hbx hb HST ⊢
    have hz : IsState wa (.slice none 0 0) (.slice none 0 0) ⟨[], [], 0⟩ := ⟨IsRws.nil _, IsFrames.nil _, ⟨by show (-9223372036854775808 : Int) ≤ 0; omega, by show (0 : Int) ≤ 9223372036854775807; omega⟩, by simp, by simp⟩
    obtain ⟨x0, x1, x2⟩ := hbx.three
    go_wp2_with fail
    refine (lawEqS_any _ _ _ _ s ⟨[], [], 0⟩ wa HST.out hz).mono ?_
    rintro x w2 ⟨r, rfl, hr, hb2⟩
    obtain rfl := hr.2 HS0.out
    replace hb := below_next hb hb2
    clear hr hb2
    go_wp2_with fail
    go_ret
    exact ⟨rfl, hb⟩
end Go.Proofs.Ytpknafidbmnjpaa
