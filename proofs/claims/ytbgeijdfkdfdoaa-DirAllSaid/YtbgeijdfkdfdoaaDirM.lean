/-
  Walks of the statements' own functions begun and tells.
-/
import Derived.Test.YtbgeijdfkdfdoaaDirK
import Derived.Test.YtbgeijdfkdfdoaaDirL
namespace Go.Proofs.Ytbgeijdfkdfdoaa
open Go.RowKit

theorem lit_isEnts (w : World) (e : DEnt) (he : e.ok) : IsEnts (w.alloc (.cells #[.string (bs e.name), .int .i64 e.len, .int .i64 e.pos, .int .i64 e.sp] 52)) (.slice (some ⟨w.heap.size, 0, none⟩) 1 1) [e] := by
  refine ⟨_, 1, rfl, Nat.le_refl _, by simp [maxLen], fun i x hx => ?_⟩
  match i, hx with
  | 0, hx =>
    simp at hx
    subst hx
    exact ⟨he, w.heap.size, 0, rfl, by simp, by simp, by simp, by simp⟩
  | i + 1, hx => simp at hx

theorem nil_isEnts (w : World) : IsEnts w (.slice none 0 0) [] := ⟨none, 0, rfl, Nat.le_refl _, by simp [maxLen], fun i x hx => by simp at hx⟩

theorem dirB_inj {a b : List DEnt} (ha : mayL a) (hb : mayL b) (h : dirB a = dirB b) : a = b := by
  rw [dirB, dirB] at h
  obtain ⟨h1, h2⟩ := putU_front (by have := ha.2; omega) (by have := hb.2; omega) h
  obtain ⟨c, h3, h4⟩ := ents_front a b [] (mayL_fits ha) (mayL_fits hb) (by omega) (by rw [List.append_nil]; exact h2.symm)
  have : c = [] := by
    apply List.eq_nil_of_length_eq_zero
    rw [h3, List.length_append] at h1
    omega
  rw [h3, this, List.append_nil]

theorem mayL_one {e : DEnt} : mayL [e] ↔ e.may := by
  constructor
  · intro h
    exact (h.1 0 (by simp) e rfl).1
  · intro h
    refine ⟨fun i hi x hx => ?_, by simp⟩
    match i, hx with
    | 0, hx =>
      simp at hx
      subst hx
      exact ⟨h, fun d h => by omega⟩
    | i + 1, hx => simp at hx

theorem mayL_nil : mayL [] := ⟨fun i hi => by simp at hi, by simp⟩

theorem dirB_nil : dirB [] = [0] := by decide +kernel

/-- The first example's entry. -/
def ent0 : DEnt := ⟨[97], 65, 9, 2⟩

theorem ent0_may : ent0.may := by decide

set_option maxRecDepth 100000 in
set_option maxHeartbeats 4000000 in
theorem dirBegun_any (w : World) : Calls Try.prog 25 #[] w (TrueEnd w) := by
  have hm0 : mayL [ent0] := mayL_one.2 ent0_may
  have HM := Lib.hid hm0
  clear hm0
  go_enter Try.func25, Try.ntmps25
  go_wp2_with fail
  have hl := lit_isEnts w ent0 ent0_may.fits.ok
  have hb : Below w.heap.size w (w.alloc (.cells #[.string (bs ent0.name), .int .i64 ent0.len, .int .i64 ent0.pos, .int .i64 ent0.sp] 52)) := (Below.refl _ _).alloc (Nat.le_refl _) _
  refine (encode_any _ [ent0] _ hl).mono ?_
  rintro x w1 ⟨c, rfl, hb1, hc⟩
  replace hl := hl.below hb1
  have HL := Lib.hid hl
  replace hb := below_next hb hb1
  rcases hc with ⟨-, hc⟩ | ⟨h, -⟩
  rotate_left
  · exact absurd HM.out h
  have hci := hc.isBytes
  have HCI := Lib.hid hci
  clear hb1 hc hl hci
  go_wp2_with fail
  refine (decode_any _ _ _ HCI.out).mono ?_
  rintro x w2 ⟨hb2, v2, err, rfl, hd⟩
  rcases hd with ⟨rfl, es, hes, heq, hoe⟩ | ⟨-, -, h⟩
  rotate_left
  · exact absurd ⟨_, HM.out, rfl⟩ h
  obtain rfl := dirB_inj hes HM.out heq
  have hl := HL.out.below hb2
  clear HL
  have HL := Lib.hid hl
  replace hb := below_next hb hb2
  have hl2 := hoe.isEnts (fun e he => (mayL_fits hes e he).ok)
  have HL2 := Lib.hid hl2
  clear hb2 hes heq hoe hl hl2 HCI
  go_wp2_with fail
  refine (decode_any _ _ _ (IsBytes.nil _)).mono ?_
  rintro x w3 ⟨hb3, v3, err, rfl, hd⟩
  rcases hd with ⟨-, es, hes, heq, -⟩ | ⟨rfl, rfl, -⟩
  · rw [dirB, List.append_eq_nil_iff] at heq
    have := (putU_len es.length).1
    rw [heq.1] at this
    simp at this
  have hl := HL.out.below hb3
  have hl2 := HL2.out.below hb3
  clear HL HL2
  have HL := Lib.hid hl
  have HL2 := Lib.hid hl2
  replace hb := below_next hb hb3
  clear hb3 hl hl2
  go_wp2_with fail
  refine (mayList_any _ _ _ HL.out).mono ?_
  rintro x w4 ⟨r, rfl, hr, hb4⟩
  obtain rfl := hr.2 HM.out
  have hl := HL.out.below hb4
  have hl2 := HL2.out.below hb4
  clear HL HL2
  have HL := Lib.hid hl
  have HL2 := Lib.hid hl2
  replace hb := below_next hb hb4
  clear hb4 hr hl hl2
  go_wp2_with fail
  refine (mayList_any _ _ _ (nil_isEnts _)).mono ?_
  rintro x w5 ⟨r, rfl, hr, hb5⟩
  obtain rfl := hr.2 mayL_nil
  have hl := HL.out.below hb5
  have hl2 := HL2.out.below hb5
  clear HL HL2
  have HL := Lib.hid hl
  have HL2 := Lib.hid hl2
  replace hb := below_next hb hb5
  clear hb5 hr hl hl2
  go_wp2_with fail
  refine (eq_any _ _ _ _ _ HL.out HL2.out).mono ?_
  rintro x w6 ⟨r, rfl, hr, hb6⟩
  obtain rfl := hr.2 rfl
  have hl := HL.out.below hb6
  clear HL HL2
  have HL := Lib.hid hl
  replace hb := below_next hb hb6
  clear hb6 hr hl
  go_wp2_with fail
  refine (find_any _ _ [97] _ HL.out).mono ?_
  rintro x w7 ⟨rfl, hb7⟩
  rw [show findR [ent0] [97] = 0 from by decide]
  have hl := HL.out.below hb7
  clear HL
  have HL := Lib.hid hl
  replace hb := below_next hb hb7
  clear hb7 hl
  go_wp2_with fail
  refine (find_any _ _ [98] _ HL.out).mono ?_
  rintro x w8 ⟨rfl, hb8⟩
  rw [show findR [ent0] [98] = -1 from by decide]
  replace hb := below_next hb hb8
  clear hb8 HL
  go_wp2_with fail
  refine (encode_any _ _ _ (nil_isEnts _)).mono ?_
  rintro x w9 ⟨c, rfl, hb9, hc⟩
  rcases hc with ⟨-, hc⟩ | ⟨h, -⟩
  rotate_left
  · exact absurd mayL_nil h
  rw [dirB_nil] at hc
  obtain ⟨g, cap, rfl, -, -, -, -, -, -⟩ := hc.open (by simp)
  replace hb := below_next hb hb9
  clear hb9 hc
  go_wp2_with fail
  go_ret
  exact ⟨rfl, hb⟩

set_option maxRecDepth 100000 in
set_option maxHeartbeats 4000000 in
theorem tells_any (v : Value) (l : List UInt8) (w : World) (hv : IsBytes w v l) : Calls Try.prog 35 #[v] w (TrueEnd w) := by
  have HV := Lib.hid hv
  clear hv
  go_enter Try.func35, Try.ntmps35
  go_wp2_with fail
  refine (decode_any _ _ _ HV.out).mono ?_
  rintro x w1 ⟨hb, v1, err, rfl, hd⟩
  rcases hd with ⟨rfl, es, hes, heq, hoe⟩ | ⟨rfl, rfl, -⟩
  · have hl := hoe.isEnts (fun e he => (mayL_fits hes e he).ok)
    have HL := Lib.hid hl
    have HM := Lib.hid hes
    have HQ := Lib.hid heq
    clear hl hoe hes heq
    go_wp2_with fail
    refine wp_region_seq (fun w' => (convert 22 9 v).run Try.prog w' = .ok (.string (bs l)) w') [(0, true), (1, false), (2, true), (3, true), (6, true), (7, true), (4, false), (5, false), (8, true), (9, true),
      (10, true)] (by kernel_rfl) (by kernel_rfl) (run_str (HV.out.below hb.drew)) ?_
    iterate 1 (first | (apply seg_skip rfl rfl; simp only [Act.put, List.setIfInBounds_toArray, List.set_cons_succ, List.set_cons_zero]) | (apply seg_pure rfl rfl rfl; · (rintro w' t0; go_wp2; exact ⟨rfl, rfl, rfl⟩)))
    refine seg_loud rfl rfl ?_
    go_wp2_with fail
    refine (lawMay_any _ es _ (HL.out.below (Below.refl _ _).drew)).mono ?_
    rintro x w2 ⟨r, rfl, hr, hb2⟩
    obtain rfl := hr.2 HM.out
    have hl := HL.out.below (w := w1) (below_undrew hb2)
    replace hb := below_next hb (below_undrew hb2)
    clear HL hr
    have HL := Lib.hid hl
    clear hl hb2
    go_wp2_with fail
    refine ⟨run_str (HV.out.below hb), ?_⟩
    iterate 4 (first | (apply seg_skip rfl rfl; simp only [Act.put, List.setIfInBounds_toArray, List.set_cons_succ, List.set_cons_zero]) | (apply seg_pure rfl rfl rfl; · (rintro w' t0; go_wp2; exact ⟨rfl, rfl, rfl⟩)))
    refine seg_loud rfl rfl ?_
    go_wp2_with fail
    refine (bytes_any _ es _ HL.out HM.out).mono ?_
    rintro x w3 ⟨u, rfl, hou, hb3⟩
    replace hb := below_next hb hb3
    have hcv := run_str hou.isBytes
    rw [HQ.out] at hcv
    clear HL hb3 hou
    go_wp2_with fail
    refine ⟨run_str (HV.out.below hb), ?_⟩
    refine seg_loud rfl rfl ?_
    go_wp2_with fail
    refine ⟨run_str (HV.out.below hb), ?_⟩
    iterate 3 (first | (apply seg_skip rfl rfl; simp only [Act.put, List.setIfInBounds_toArray, List.set_cons_succ, List.set_cons_zero]) | (apply seg_pure rfl rfl rfl; · (rintro w' t0; go_wp2; exact ⟨rfl, rfl, rfl⟩)))
    refine seg_nil ?_
    refine NoPanic.normal ?_
    go_wp2_with fail
    go_ret
    exact ⟨rfl, hb⟩
  · go_wp2_with fail
    go_ret
    exact ⟨rfl, hb⟩
end Go.Proofs.Ytbgeijdfkdfdoaa
