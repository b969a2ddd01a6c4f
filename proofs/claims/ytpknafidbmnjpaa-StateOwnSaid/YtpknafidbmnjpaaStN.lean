/-
  Walk of the statements' own function begun (state).
-/
import Derived.Test.YtpknafidbmnjpaaStM
namespace Go.Proofs.Ytpknafidbmnjpaa
open Go.RowKit

theorem lit1_vals (w : World) (v : VEnt) : IsRws 2 encV (w.alloc (.cells #[.int .i64 v.kind, .int .i64 v.n] 39)) (.slice (some ⟨w.heap.size, 0, none⟩) 1 1) [v] := by
  refine ⟨_, 1, rfl, Nat.le_refl _, by simp [maxLen], fun i y hy => ⟨w.heap.size, 0, rfl, by simp, fun j x hx => ?_⟩⟩
  rw [World.cell?_alloc_new]
  match i, hy with
  | 0, hy =>
    simp at hy
    subst hy
    match j, hx with
    | 0, hx | 1, hx => simp [encV] at hx; subst hx; rfl
    | j + 2, hx => simp [encV] at hx
  | i + 1, hy => simp at hy

theorem lit1_labs (w : World) (v : LEnt) : IsRws 2 encL (w.alloc (.cells #[.int .i64 v.pos, .int .i64 v.height] 44)) (.slice (some ⟨w.heap.size, 0, none⟩) 1 1) [v] := by
  refine ⟨_, 1, rfl, Nat.le_refl _, by simp [maxLen], fun i y hy => ⟨w.heap.size, 0, rfl, by simp, fun j x hx => ?_⟩⟩
  rw [World.cell?_alloc_new]
  match i, hy with
  | 0, hy =>
    simp at hy
    subst hy
    match j, hx with
    | 0, hx | 1, hx => simp [encL] at hx; subst hx; rfl
    | j + 2, hx => simp [encL] at hx
  | i + 1, hy => simp at hy

theorem lit1_frames (w : World) (f : FEnt) (u x : Value) (hf : f.ok) (hu : IsRws 2 encV w u f.locals) (hx : IsRws 2 encL w x f.labels) :
    IsFrames (w.alloc (.cells #[.int .i64 f.fn, .int .i64 f.pc, u, .int .i64 f.base, x] 42)) (.slice (some ⟨w.heap.size, 0, none⟩) 1 1) [f] := by
  have hb := (Below.refl w.heap.size w).alloc (Nat.le_refl _) (.cells #[.int .i64 f.fn, .int .i64 f.pc, u, .int .i64 f.base, x] 42)
  refine ⟨[(u, x)], rfl, ⟨_, 1, rfl, Nat.le_refl _, by simp [maxLen], fun i y hy => ⟨w.heap.size, 0, rfl, by simp, fun j v hv => ?_⟩⟩, fun i e v he hv => ?_, fun e he => ?_⟩
  · rw [World.cell?_alloc_new]
    match i, hy with
    | 0, hy =>
      simp at hy
      subst hy
      match j, hv with
      | 0, hv | 1, hv | 2, hv | 3, hv | 4, hv => simp [encF] at hv; subst hv; rfl
      | j + 5, hv => simp [encF] at hv
    | i + 1, hy => simp at hy
  · match i, he, hv with
    | 0, he, hv =>
      simp at he hv
      subst he hv
      exact ⟨hu.below hb, hx.below hb⟩
    | i + 1, he, hv => simp at he
  · simp at he
    rw [he]
    exact hf

def se0 : SEnt := ⟨[⟨1, -5⟩], [⟨2, 7, [⟨2, 0⟩], 0, [⟨1, 1⟩]⟩], -1⟩
theorem se0_ok : se0.ok := by
  refine ⟨⟨by decide, by decide⟩, fun v hv => ?_, fun f hf => ?_⟩
  · obtain rfl := List.mem_singleton.1 hv
    exact ⟨⟨by decide, by decide⟩, by decide, by decide⟩
  · obtain rfl := List.mem_singleton.1 hf
    refine ⟨⟨by decide, by decide⟩, ⟨by decide, by decide⟩, ⟨by decide, by decide⟩, fun v hv => ?_, fun v hv => ?_⟩
    · obtain rfl := List.mem_singleton.1 hv
      exact ⟨⟨by decide, by decide⟩, by decide, by decide⟩
    · obtain rfl := List.mem_singleton.1 hv
      exact ⟨⟨by decide, by decide⟩, by decide, by decide⟩
theorem se0_may : se0.may := by decide
theorem se_ok (n : Int) (h : InI n) : SEnt.ok ⟨[], [], n⟩ := ⟨h, by simp, by simp⟩


set_option maxRecDepth 100000 in
set_option maxHeartbeats 4000000 in
theorem stateBegun_any (w : World) : Calls Try.prog 8 #[] w (TrueEnd w) := by
  obtain ⟨s, hs⟩ : ∃ s, s = se0 := ⟨_, rfl⟩
  have HM := Lib.hid (show s.may by rw [hs]; exact se0_may)
  have HOK := Lib.hid (show s.ok by rw [hs]; exact se0_ok)
  have HSE := Lib.hid hs
  have hasks : s.asks = -1 := by rw [hs]; rfl
  clear hs
  go_enter Try.func8, Try.ntmps8
  go_wp2_with fail
  obtain ⟨w1, hw1⟩ : ∃ w1, w1 = w.alloc (.cells #[.int .i64 1, .int .i64 (-5)] 39) := ⟨_, rfl⟩
  obtain ⟨w2, hw2⟩ : ∃ w2, w2 = w1.alloc (.cells #[.int .i64 2, .int .i64 0] 39) := ⟨_, rfl⟩
  obtain ⟨w3, hw3⟩ : ∃ w3, w3 = w2.alloc (.cells #[.int .i64 1, .int .i64 1] 44) := ⟨_, rfl⟩
  have hs1 : w1.heap.size = w.heap.size + 1 := by rw [hw1]; exact World.size_alloc _ _
  have hs2 : w2.heap.size = w.heap.size + 1 + 1 := by rw [hw2, World.size_alloc, hs1]
  have hs3 : w3.heap.size = w.heap.size + 1 + 1 + 1 := by rw [hw3, World.size_alloc, hs2]
  obtain ⟨w4, hw4⟩ : ∃ w4, w4 = w3.alloc (.cells #[.int .i64 2, .int .i64 7, .slice (some ⟨w.heap.size + 1, 0, none⟩) 1 1, .int .i64 0, .slice (some ⟨w.heap.size + 1 + 1, 0, none⟩) 1 1] 42) := ⟨_, rfl⟩
  have hs4 : w4.heap.size = w.heap.size + 1 + 1 + 1 + 1 := by rw [hw4, World.size_alloc, hs3]
  have h1 : IsRws 2 encV w1 (.slice (some ⟨w.heap.size, 0, none⟩) 1 1) [⟨1, -5⟩] := by rw [hw1]; exact lit1_vals w ⟨1, -5⟩
  have h2 : IsRws 2 encV w2 (.slice (some ⟨w.heap.size + 1, 0, none⟩) 1 1) [⟨2, 0⟩] := by rw [hw2, ← hs1]; exact lit1_vals w1 ⟨2, 0⟩
  have h3 : IsRws 2 encL w3 (.slice (some ⟨w.heap.size + 1 + 1, 0, none⟩) 1 1) [⟨1, 1⟩] := by rw [hw3, ← hs2]; exact lit1_labs w2 ⟨1, 1⟩
  have b1 : Below w.heap.size w w1 := by rw [hw1]; exact (Below.refl _ _).alloc (Nat.le_refl _) _
  have b2 : Below w1.heap.size w1 w2 := by rw [hw2]; exact (Below.refl _ _).alloc (Nat.le_refl _) _
  have b3 : Below w2.heap.size w2 w3 := by rw [hw3]; exact (Below.refl _ _).alloc (Nat.le_refl _) _
  have b4 : Below w3.heap.size w3 w4 := by rw [hw4]; exact (Below.refl _ _).alloc (Nat.le_refl _) _
  have h4 : IsFrames w4 (.slice (some ⟨w.heap.size + 1 + 1 + 1, 0, none⟩) 1 1) [⟨2, 7, [⟨2, 0⟩], 0, [⟨1, 1⟩]⟩] := by
    rw [hw4, ← hs3]
    exact lit1_frames w3 ⟨2, 7, [⟨2, 0⟩], 0, [⟨1, 1⟩]⟩ _ _ (se0_ok.2.2 _ (by simp [se0])) (h2.below b3) h3
  have b14 : Below w1.heap.size w1 w4 := below_next (below_next b2 b3) b4
  have hst4 : IsState w4 (.slice (some ⟨w.heap.size, 0, none⟩) 1 1) (.slice (some ⟨w.heap.size + 1 + 1 + 1, 0, none⟩) 1 1) s := by
    rw [HSE.out]
    exact ⟨h1.below b14, h4, se0_ok⟩
  have hb4 : Below w.heap.size w w4 := below_next b1 b14
  have hbx4 := Blk.new w4 #[.slice (some ⟨w.heap.size, 0, none⟩) 1 1, .slice (some ⟨w.heap.size + 1 + 1 + 1, 0, none⟩) 1 1, .int .i64 (-1)] 25
  have b5 := (Below.refl w4.heap.size w4).alloc (Nat.le_refl _) (.cells #[.slice (some ⟨w.heap.size, 0, none⟩) 1 1, .slice (some ⟨w.heap.size + 1 + 1 + 1, 0, none⟩) 1 1, .int .i64 (-1)] 25)
  rw [hs4] at hbx4
  rw [← hw1, ← hw2, ← hw3, ← hw4]
  have hst := hst4.below b5
  have hb := below_next hb4 b5
  clear h1 h2 h3 h4 b1 b2 b3 b4 b14 hst4 hb4 b5 hs1 hs2 hs3 hs4 hw1 hw2 hw3 hw4
  obtain ⟨X, hX⟩ : ∃ X, w.heap.size + 1 + 1 + 1 + 1 = X := ⟨_, rfl⟩
  obtain ⟨D, hD⟩ : ∃ D, w.heap.size + 1 + 1 + 1 = D := ⟨_, rfl⟩
  rw [hX, hD] at hbx4 ⊢
  rw [hD] at hst hb
  clear hX hD
  generalize w4.alloc (.cells #[.slice (some ⟨w.heap.size, 0, none⟩) 1 1, .slice (some ⟨D, 0, none⟩) 1 1, .int .i64 (-1)] 25) = w0 at hst hb hbx4 ⊢
  have HST := Lib.hid hst
  have HX := Lib.hid hbx4
  have E1 := encState_any _ _ s w0 hst
  rw [hasks] at E1
  have E1 := Lib.hid E1
  clear hst hbx4
  refine E1.out.mono ?_
  rintro x w5 ⟨c, rfl, hb5, hc⟩
  rcases hc with ⟨-, hc⟩ | ⟨h, -⟩
  rotate_left
  · exact absurd HM.out h
  obtain ⟨hc1, hc2⟩ := stateB_len HM.out HOK.out
  obtain ⟨C, hC⟩ : ∃ C, C = stateB s := ⟨_, rfl⟩
  rw [← hC] at hc hc1 hc2
  have HCI := Lib.hid hc.isBytes
  have HC := Lib.hid hC
  have HST := Lib.hid (HST.out.below hb5)
  have HX := Lib.hid (HX.out.below hb5 HX.out.lt)
  replace hb := below_next hb hb5
  have hcl : C.length ≤ 400000 := by omega
  clear hb5 hc hC E1 hc1 hc2
  go_wp2_with fail
  refine (decState_any _ _ _ HCI.out hcl).mono ?_
  rintro x w6 ⟨hb6, uv2, uf2, s2, err, rfl, hst2, hd⟩
  rcases hd with ⟨rfl, hm2, heq⟩ | ⟨-, -, h⟩
  rotate_left
  · exact absurd ⟨s, HM.out, HOK.out, HC.out.symm⟩ h
  obtain rfl := stateB_inj hm2 hst2.2.2 HM.out HOK.out (heq.trans HC.out)
  obtain ⟨hv2, hf2, -⟩ := id hst2
  obtain ⟨av2, capv2, rfl, _, _, _⟩ := hv2
  obtain ⟨af2, capf2, rfl, _, _⟩ := hf2.slice
  rw [hasks]
  have hx2 := Blk.new w6 #[.slice av2 s2.vals.length capv2, .slice af2 s2.frames.length capf2, .int .i64 (-1)] 25
  have hal := (Below.refl w6.heap.size w6).alloc (Nat.le_refl _) (.cells #[.slice av2 s2.vals.length capv2, .slice af2 s2.frames.length capf2, .int .i64 (-1)] 25)
  have b6 := below_next hb6 hal
  have HST := Lib.hid (HST.out.below b6)
  have HX := Lib.hid (HX.out.below b6 HX.out.lt)
  have HST2 := Lib.hid (hst2.below hal)
  replace hb := below_next hb b6
  clear b6 hb6 hal hm2 heq hst2 HCI HC hcl hf2
  go_wp2_with fail
  obtain ⟨X2, hX2⟩ : ∃ X2, X2 = w6.heap.size := ⟨_, rfl⟩
  rw [← hX2] at hx2 ⊢
  clear hX2
  have HX2 := Lib.hid hx2
  clear hx2
  generalize w6.alloc (.cells #[.slice av2 s2.vals.length capv2, .slice af2 s2.frames.length capf2, .int .i64 (-1)] 25) = w7 at hb HST HX HST2 HX2 ⊢
  refine (decState_any _ [] _ (IsBytes.nil _) (by simp)).mono ?_
  rintro x w8 ⟨hb8, uv3, uf3, s3, err, rfl, hst3, hd⟩
  rcases hd with ⟨-, -, heq⟩ | ⟨rfl, rfl, -⟩
  · exact absurd heq (stateB_ne s3)
  obtain ⟨hv3, hf3, -⟩ := id hst3
  obtain ⟨av3, capv3, rfl, _, _, _⟩ := hv3
  obtain ⟨af3, capf3, rfl, _, _⟩ := hf3.slice
  clear hf3 hst3
  have hal := (Below.refl w8.heap.size w8).alloc (Nat.le_refl _) (.cells #[.slice av3 ([] : List VEnt).length capv3, .slice af3 ([] : List FEnt).length capf3, .int .i64 0] 25)
  have b8 := below_next hb8 hal
  have HST := Lib.hid (HST.out.below b8)
  have HX := Lib.hid (HX.out.below b8 HX.out.lt)
  have HST2 := Lib.hid (HST2.out.below b8)
  have HX2 := Lib.hid (HX2.out.below b8 HX2.out.lt)
  replace hb := below_next hb b8
  obtain ⟨x0, x1, x2⟩ := HX.out.three
  clear b8 hb8 hal
  simp only [List.length_nil] at *
  go_wp2_with fail
  clear x0 x1 x2
  generalize w8.alloc (.cells #[.slice av3 0 capv3, .slice af3 0 capf3, .int .i64 0] 25) = w9 at hb HST HX HST2 HX2 ⊢
  have hvl : s2.vals.length = 1 := by rw [HSE.out]; rfl
  have hfl : s2.frames.length = 1 := by rw [HSE.out]; rfl
  have E2 := copyState_any _ _ s2 w9 HST.out (by omega) (by omega) (by rw [HSE.out]; intro f hf; obtain rfl := List.mem_singleton.1 hf; exact ⟨by decide, by decide⟩)
  rw [hasks] at E2
  have E2 := Lib.hid E2
  refine E2.out.mono ?_
  clear E2
  rintro x w10 ⟨uv4, uf4, M, rfl, hb10, hM1, hM2, hov, hovM, hcf⟩
  rw [hasks]
  have hXl := HX.out.lt
  have hXl2 := HX2.out.lt
  obtain ⟨g, cap4, cur, rfl, hg1, hg2, hg3, hc4, hm4⟩ := hov.open (by intro h; rw [h] at hvl; simp at hvl)
  obtain ⟨af4, capf4, rfl, _, _⟩ := hcf.isFrames.slice
  have hx0 : s2.vals[0]? = some ⟨1, -5⟩ := by rw [HSE.out]; rfl
  have hgM : g < M := hovM g rfl
  have fl : ((s2.vals.length : Int) != (1 : Int)) = false := ine_false (by omega)
  have hpos : 0 < s2.vals.length := by omega
  have hal := (Below.refl w10.heap.size w10).alloc (Nat.le_refl _) (.cells #[.slice (some ⟨g, 0, none⟩) s2.vals.length cap4, .slice af4 s2.frames.length capf4, .int .i64 (-1)] 25)
  have hx6 := Blk.new w10 #[.slice (some ⟨g, 0, none⟩) s2.vals.length cap4, .slice af4 s2.frames.length capf4, .int .i64 (-1)] 25
  have hovb := hov.below hal
  have hcfb := hcf.keeps (Keeps.ofBelow (S := fun _ => False) hal) (fun i h => h.elim)
  have bwb := below_next hb10 hal
  have hg3b : (w10.alloc (.cells #[.slice (some ⟨g, 0, none⟩) s2.vals.length cap4, .slice af4 s2.frames.length capf4, .int .i64 (-1)] 25)).heap[g]? = some (.cells cur 39) := (hal.block g hg2).trans hg3
  have c1 : (w10.alloc (.cells #[.slice (some ⟨g, 0, none⟩) s2.vals.length cap4, .slice af4 s2.frames.length capf4, .int .i64 (-1)] 25)).cell? ⟨g, 1, none⟩ = some (.int .i64 (-5)) := hovb.cell encV_len (i := 0) (j := 1) hx0 rfl
  have z1 : (w10.alloc (.cells #[.slice (some ⟨g, 0, none⟩) s2.vals.length cap4, .slice af4 s2.frames.length capf4, .int .i64 (-1)] 25)).frozen? ⟨g, 1, none⟩ = false := frozen_of_row _ g 1 cur _ hg3b
  have hbs := setKeeps w10 g 1 (.int .i64 (-4))
  have hov9 := hov.set encV_len (i := 0) (j := 1) (u := .int .i64 (-4)) (y := ⟨1, -4⟩) hx0 (by omega) rfl
  have hsz : (w10.setCell ⟨g, 1, none⟩ (.int .i64 (-4))).heap.size = w10.heap.size := by simp
  have hals := (Below.refl (w10.setCell ⟨g, 1, none⟩ (.int .i64 (-4))).heap.size (w10.setCell ⟨g, 1, none⟩ (.int .i64 (-4)))).alloc (Nat.le_refl _) (.cells #[.slice (some ⟨g, 0, none⟩) s2.vals.length cap4, .slice af4 s2.frames.length capf4, .int .i64 (-1)] 25)
  have hx6' : Blk ((w10.setCell ⟨g, 1, none⟩ (.int .i64 (-4))).alloc (.cells #[.slice (some ⟨g, 0, none⟩) s2.vals.length cap4, .slice af4 s2.frames.length capf4, .int .i64 (-1)] 25)) w10.heap.size #[.slice (some ⟨g, 0, none⟩) s2.vals.length cap4, .slice af4 s2.frames.length capf4, .int .i64 (-1)] 25 := by
    have := Blk.new (w10.setCell ⟨g, 1, none⟩ (.int .i64 (-4))) #[.slice (some ⟨g, 0, none⟩) s2.vals.length cap4, .slice af4 s2.frames.length capf4, .int .i64 (-1)] 25
    rw [hsz] at this
    exact this
  have bwx := (hb10.trans (hbs.below hb10.size (fun i h => by omega))).trans (hals.mono (by rw [hsz]; exact hb10.size))
  have HOV := Lib.hid (hov9.below hals)
  have HCF := Lib.hid ((hcf.keeps hbs (fun i h => by omega)).keeps (Keeps.ofBelow (S := fun _ => False) hals) (fun i h => h.elim))
  have HX6 := Lib.hid hx6'
  have HBW := Lib.hid bwx
  have HVL := Lib.hid hvl
  obtain ⟨p0, p1, p2⟩ := hx6.three
  obtain ⟨x0, x1, x2⟩ := (HX.out.below bwx hXl).three
  clear hov hcf hovb hcfb hovM hal hg3 hb10 hx0 hov9 hvl hfl bwb bwx hg3b hx6' hx6 hbs hals hsz
  unfold maxLen at hm4
  go_wp2_with fail
  obtain ⟨X6, hX6⟩ : ∃ X6, X6 = w10.heap.size := ⟨_, rfl⟩
  rw [← hX6] at HX6 ⊢
  clear hX6 c1 z1 p0 p1 p2 x0 x1 x2
  generalize (w10.setCell ⟨g, 1, none⟩ (.int .i64 (-4))).alloc (.cells #[.slice (some ⟨g, 0, none⟩) s2.vals.length cap4, .slice af4 s2.frames.length capf4, .int .i64 (-1)] 25) = w11 at HOV HCF HX6 HBW ⊢
  have HST := Lib.hid (HST.out.below HBW.out)
  have HX := Lib.hid (HX.out.below HBW.out HX.out.lt)
  have HST2 := Lib.hid (HST2.out.below HBW.out)
  have HX2 := Lib.hid (HX2.out.below HBW.out HX2.out.lt)
  have HSC := Lib.hid (show IsState w11 (.slice (some ⟨g, 0, none⟩) s2.vals.length cap4) (.slice af4 s2.frames.length capf4) ⟨s2.vals.set 0 ⟨1, -4⟩, s2.frames, -1⟩ from
    ⟨HOV.out.isRws encV_len, HCF.out.isFrames, ⟨by show (-9223372036854775808 : Int) ≤ -1; omega, by show (-1 : Int) ≤ 9223372036854775807; omega⟩, by
      show ∀ v ∈ s2.vals.set 0 ⟨1, -4⟩, v.ok
      rw [HSE.out]
      intro v hv
      obtain rfl := List.mem_singleton.1 (show v ∈ [(⟨1, -4⟩ : VEnt)] from hv)
      exact ⟨⟨by decide, by decide⟩, by decide, by decide⟩, HOK.out.2.2⟩)
  replace hb := below_next hb HBW.out
  clear HOV HCF HBW hg1 hg2 hgM hM1 hM2 hc4 hm4 fl hpos hXl hXl2
  have E := mayState_any _ _ s2 w11 HST.out
  rw [hasks] at E
  have E := Lib.hid E
  refine E.out.mono ?_
  clear E
  rintro x w12 ⟨rfl, hb'⟩
  have HST := Lib.hid (HST.out.below hb')
  have HX := Lib.hid (HX.out.below hb' HX.out.lt)
  have HST2 := Lib.hid (HST2.out.below hb')
  have HX2 := Lib.hid (HX2.out.below hb' HX2.out.lt)
  have HSC := Lib.hid (HSC.out.below hb')
  have HX6 := Lib.hid (HX6.out.below hb' HX6.out.lt)
  replace hb := below_next hb hb'
  clear hb'
  rw [decide_eq_true HM.out]
  obtain ⟨x0, x1, x2⟩ := HX.out.three
  go_wp2_with fail
  refine (mayState_any _ _ ⟨[], [], -2⟩ w12 ⟨IsRws.nil _, IsFrames.nil _, ⟨by show (-9223372036854775808 : Int) ≤ -2; omega, by show (-2 : Int) ≤ 9223372036854775807; omega⟩, by simp, by simp⟩).mono ?_
  rintro x w13 ⟨rfl, hb'⟩
  rw [decide_eq_false (show ¬ (⟨[], [], -2⟩ : SEnt).may from fun h => by have : (-1 : Int) ≤ -2 := h.2.2.1; omega)]
  clear x0 x1 x2
  have HST := Lib.hid (HST.out.below hb')
  have HX := Lib.hid (HX.out.below hb' HX.out.lt)
  have HST2 := Lib.hid (HST2.out.below hb')
  have HX2 := Lib.hid (HX2.out.below hb' HX2.out.lt)
  have HSC := Lib.hid (HSC.out.below hb')
  have HX6 := Lib.hid (HX6.out.below hb' HX6.out.lt)
  replace hb := below_next hb hb'
  clear hb'
  obtain ⟨x0, x1, x2⟩ := HX.out.three
  obtain ⟨y0, y1, y2⟩ := HX2.out.three
  go_wp2_with fail
  have E := eqState_any _ _ _ _ s2 s2 w13 HST2.out HST.out
  rw [hasks] at E
  have E := Lib.hid E
  refine E.out.mono ?_
  clear E
  rintro x w14 ⟨r, rfl, hr, hb'⟩
  obtain rfl := hr.2 rfl
  clear hr x0 x1 x2 y0 y1 y2
  have HST := Lib.hid (HST.out.below hb')
  have HX := Lib.hid (HX.out.below hb' HX.out.lt)
  have HST2 := Lib.hid (HST2.out.below hb')
  have HX2 := Lib.hid (HX2.out.below hb' HX2.out.lt)
  have HSC := Lib.hid (HSC.out.below hb')
  have HX6 := Lib.hid (HX6.out.below hb' HX6.out.lt)
  replace hb := below_next hb hb'
  clear hb'
  obtain ⟨x0, x1, x2⟩ := HX.out.three
  obtain ⟨y0, y1, y2⟩ := HX6.out.three
  go_wp2_with fail
  have E := eqState_any _ _ _ _ ⟨s2.vals.set 0 ⟨1, -4⟩, s2.frames, -1⟩ s2 w14 HSC.out HST.out
  rw [hasks] at E
  have E := Lib.hid E
  refine E.out.mono ?_
  clear E
  rintro x w15 ⟨r, rfl, hr, hb'⟩
  obtain rfl : r = false := by
    cases r
    · rfl
    · have := hr.1 rfl
      rw [HSE.out] at this
      exact absurd this (by decide)
  clear hr x0 x1 x2 y0 y1 y2
  have HST := Lib.hid (HST.out.below hb')
  have HX := Lib.hid (HX.out.below hb' HX.out.lt)
  have HST2 := Lib.hid (HST2.out.below hb')
  have HX2 := Lib.hid (HX2.out.below hb' HX2.out.lt)
  have HSC := Lib.hid (HSC.out.below hb')
  have HX6 := Lib.hid (HX6.out.below hb' HX6.out.lt)
  replace hb := below_next hb hb'
  clear hb'
  go_wp2_with fail
  go_ret
  exact ⟨rfl, hb⟩
end Go.Proofs.Ytpknafidbmnjpaa
