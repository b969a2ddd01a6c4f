/-
  Walk of state.Copy.
-/
import Derived.Test.YtpknafidbmnjpaaStK
namespace Go.Proofs.Ytpknafidbmnjpaa
open Go.RowKit

/-- Rows of unlike structs stand in unlike blocks. -/
theorem OwnRws.ne {α β : Type} {t t' : TypeId} {k k' : Nat} {enc : α → List Value} {enc' : β → List Value} {w : World} {B B' : Nat} {v v' : Value} {l : List α} {l' : List β} (h : OwnRws t k enc w B v l) (h' : OwnRws t' k' enc' w B' v' l') (hne : t ≠ t') (g : Nat) (hg : OwnB v g) : ¬ OwnB v' g := by
  intro hg'
  obtain ⟨_, hv | ⟨g1, cap, cur, hv, hb, h1, _⟩⟩ := h
  · rw [hv.1] at hg
    simp [OwnB, Value.ownBlock] at hg
  obtain ⟨_, hv' | ⟨g2, cap', cur', hv', hb', h2, _⟩⟩ := h'
  · rw [hv'.1] at hg'
    simp [OwnB, Value.ownBlock] at hg'
  rw [hv] at hg
  rw [hv'] at hg'
  simp [OwnB, Value.ownBlock] at hg hg'
  subst hg hg'
  rw [h1] at h2
  injection h2 with h2
  injection h2 with _ h2
  exact hne h2

theorem OwnRws.cell {α : Type} {t : TypeId} {k : Nat} {enc : α → List Value} {w : World} {B g n cap : Nat} {l : List α} (hk : ∀ x, (enc x).length = k) (h : OwnRws t k enc w B (.slice (some ⟨g, 0, none⟩) n cap) l) {i j : Nat} {x : α} {u : Value} (hx : l[i]? = some x) (hu : (enc x)[j]? = some u) : w.cell? ⟨g, i * k + j, none⟩ = some u := by
  obtain ⟨a, c, hv, _, _, hc⟩ := h.isRws hk
  obtain ⟨b, off, ha, _, hcc⟩ := hc i x hx
  injection hv with e1 e2 e3
  rw [← e1] at ha
  injection ha with ha
  injection ha with e4 e5
  subst e4 e5
  have := hcc j u hu
  rw [Nat.zero_add] at this
  exact this

theorem zip_set {α β : Type} : ∀ (l : List α) (us : List β) (k : Nat) (f : α) (u : β), l[k]? = some f → (l.zip us).set k (f, u) = l.zip (us.set k u)
  | [], us, k, f, u, h => by simp at h
  | d :: l, [], k, f, u, h => by simp
  | d :: l, x :: us, 0, f, u, h => by
    simp at h
    simp [h]
  | d :: l, x :: us, k + 1, f, u, h => by
    simp only [List.zip_cons_cons, List.set_cons_succ]
    rw [zip_set l us k f u (by simpa using h)]

/-- Frames of a copy: all rows are the call's own. -/
def CopyFrames (w : World) (M : Nat) (v : Value) (l : List FEnt) : Prop :=
  ∃ us : List (Value × Value), us.length = l.length ∧ OwnRws 42 5 encF w M v (l.zip us) ∧ (∀ f ∈ l, f.ok) ∧
    ∀ (i : Nat) (f : FEnt) (u : Value × Value), l[i]? = some f → us[i]? = some u → OwnRws 39 2 encV w M u.1 f.locals ∧ OwnRws 44 2 encL w M u.2 f.labels

theorem CopyFrames.isFrames {w : World} {M : Nat} {v : Value} {l : List FEnt} (h : CopyFrames w M v l) : IsFrames w v l := by
  obtain ⟨us, h1, h2, h3, h4⟩ := h
  exact ⟨us, h1, h2.isRws encF_len, fun i f u hf hu => ⟨(h4 i f u hf hu).1.isRws encV_len, (h4 i f u hf hu).2.isRws encL_len⟩, h3⟩

theorem CopyFrames.keeps {w w' : World} {M : Nat} {v : Value} {l : List FEnt} {S : Nat → Prop} (h : CopyFrames w M v l) (hk : Keeps S w w') (hs : ∀ i, S i → i < M) : CopyFrames w' M v l := by
  obtain ⟨us, h1, h2, h3, h4⟩ := h
  have key : ∀ {α : Type} {t : TypeId} {k : Nat} {enc : α → List Value} {u : Value} {l : List α}, OwnRws t k enc w M u l → OwnRws t k enc w' M u l := fun h => h.keeps hk (fun i hi hj => by have := (own_lt h hi).1; have := hs i hj; omega)
  exact ⟨us, h1, key h2, h3, fun i f u hf hu => ⟨key (h4 i f u hf hu).1, key (h4 i f u hf hu).2⟩⟩

def CopyEnd (s : SEnt) (w : World) (e : Ending) (w' : World) : Prop := ∃ uv uf M, e = .returned (.agg #[uv, uf, .int .i64 s.asks]) ∧ Below w.heap.size w w' ∧ w.heap.size ≤ M ∧ M ≤ w'.heap.size ∧
  OwnRws 39 2 encV w' w.heap.size uv s.vals ∧ (∀ g, OwnB uv g → g < M) ∧ CopyFrames w' M uf s.frames

def CopyJ (l : List FEnt) (us : List (Value × Value)) (M : Nat) (vf : Value) (w1 w' : World) (us' : List (Value × Value)) (k : Nat) : Prop :=
  k ≤ l.length ∧ Keeps (OwnB vf) w1 w' ∧ us'.length = l.length ∧ OwnRws 42 5 encF w' M vf (l.zip us') ∧
    (∀ (i : Nat) (f : FEnt) (u : Value × Value), i < k → l[i]? = some f → us'[i]? = some u → OwnRws 39 2 encV w' M u.1 f.locals ∧ OwnRws 44 2 encL w' M u.2 f.labels) ∧
    ∀ i, k ≤ i → us'[i]? = us[i]?

def CopyS (B X : Nat) (vf u x : Value) (w : World) : Prop := w.cell? ⟨B, 1, none⟩ = some vf ∧ w.cell? ⟨X, 2, none⟩ = some u ∧ w.cell? ⟨X, 4, none⟩ = some x

theorem CopyS.keeps {B X : Nat} {vf u x : Value} {w w' : World} {S : Nat → Prop} (h : CopyS B X vf u x w) (hk : Keeps S w w') (hB : B < w.heap.size ∧ ¬ S B) (hX : X < w.heap.size ∧ ¬ S X) : CopyS B X vf u x w' :=
  ⟨(World.cell?_of_block (a := ⟨B, 1, none⟩) (hk.block B hB.1 hB.2)).trans h.1, (World.cell?_of_block (a := ⟨X, 2, none⟩) (hk.block X hX.1 hX.2)).trans h.2.1, (World.cell?_of_block (a := ⟨X, 4, none⟩) (hk.block X hX.1 hX.2)).trans h.2.2⟩

theorem frames_one {w : World} {l : List FEnt} {us : List (Value × Value)} (h : ∀ (i : Nat) (f : FEnt) (u : Value × Value), l[i]? = some f → us[i]? = some u → IsRws 2 encV w u.1 f.locals ∧ IsRws 2 encL w u.2 f.labels) :
    ∀ y ∈ l.zip us, ∀ u ∈ encF y, u.oneCell' = true := by
  intro y hy u hu
  obtain ⟨i, hi⟩ := List.mem_iff_getElem?.1 hy
  obtain ⟨h1, h2⟩ := List.getElem?_zip_eq_some.1 hi
  obtain ⟨⟨a, c, e1, _⟩, a2, c2, e2, _⟩ := h i _ _ h1 h2
  simp only [encF, e1, e2, List.mem_cons, List.not_mem_nil, or_false] at hu
  rcases hu with rfl | rfl | rfl | rfl | rfl <;> rfl

set_option maxRecDepth 100000 in
set_option maxHeartbeats 4000000 in
theorem copyState_any (uv uf : Value) (s : SEnt) (w : World) (hst : IsState w uv uf s) (hl1 : s.vals.length ≤ 1000) (hl2 : s.frames.length ≤ 1000) (hl3 : ∀ f ∈ s.frames, f.locals.length ≤ 1000 ∧ f.labels.length ≤ 1000) :
    Calls Try.prog 18 #[.agg #[uv, uf, .int .i64 s.asks]] w (CopyEnd s w) := by
  obtain ⟨hv, hf, hok⟩ := id hst
  obtain ⟨av, capv, rfl, hcv1, hcv, _⟩ := id hv
  obtain ⟨us, hu1, hu2, hu3, hu4⟩ := id hf
  obtain ⟨af, capf, rfl, hcf1, hcf⟩ := hf.slice
  unfold maxLen at hcv
  have HL3 := Lib.hid hl3
  have hbx := (Blk.new w #[.slice av s.vals.length capv, .slice af s.frames.length capf, .int .i64 s.asks] 25).alloc (.cells #[.slice none 0 0, .slice none 0 0, .int .i64 0] 25)
  have hbz : Blk ((w.alloc (.cells #[.slice av s.vals.length capv, .slice af s.frames.length capf, .int .i64 s.asks] 25)).alloc (.cells #[.slice none 0 0, .slice none 0 0, .int .i64 0] 25)) (w.heap.size + 1) #[.slice none 0 0, .slice none 0 0, .int .i64 0] 25 := by
    have := Blk.new (w.alloc (.cells #[.slice av s.vals.length capv, .slice af s.frames.length capf, .int .i64 s.asks] 25)) #[.slice none 0 0, .slice none 0 0, .int .i64 0] 25
    rw [World.size_alloc] at this
    exact this
  have hb0 : Below w.heap.size w ((w.alloc (.cells #[.slice av s.vals.length capv, .slice af s.frames.length capf, .int .i64 s.asks] 25)).alloc (.cells #[.slice none 0 0, .slice none 0 0, .int .i64 0] 25)) := ((Below.refl w.heap.size w).alloc (Nat.le_refl _) _).alloc (by simp) _
  have HV := Lib.hid hv
  have HU := Lib.hid hu3
  have HZ := Lib.hid hu2
  have HOKF := Lib.hid hu4
  have HUL := Lib.hid hu1
  have HONE := Lib.hid (frames_one hu3)
  have hzl : (s.frames.zip us).length = s.frames.length := by rw [List.length_zip, hu1, Nat.min_self]
  clear hv hf hst hok hu1 hu2 hu3 hu4 hl3
  go_enter Try.func18, Try.ntmps18
  go_wp2_with fail
  generalize ((w.alloc (.cells #[.slice av s.vals.length capv, .slice af s.frames.length capf, .int .i64 s.asks] 25)).alloc (.cells #[.slice none 0 0, .slice none 0 0, .int .i64 0] 25)) = w0 at hbx hbz hb0 ⊢
  have hX0 : w.heap.size + 1 < w0.heap.size := hbz.lt
  obtain ⟨x0, x1, x2⟩ := hbx.three
  refine wp_region_last (fun w' => w'.cell? ⟨w.heap.size, 1, none⟩ = some (.slice af s.frames.length capf)) 9
    [(0, true), (3, true), (4, true), (1, false), (2, false), (6, true), (5, false), (7, false), (8, true)] (by kernel_rfl) (by kernel_rfl) x1 ?_
  iterate 3 (first | (apply seg_skip rfl rfl; simp only [Act.put, List.setIfInBounds_toArray, List.set_cons_succ, List.set_cons_zero]) | (apply seg_pure rfl rfl rfl; · (rintro w' t0; go_wp2; exact ⟨rfl, rfl, rfl⟩)))
  refine seg_loud rfl rfl ?_
  go_wp2_with fail
  refine ⟨x1, ?_⟩
  refine seg_loud rfl rfl ?_
  go_wp2_with fail
  refine (cloneV_any _ s.vals w0.drew (HV.out.below hb0.drew) (by omega)).mono ?_
  rintro x w2 ⟨v, rfl, hov, hbv'⟩
  have hbv : Below w0.heap.size w0 w2 := below_undrew hbv'
  have hov : OwnRws 39 2 encV w2 w0.heap.size v s.vals := hov
  have hx2 := hbx.below hbv hbx.lt
  have hz2 := hbz.below hbv hbz.lt
  have hb2 := hb0.trans (hbv.mono hb0.size)
  have hsz2 := hbv.size
  clear hbv' hbv hbx hbz hb0 x0 x1 x2
  go_wp2_with fail
  refine ⟨hx2.cell 1, ?_⟩
  iterate 1 (first | (apply seg_skip rfl rfl; simp only [Act.put, List.setIfInBounds_toArray, List.set_cons_succ, List.set_cons_zero]) | (apply seg_pure rfl rfl rfl; · (rintro w' t0; go_wp2; exact ⟨rfl, rfl, rfl⟩)))
  refine seg_loud rfl rfl ?_
  go_wp2_with fail
  refine (cloneF_any _ (s.frames.zip us) w2 (HZ.out.below hb2) (by omega) HONE.out).mono ?_
  rintro x w3 ⟨vf, rfl, hof, hbf⟩
  have hx3 := hx2.below hbf hx2.lt
  have hz3 := hz2.below hbf hz2.lt
  have hb3 := hb2.trans (hbf.mono hb2.size)
  have hov3 := hov.below hbf
  have hsz3 := hbf.size
  obtain ⟨a2, cap2, rfl, _, _, _⟩ := hov3.isRws encV_len
  obtain ⟨a3, cap3, hvf, _, _, _⟩ := hof.isRws encF_len
  rw [hzl] at hvf
  subst hvf
  have f0 := hx3.free 0
  have x0 : w3.cell? ⟨w.heap.size, 0, none⟩ = some (.slice av s.vals.length capv) := hx3.cell 0
  have hkx1 := setKeeps w3 w.heap.size 0 (.slice a2 s.vals.length cap2)
  have hx4 : Blk (w3.setCell ⟨w.heap.size, 0, none⟩ (.slice a2 s.vals.length cap2)) w.heap.size #[.slice a2 s.vals.length cap2, .slice af s.frames.length capf, .int .i64 s.asks] 25 := by
    have := hx3.set 0 (.slice a2 s.vals.length cap2)
    simpa using this
  have hM := hov.block
  have HOV := Lib.hid hov3
  have HOVB := Lib.hid (show ∀ g, OwnB (.slice a2 s.vals.length cap2) g → w0.heap.size ≤ g ∧ g < w2.heap.size from fun g hg => own_lt hov hg)
  have HOF := Lib.hid hof
  clear hov hov3 hof hM hbf
  go_wp2_with fail
  refine ⟨hx3.cell 1, ?_⟩
  refine seg_loud rfl rfl ?_
  go_wp2_with fail
  generalize w3.setCell ⟨w.heap.size, 0, none⟩ (.slice a2 s.vals.length cap2) = w4 at hx4 hkx1 ⊢
  have x1 : w4.cell? ⟨w.heap.size, 1, none⟩ = some (.slice af s.frames.length capf) := hx4.cell 1
  have f1 := hx4.free 1
  refine ⟨x1, ?_⟩
  iterate 1 (first | (apply seg_skip rfl rfl; simp only [Act.put, List.setIfInBounds_toArray, List.set_cons_succ, List.set_cons_zero]) | (apply seg_pure rfl rfl rfl; · (rintro w' t0; go_wp2; exact ⟨rfl, rfl, rfl⟩)))
  refine seg_last rfl rfl ?_
  have hkx2 := setKeeps w4 w.heap.size 1 (.slice a3 s.frames.length cap3)
  have hx5 : Blk (w4.setCell ⟨w.heap.size, 1, none⟩ (.slice a3 s.frames.length cap3)) w.heap.size #[.slice a2 s.vals.length cap2, .slice a3 s.frames.length cap3, .int .i64 s.asks] 25 := by
    have := hx4.set 1 (.slice a3 s.frames.length cap3)
    simpa using this
  have hkx := hkx1.trans hkx2 (fun i h => .inl h)
  clear x0 f0 hx4 hx3 hx2 hkx1
  go_wp2_with fail
  refine ⟨trivial, ?_⟩
  refine NoPanic.normal ?_
  generalize w4.setCell ⟨w.heap.size, 1, none⟩ (.slice a3 s.frames.length cap3) = w1 at hx5 hkx ⊢
  clear x1 f1 hkx2
  have hM0 : w0.heap.size ≤ w2.heap.size := by omega
  have hz1 := hz3.keeps hkx (by omega)
  have hsz1 := hkx.size
  have hb1 := hb3.trans (hkx.below hb3.size (fun i h => by omega))
  have HOV1 := Lib.hid (HOV.out.keeps hkx (fun i hi => by have := HOVB.out i hi; omega))
  have hof1 := HOF.out.keeps hkx (fun i hi => by have := (own_lt HOF.out hi).1; omega)
  have HX5 := Lib.hid hx5
  have HZ1 := Lib.hid hz1
  have hMl := hof1
  clear hMl HOV HOF hx5 hz1 hz3 hz2 hb3 hb2 hkx
  obtain ⟨M, hMM⟩ : ∃ M, w2.heap.size = M := ⟨_, rfl⟩
  rw [hMM] at hof1 hM0 hsz3
  have HOVB := Lib.hid (show ∀ g, OwnB (.slice a2 s.vals.length cap2) g → w0.heap.size ≤ g ∧ g < M by rw [← hMM]; exact HOVB.out)
  clear hMM hsz2
  obtain ⟨x0, x1, x2⟩ := HX5.out.three
  go_wp2_with fail
  clear x0 x1 x2
  refine wp_loop_r (fun a' w' => ∃ (us' : List (Value × Value)) (k : Nat), a' = { tmps := #[slot a' 0, .pointer (some ⟨w.heap.size, 0, none⟩), .pointer (some ⟨w.heap.size + 1, 0, none⟩), slot a' 3, slot a' 4, slot a' 5, slot a' 6, slot a' 7, slot a' 8, slot a' 9, slot a' 10, slot a' 11, slot a' 12, slot a' 13, .slice a3 s.frames.length cap3, .int .i64 s.frames.length, .int .i64 k, slot a' 17, slot a' 18, slot a' 19, slot a' 20, slot a' 21, slot a' 22, slot a' 23, slot a' 24, slot a' 25, slot a' 26, slot a' 27, slot a' 28, slot a' 29, slot a' 30, slot a' 31, slot a' 32, slot a' 33, slot a' 34, slot a' 35, slot a' 36, slot a' 37, slot a' 38], defers := [] } ∧ CopyJ s.frames us M (.slice a3 s.frames.length cap3) w1 w' us' k) (fun a' _ => (s.frames.length - (intOf (a'.tmps.getD 16 undef)).toNat)) ?_ ?_
  · exact ⟨us, 0, rfl, by omega, Keeps.refl _ _, HUL.out, hof1, fun i f u hi => by omega, fun i _ => rfl⟩
  clear hof1
  rintro R a' wr ⟨us', k, hfr, hJ⟩ HR
  obtain ⟨f, hf⟩ : ∃ f, f = slot a' := ⟨_, rfl⟩
  rw [← hf] at hfr
  clear hf
  subst hfr
  obtain ⟨hk, hkk, hul, hof, hold, hnew⟩ := hJ
  have hszr := hkk.size
  have hBM : ∀ g, OwnB (.slice a3 s.frames.length cap3) g → M ≤ g := fun g hg => (own_lt hof hg).1
  have hxr := HX5.out.keeps hkk (fun h => by have := hBM _ h; omega)
  have hbr := hb1.trans (hkk.below hb1.size (fun i h => by have := hBM _ h; omega))
  obtain ⟨x0, x1, x2⟩ := hxr.three
  have HOLD := Lib.hid hold
  have HNEW := Lib.hid hnew
  clear hold hnew
  by_cases hkl : k < s.frames.length
  rotate_left
  · obtain rfl : k = s.frames.length := by omega
    have hzr := HZ1.out.keeps hkk (fun h => by have := hBM _ h; omega)
    obtain ⟨y0, y1, y2⟩ := hzr.three
    have z0 := hzr.free 0
    have z1 := hzr.free 1
    have z2 := hzr.free 2
    have HB := Lib.hid hBM
    have HKK := Lib.hid hkk
    have HOFR := Lib.hid hof
    clear hBM hkk hof
    go_wp2_with fail
    have hx := hzr.set3 (.slice a2 s.vals.length cap2) (.slice a3 s.frames.length cap3) (.int .i64 s.asks)
    have hkx := set3Keeps wr (w.heap.size + 1) (.slice a2 s.vals.length cap2) (.slice a3 s.frames.length cap3) (.int .i64 s.asks)
    refine bodyPost_ret (results_cell1 rfl _ _ rfl hx.loadS) rfl ?_
    have hsf := hkx.size
    refine ⟨_, _, M, rfl, ((hbr.setCell (p := ⟨w.heap.size + 1, 0, none⟩) (by show _ ≤ w.heap.size + 1; omega) _).setCell (p := ⟨w.heap.size + 1, 1, none⟩) (by show _ ≤ w.heap.size + 1; omega) _).setCell (p := ⟨w.heap.size + 1, 2, none⟩) (by show _ ≤ w.heap.size + 1; omega) _, by omega, by omega, ?_, fun g hg => (HOVB.out g hg).2, ?_⟩
    · exact own_base ((HOV1.out.keeps HKK.out (fun i hi hj => by have := HOVB.out i hi; have := HB.out i hj; omega)).keeps hkx (fun i hi => by have := HOVB.out i hi; omega)) (fun i hi => by have := HOVB.out i hi; omega)
    · have hcf : CopyFrames wr M (.slice a3 s.frames.length cap3) s.frames := ⟨us', hul, HOFR.out, HOKF.out, fun i f u hf hu => HOLD.out i f u (List.getElem?_eq_some_iff.1 hf).1 hf hu⟩
      exact hcf.keeps hkx (fun i h => by omega)
  obtain ⟨c, he⟩ : ∃ e, s.frames[k]? = some e := ⟨_, List.getElem?_eq_getElem hkl⟩
  obtain ⟨⟨u, x⟩, hux⟩ : ∃ e, us[k]? = some e := ⟨_, List.getElem?_eq_getElem (by have := HUL.out; omega)⟩
  have hux' : us'[k]? = some (u, x) := (HNEW.out k (Nat.le_refl _)).trans hux
  have hz : (s.frames.zip us')[k]? = some (c, (u, x)) := (List.getElem?_zip_eq_some (z := (c, (u, x)))).2 ⟨he, hux'⟩
  obtain ⟨g, capg, cur, hvg, hg1, hg2, hg3, _, _⟩ := hof.open (by intro h; rw [h] at hz; simp at hz)
  injection hvg with e1 e2 e3
  subst e1 e3
  obtain ⟨aa, capp, hva, _, _, hcells⟩ := hof.isRws encF_len
  obtain ⟨b, off, hbo, hlt, hc⟩ := hcells k _ hz
  injection hva with e4 e5 e6
  rw [← e4] at hbo
  injection hbo with hbo
  injection hbo with e7 e8
  subst e7 e8
  have c0 := hc 0 _ rfl
  have c1 := hc 1 _ rfl
  have c2 := hc 2 _ rfl
  have c3 := hc 3 _ rfl
  have c4 := hc 4 _ rfl
  rw [Nat.zero_add] at c0 c1 c2 c3 c4
  rw [Nat.add_zero] at c0
  obtain ⟨hu, hx⟩ := HU.out k c (u, x) he hux
  obtain ⟨au, capu, hue, hcu1, hcu, _⟩ := id hu
  obtain ⟨ax, capx, hxe, hcx1, hcx, _⟩ := id hx
  simp only at hue hxe
  subst hue hxe
  obtain ⟨hl31, hl32⟩ := HL3.out c (List.mem_of_getElem? he)
  have hal := (Below.refl wr.heap.size wr).alloc (Nat.le_refl _) (.cells #[.int .i64 c.fn, .int .i64 c.pc, .slice au c.locals.length capu, .int .i64 c.base, .slice ax c.labels.length capx] 42)
  have HUa := Lib.hid ((hu.below hbr).below hal)
  have HXa := Lib.hid ((hx.below hbr).below hal)
  have hxa := hxr.below hal hxr.lt
  have hX := Blk.new wr #[.int .i64 c.fn, .int .i64 c.pc, .slice au c.locals.length capu, .int .i64 c.base, .slice ax c.labels.length capx] 42
  have HE := Lib.hid he
  have HZZ := Lib.hid hz
  have HUX := Lib.hid hux'
  have HOFR := Lib.hid hof
  have HKK := Lib.hid hkk
  have HC2 := Lib.hid c2
  have HC4 := Lib.hid c4
  have HG3 := Lib.hid hg3
  have HB := Lib.hid hBM
  clear hu hx he hz hux hux' hof hkk hBM hcells hc e2 e4 e5 e6 hg3
  unfold maxLen at hcu hcx
  go_wp2_with fail
  obtain ⟨X, hXX⟩ : ∃ X, X = wr.heap.size := ⟨_, rfl⟩
  rw [← hXX] at hX ⊢
  have hX1 : wr.heap.size ≤ X := by omega
  clear hXX c0 c1 c2 c3 c4 x0 x1 x2
  generalize wr.alloc (.cells #[.int .i64 c.fn, .int .i64 c.pc, .slice au c.locals.length capu, .int .i64 c.base, .slice ax c.labels.length capx] 42) = wa at hal hxa hX HUa HXa ⊢
  have hS : CopyS w.heap.size X (.slice (some ⟨g, 0, none⟩) s.frames.length cap3) (.slice au c.locals.length capu) (.slice ax c.labels.length capx) wa := ⟨hxa.cell 1, hX.cell 2, hX.cell 4⟩
  have HS := Lib.hid hS
  have hgl : g < wa.heap.size := by have := hal.size; omega
  have hXl := hX.lt
  have hBl := hxa.lt
  have hgB : w.heap.size ≠ g := by omega
  clear hS
  refine wp_region_seq (CopyS w.heap.size X (.slice (some ⟨g, 0, none⟩) s.frames.length cap3) (.slice au c.locals.length capu) (.slice ax c.labels.length capx))
    [(0, true), (1, true), (2, true), (3, true), (4, true), (5, true), (6, true), (7, true), (9, true), (10, true), (8, false), (11, false), (12, true), (13, true), (14, false), (15, true), (16, true), (17, false)] (by kernel_rfl) (by kernel_rfl) HS.out ?_
  clear hX hxa
  iterate 10 (first | (apply seg_skip rfl rfl; simp only [Act.put, List.setIfInBounds_toArray, List.set_cons_succ, List.set_cons_zero]) | (apply seg_pure rfl rfl rfl; · (rintro w' ⟨t0, t1, t2⟩; go_wp2; exact ⟨rfl, rfl, rfl⟩)))
  refine seg_loud rfl rfl ?_
  go_wp2_with fail
  refine (cloneV_any _ c.locals wa.drew HUa.out (by omega)).mono ?_
  rintro y w5 ⟨v1, rfl, ho1, hb5'⟩
  have hb5 : Below wa.heap.size wa w5 := below_undrew hb5'
  have ho1 : OwnRws 39 2 encV w5 wa.heap.size v1 c.locals := ho1
  obtain ⟨p1, q1, rfl, _, _, _⟩ := ho1.isRws encV_len
  have HO1 := Lib.hid ho1
  clear hb5' ho1
  have hsa := hal.size
  go_wp2_with fail
  refine ⟨HS.out.keeps (Keeps.ofBelow (S := fun _ => False) hb5) ⟨hBl, fun h => h⟩ ⟨hXl, fun h => h⟩, ?_⟩
  refine seg_loud rfl rfl ?_
  go_wp2_with fail
  refine (cloneL_any _ c.labels w5 (HXa.out.below hb5) (by omega)).mono ?_
  rintro y w6 ⟨v2, rfl, ho2, hb6⟩
  have hsz5 := hb5.size
  have hsz6 := hb6.size
  have ho1 := own_base (HO1.out.below hb6) (base' := M) (fun g hg => by have := (own_lt HO1.out hg).1; omega)
  have ho1' : ∀ b, OwnB (.slice p1 c.locals.length q1) b → b ≠ g := fun b hb => by have := (own_lt HO1.out hb).1; omega
  have ho2' : ∀ b, OwnB v2 b → b ≠ g := fun b hb => by have := (own_lt ho2 hb).1; omega
  have ho2'' := own_base ho2 (base' := M) (fun g hg => by have := (own_lt ho2 hg).1; omega)
  obtain ⟨p2, q2, rfl, _, _, _⟩ := ho2.isRws encL_len
  have hb56 := hb5.trans (hb6.mono (by omega))
  have hk6 : Keeps (fun _ => False) wr w6 := (Keeps.ofBelow hal).trans (Keeps.ofBelow (S := fun _ => False) hb56) (fun i h => .inl h)
  have hS6 := HS.out.keeps (Keeps.ofBelow (S := fun _ => False) hb56) ⟨hBl, fun h => h⟩ ⟨hXl, fun h => h⟩
  have hof6 := HOFR.out.keeps hk6 (fun _ _ h => h)
  have c2 : w6.cell? ⟨g, k * 5 + 2, none⟩ = some (.slice au c.locals.length capu) := (hk6.cell (p := ⟨g, k * 5 + 2, none⟩) hg2 (fun h => h)).trans HC2.out
  have c4 : w6.cell? ⟨g, k * 5 + 4, none⟩ = some (.slice ax c.labels.length capx) := (hk6.cell (p := ⟨g, k * 5 + 4, none⟩) hg2 (fun h => h)).trans HC4.out
  have hg6 : w6.heap[g]? = some (.cells cur 42) := (hk6.block g hg2 (fun h => h)).trans HG3.out
  have z2 : w6.frozen? ⟨g, k * 5 + 2, none⟩ = false := frozen_of_row w6 g _ cur _ hg6
  have hgl6 : g < w6.heap.size := by omega
  have HO1 := Lib.hid ho1
  have HO1' := Lib.hid ho1'
  have HO2 := Lib.hid ho2''
  have HO2' := Lib.hid ho2'
  have HOF6 := Lib.hid hof6
  have HK6 := Lib.hid hk6
  clear ho1 ho1' ho2 ho2' ho2'' hof6 hk6 hb5 hb6 hb56 hal
  go_wp2_with fail
  refine ⟨hS6, ?_⟩
  iterate 2 (first | (apply seg_skip rfl rfl; simp only [Act.put, List.setIfInBounds_toArray, List.set_cons_succ, List.set_cons_zero]) | (apply seg_pure rfl rfl rfl; · (rintro w' ⟨t0, t1, t2⟩; go_wp2; exact ⟨rfl, rfl, rfl⟩)))
  refine seg_loud rfl rfl ?_
  go_wp2_with fail
  have hk67 := setKeeps w6 g (k * 5 + 2) (.slice p1 c.locals.length q1)
  have hS7 := hS6.keeps hk67 ⟨by omega, fun h => hgB h⟩ ⟨by omega, fun h => by omega⟩
  have hof7 := HOF6.out.set encF_len (i := k) (j := 2) (u := .slice p1 c.locals.length q1) (y := (c, (.slice p1 c.locals.length q1, .slice ax c.labels.length capx))) HZZ.out (by omega) rfl
  have hg7 : (w6.setCell ⟨g, k * 5 + 2, none⟩ (.slice p1 c.locals.length q1)).heap[g]? = some (.cells (cur.setIfInBounds (k * 5 + 2) (.slice p1 c.locals.length q1)) 42) := heap_setCell_same w6 g _ cur _ _ hg6
  have hzz : ((s.frames.zip us').set k (c, (.slice p1 c.locals.length q1, .slice ax c.labels.length capx)))[k]? = some (c, (.slice p1 c.locals.length q1, .slice ax c.labels.length capx)) := by
    rw [List.getElem?_set_self (List.getElem?_eq_some_iff.1 HZZ.out).1]
  have c4' := hof7.cell encF_len (j := 4) hzz rfl
  have hof8 := hof7.set encF_len (i := k) (j := 4) (u := .slice p2 c.labels.length q2) (y := (c, (.slice p1 c.locals.length q1, .slice p2 c.labels.length q2))) hzz (by omega) rfl
  rw [List.set_set, zip_set _ _ _ _ _ HE.out] at hof8
  generalize w6.setCell ⟨g, k * 5 + 2, none⟩ (.slice p1 c.locals.length q1) = w7 at hk67 hS7 hg7 c4' hof8 ⊢
  have z4 : w7.frozen? ⟨g, k * 5 + 4, none⟩ = false := frozen_of_row w7 g _ _ _ hg7
  have hk78 := setKeeps w7 g (k * 5 + 4) (.slice p2 c.labels.length q2)
  have hs67 := hk67.size
  have hS8 := hS7.keeps hk78 ⟨by omega, fun h => hgB h⟩ ⟨by omega, fun h => by omega⟩
  have HOF8 := Lib.hid hof8
  clear hof8 hof7 hzz c2 c4 z2 hg6 hg7
  refine ⟨hS7, ?_⟩
  iterate 2 (first | (apply seg_skip rfl rfl; simp only [Act.put, List.setIfInBounds_toArray, List.set_cons_succ, List.set_cons_zero]) | (apply seg_pure rfl rfl rfl; · (rintro w' ⟨t0, t1, t2⟩; go_wp2; exact ⟨rfl, rfl, rfl⟩)))
  refine seg_loud rfl rfl ?_
  go_wp2_with fail
  refine ⟨hS8, ?_⟩
  refine seg_nil ?_
  refine NoPanic.normal ?_
  have hk68 := hk67.trans hk78 (fun i h => .inl h)
  have hkr8 : Keeps (OwnB (.slice (some ⟨g, 0, none⟩) s.frames.length cap3)) wr _ := (HK6.out.mono (fun i h => h.elim)).trans hk68 (fun i h => .inl (by subst h; rfl))
  generalize w7.setCell ⟨g, k * 5 + 4, none⟩ (.slice p2 c.labels.length q2) = w8 at HOF8 hk68 hkr8 ⊢
  clear hS8 hS7 hS6 z4 c4' hk67 hk78
  go_wp2_with fail
  refine HR.out _ _ ⟨us'.set k (.slice p1 c.locals.length q1, .slice p2 c.labels.length q2), k + 1, rfl, by omega, HKK.out.trans hkr8 (fun i h => .inl h), by simpa using hul, HOF8.out, fun i f u hi hf hu => ?_, fun i hi => ?_⟩ ?_
  · rcases Nat.lt_or_ge i k with hik | hik
    · rw [List.getElem?_set_ne (by omega)] at hu
      obtain ⟨q1, q2⟩ := HOLD.out i f u hik hf hu
      exact ⟨q1.keeps hkr8 (fun b hb => q1.ne HOFR.out (by decide) b hb), q2.keeps hkr8 (fun b hb => q2.ne HOFR.out (by decide) b hb)⟩
    · obtain rfl : i = k := by omega
      rw [List.getElem?_set_self (by omega)] at hu
      injection hu with hu
      subst hu
      rw [HE.out] at hf
      injection hf with hf
      subst hf
      exact ⟨own_keeps HO1.out hk68 (fun b hb => HO1'.out b hb), own_keeps HO2.out hk68 (fun b hb => HO2'.out b hb)⟩
  · rw [List.getElem?_set_ne (by omega)]
    exact HNEW.out i (by omega)
  · simp [intOf]
    omega
end Go.Proofs.Ytpknafidbmnjpaa
