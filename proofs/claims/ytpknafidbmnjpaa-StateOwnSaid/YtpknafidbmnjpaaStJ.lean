/-
  Walk of the statements' own function cut (state).
-/
import Derived.Test.YtpknafidbmnjpaaStG
import Derived.Test.YtpknafidbmnjpaaStH
namespace Go.Proofs.Ytpknafidbmnjpaa
open Go.RowKit

/-- One result, in a cell. -/
theorem results_cell1 {P : Program} {fn : Func} {t0 : Tmp} {ty : TypeId} (h : fn.results = #[.cell t0 ty]) (tmps : Array Value) (w : World) {a : Addr} {v : Value} (ht : tmps.getD t0 undef = .pointer (some a))
    (hl : (loadVar ty a).run P w = .ok v w) : (results fn tmps).run P w = .ok v w := by
  have ht' : tmps[t0]?.getD undef = .pointer (some a) := by simpa using ht
  simp [results, h, ht', asAddr, hl]

def FEnt.cut (f : FEnt) : FEnt := { f with locals := f.locals.take 34, labels := f.labels.take 42 }
def SEnt.cut (s : SEnt) : SEnt := ⟨s.vals.take 30, (s.frames.take 34).map FEnt.cut, s.asks⟩

theorem FEnt.ok.cut {f : FEnt} (h : f.ok) : f.cut.ok := ⟨h.1, h.2.1, h.2.2.1, fun v hv => h.2.2.2.1 v (List.mem_of_mem_take hv), fun v hv => h.2.2.2.2 v (List.mem_of_mem_take hv)⟩
theorem SEnt.ok.cut {s : SEnt} (h : s.ok) : s.cut.ok := ⟨h.1, fun v hv => h.2.1 v (List.mem_of_mem_take hv), fun f hf => by
  obtain ⟨g, hg, rfl⟩ := List.mem_map.1 hf
  exact (h.2.2 g (List.mem_of_mem_take hg)).cut⟩

theorem OwnFrames.base {w : World} {B B' : Nat} {v : Value} {l : List FEnt} (h : OwnFrames w B v l) (hB : B' ≤ B) : OwnFrames w B' v l := by
  obtain ⟨us, h1, h2, h3, h4⟩ := h
  have key : ∀ u, InB B w v u → InB B' w v u := fun u h a n cap he => ⟨Nat.le_trans hB (h a n cap he).1, (h a n cap he).2⟩
  exact ⟨us, h1, own_base h2 (fun k hk => Nat.le_trans hB (own_lt h2 hk).1), h3, fun i f u hf hu => ⟨⟨(h4 i f u hf hu).1.1, key _ (h4 i f u hf hu).1.2⟩, (h4 i f u hf hu).2.1, key _ (h4 i f u hf hu).2.2⟩⟩

/-- A state whose rows lie from B on. -/
def StateIn (w : World) (B : Nat) (uv uf : Value) (s : SEnt) : Prop := IsRws 2 encV w uv s.vals ∧ (∀ a n cap, uv = .slice (some a) n cap → B ≤ a.block) ∧ OwnFrames w B uf s.frames ∧ s.ok

theorem StateIn.isState {w : World} {B : Nat} {uv uf : Value} {s : SEnt} (h : StateIn w B uv uf s) : IsState w uv uf s := ⟨h.1, h.2.2.1.isFrames, h.2.2.2⟩

theorem StateIn.keeps {w w' : World} {B : Nat} {uv uf : Value} {s : SEnt} {S : Nat → Prop} (h : StateIn w B uv uf s) (hk : Keeps S w w') (hs : ∀ i, S i → i < B) : StateIn w' B uv uf s :=
  ⟨h.1.keeps hk (fun a n cap he hj => by have := h.2.1 a n cap he; have := hs _ hj; omega), h.2.1, h.2.2.1.keeps hk hs, h.2.2.2⟩

def CutSEnd (s : SEnt) (w : World) (e : Ending) (w' : World) : Prop := ∃ uv uf, e = .returned (.agg #[uv, uf, .int .i64 s.asks]) ∧ StateIn w' w.heap.size uv uf s.cut ∧ Below w.heap.size w w'

def CutK1 (l : List VEnt) (w0 w' : World) (v : Value) (X : Nat) (cs : Array Value) (t : TypeId) : Prop :=
  Below w0.heap.size w0 w' ∧ Blk w' X cs t ∧ IsRws 2 encV w' v l ∧ (∀ a n cap, v = .slice (some a) n cap → w0.heap.size ≤ a.block ∧ a.block < w'.heap.size ∧ a.block ≠ X) ∧ w0.heap.size ≤ X

def CutS1 (X : Nat) (v : Value) (n : Int) (w : World) : Prop := w.cell? ⟨X, 0, none⟩ = some v ∧ w.cell? ⟨X, 2, none⟩ = some (.int .i64 n)

def CutSJ (s : SEnt) (O : Nat) (v : Value) (w1 w' : World) (vf : Value) (k : Nat) : Prop :=
  k ≤ s.frames.length ∧ k ≤ 34 ∧ Keeps (fun i => i = O) w1 w' ∧ Blk w' O #[v, vf, .int .i64 s.asks] 25 ∧ OwnFrames w' w1.heap.size vf ((s.frames.take k).map FEnt.cut)

def CutS6 (X : Nat) (a b : Int) (v : Value) (n : Int) (w : World) : Prop := w.cell? ⟨X, 0, none⟩ = some (.int .i64 a) ∧ w.cell? ⟨X, 1, none⟩ = some (.int .i64 b) ∧ w.cell? ⟨X, 2, none⟩ = some v ∧ w.cell? ⟨X, 3, none⟩ = some (.int .i64 n)

def CutLJ (l : List LEnt) (G : Nat) (cs : Value → Array Value) (w6 w' : World) (v : Value) (m : Nat) : Prop :=
  m ≤ l.length ∧ m ≤ 42 ∧ OwnRws 44 2 encL w' w6.heap.size v (l.take m) ∧ Blk w' G (cs v) 42 ∧ Keeps (fun i => i = G) w6 w'

def CutS10 (G X : Nat) (v v2 : Value) (b off m : Nat) (e : LEnt) (w : World) : Prop :=
  w.cell? ⟨G, 4, none⟩ = some v ∧ w.cell? ⟨X, 4, none⟩ = some v2 ∧ w.cell? ⟨b, off + m * 2, none⟩ = some (.int .i64 e.pos) ∧ w.cell? ⟨b, off + m * 2 + 1, none⟩ = some (.int .i64 e.height)

theorem CutS10.keeps {G X : Nat} {v v2 : Value} {b off m : Nat} {e : LEnt} {w w' : World} {S : Nat → Prop} (h : CutS10 G X v v2 b off m e w) (hk : Keeps S w w') (hG : G < w.heap.size ∧ ¬ S G) (hX : X < w.heap.size ∧ ¬ S X) (hb : b < w.heap.size ∧ ¬ S b) :
    CutS10 G X v v2 b off m e w' :=
  ⟨(World.cell?_of_block (a := ⟨G, 4, none⟩) (hk.block G hG.1 hG.2)).trans h.1, (World.cell?_of_block (a := ⟨X, 4, none⟩) (hk.block X hX.1 hX.2)).trans h.2.1, (World.cell?_of_block (a := ⟨b, off + m * 2, none⟩) (hk.block b hb.1 hb.2)).trans h.2.2.1,
    (World.cell?_of_block (a := ⟨b, off + m * 2 + 1, none⟩) (hk.block b hb.1 hb.2)).trans h.2.2.2⟩

theorem Keeps.cell {S : Nat → Prop} {w w' : World} (h : Keeps S w w') {p : Addr} (hp : p.block < w.heap.size) (hs : ¬ S p.block) : w'.cell? p = w.cell? p := World.cell?_of_block (h.block p.block hp hs)

theorem Blk.old5 {w : World} {X : Nat} {t : TypeId} {x0 x1 x2 x3 x4 : Value} (h : Blk w X #[x0, x1, x2, x3, x4] t) (y0 y1 y2 y3 y4 : Value) :
    Blk (((((w.setCell ⟨X, 0, none⟩ y0).setCell ⟨X, 1, none⟩ y1).setCell ⟨X, 2, none⟩ y2).setCell ⟨X, 3, none⟩ y3).setCell ⟨X, 4, none⟩ y4) X #[y0, y1, y2, y3, y4] t := by
  have := ((((h.set 0 y0).set 1 y1).set 2 y2).set 3 y3).set 4 y4
  simpa using this

theorem below_setF {w w1 : World} {X B : Nat} (h : Below B w w1) (hX : B ≤ X) (y0 y1 y2 y3 y4 : Value) :
    Below B w (((((w1.setCell ⟨X, 0, none⟩ y0).setCell ⟨X, 1, none⟩ y1).setCell ⟨X, 2, none⟩ y2).setCell ⟨X, 3, none⟩ y3).setCell ⟨X, 4, none⟩ y4) :=
  ((((h.setCell hX _).setCell hX _).setCell hX _).setCell hX _).setCell hX _

theorem set5Keeps (w : World) (X : Nat) (y0 y1 y2 y3 y4 : Value) : Keeps (fun k => k = X) w (((((w.setCell ⟨X, 0, none⟩ y0).setCell ⟨X, 1, none⟩ y1).setCell ⟨X, 2, none⟩ y2).setCell ⟨X, 3, none⟩ y3).setCell ⟨X, 4, none⟩ y4) :=
  ((((setKeeps w X 0 y0).trans (setKeeps _ X 1 y1) (fun _ h => .inl h)).trans (setKeeps _ X 2 y2) (fun _ h => .inl h)).trans (setKeeps _ X 3 y3) (fun _ h => .inl h)).trans (setKeeps _ X 4 y4) (fun _ h => .inl h)

set_option maxRecDepth 100000 in
set_option maxHeartbeats 4000000 in
theorem cutState_any (uv uf : Value) (s : SEnt) (w : World) (hst : IsState w uv uf s) :
    Calls Try.prog 9 #[.agg #[uv, uf, .int .i64 s.asks]] w (CutSEnd s w) := by
  obtain ⟨hv, hf, hok⟩ := id hst
  obtain ⟨av, capv, rfl, hcv1, hcv, _⟩ := id hv
  obtain ⟨af, capf, rfl, hcf1, hcf⟩ := hf.slice
  unfold maxLen at hcv
  have HOK := Lib.hid hok
  have hbx := (Blk.new w #[.slice av s.vals.length capv, .slice af s.frames.length capf, .int .i64 s.asks] 25).alloc (.cells #[.slice none 0 0, .slice none 0 0, .int .i64 0] 25)
  have hbz : Blk ((w.alloc (.cells #[.slice av s.vals.length capv, .slice af s.frames.length capf, .int .i64 s.asks] 25)).alloc (.cells #[.slice none 0 0, .slice none 0 0, .int .i64 0] 25)) (w.heap.size + 1) #[.slice none 0 0, .slice none 0 0, .int .i64 0] 25 := by
    have := Blk.new (w.alloc (.cells #[.slice av s.vals.length capv, .slice af s.frames.length capf, .int .i64 s.asks] 25)) #[.slice none 0 0, .slice none 0 0, .int .i64 0] 25
    rw [World.size_alloc] at this
    exact this
  have hb0 : Below w.heap.size w ((w.alloc (.cells #[.slice av s.vals.length capv, .slice af s.frames.length capf, .int .i64 s.asks] 25)).alloc (.cells #[.slice none 0 0, .slice none 0 0, .int .i64 0] 25)) := ((Below.refl w.heap.size w).alloc (Nat.le_refl _) _).alloc (by simp) _
  have HV := Lib.hid (hv.below (hb0.mono (Nat.le_refl _)))
  have HF := Lib.hid hf
  clear hv hf hst hok
  go_enter Try.func9, Try.ntmps9
  go_wp2_with fail
  generalize ((w.alloc (.cells #[.slice av s.vals.length capv, .slice af s.frames.length capf, .int .i64 s.asks] 25)).alloc (.cells #[.slice none 0 0, .slice none 0 0, .int .i64 0] 25)) = w0 at hbx hbz hb0 HV ⊢
  have hX0 : w.heap.size + 1 < w0.heap.size := hbz.lt
  obtain ⟨A, hA⟩ : ∃ A, s.vals.take 30 = A := ⟨_, rfl⟩
  have HA := Lib.hid hA
  clear hA
  refine wp_cut (fun a' w' => ∃ (v : Value) (O : Nat), a' = { tmps := #[slot a' 0, .pointer (some ⟨w.heap.size, 0, none⟩), .pointer (some ⟨w.heap.size + 1, 0, none⟩), .pointer (some ⟨O, 0, none⟩), slot a' 4, slot a' 5, slot a' 6, slot a' 7, slot a' 8, slot a' 9, slot a' 10, slot a' 11, slot a' 12, slot a' 13, slot a' 14, slot a' 15, slot a' 16, slot a' 17, slot a' 18, slot a' 19, slot a' 20, slot a' 21, slot a' 22, slot a' 23, slot a' 24, slot a' 25, slot a' 26, slot a' 27, slot a' 28, slot a' 29, slot a' 30, slot a' 31, slot a' 32, slot a' 33, slot a' 34, slot a' 35, slot a' 36, slot a' 37, slot a' 38, slot a' 39, slot a' 40, slot a' 41, slot a' 42, slot a' 43, slot a' 44, slot a' 45, slot a' 46, slot a' 47, slot a' 48, slot a' 49, slot a' 50, slot a' 51, slot a' 52, slot a' 53, slot a' 54, slot a' 55, slot a' 56, slot a' 57, slot a' 58, slot a' 59, slot a' 60, slot a' 61, slot a' 62, slot a' 63, slot a' 64, slot a' 65, slot a' 66, slot a' 67], defers := [] } ∧ CutK1 A w0 w' v O #[v, .slice none 0 0, .int .i64 s.asks] 25) ?_ ?_
  · obtain ⟨x0, x1, x2⟩ := hbx.three
    have hS : CutS1 w.heap.size (.slice av s.vals.length capv) s.asks w0 := ⟨x0, x2⟩
    have hSb : ∀ w', Below w0.heap.size w0 w' → CutS1 w.heap.size (.slice av s.vals.length capv) s.asks w' := fun w' hb => ⟨(hb.cell hbx.lt).trans x0, (hb.cell hbx.lt).trans x2⟩
    have HSB := Lib.hid hSb
    clear hSb x0 x1 x2
    refine wp_region_ord (CutS1 w.heap.size (.slice av s.vals.length capv) s.asks) (ord [(0, true), (1, true), (3, true), (4, true)]
      (.fork 2 6 (ord [(5, true), (6, false), (7, false)] .nil) (ord [(2, false), (5, true), (7, false)] .nil))) (by kernel_rfl) (by kernel_rfl) hS ?_
    clear hS
    dsimp only [ord]
    iterate 4 (first | (apply ord_skip rfl rfl; simp only [Act.put, List.setIfInBounds_toArray, List.set_cons_succ, List.set_cons_zero]) | (apply ord_pure rfl rfl rfl; · (rintro w' ⟨t0, t1⟩; go_wp2; exact ⟨rfl, rfl, rfl⟩)))
    refine ord_fork rfl rfl rfl rfl ?_ ?_
    · go_wp2_with fail
      refine (lawVals_any _ s.vals 30 (by omega) w0.drew HV.out).mono ?_
      rintro x w2 ⟨v, rfl, hov, hbv'⟩
      have hbv : Below w0.heap.size w0 w2 := below_undrew hbv'
      have hvi := hov.isRws encV_len
      have hvb := hov.block
      rw [HA.out] at hvi
      have HVI := Lib.hid hvi
      have HVB := Lib.hid hvb
      obtain ⟨av', capv', rfl, _, _, _⟩ := hvi
      clear hov hvb hbv' hbx hbz
      go_wp2_with fail
      refine ⟨HSB.out _ hbv, ?_⟩
      iterate 1 (first | (apply ord_skip rfl rfl; simp only [Act.put, List.setIfInBounds_toArray, List.set_cons_succ, List.set_cons_zero]) | (apply ord_pure rfl rfl rfl; · (rintro w' ⟨t0, t1⟩; go_wp2; exact ⟨rfl, rfl, rfl⟩)))
      refine ord_loud rfl rfl ?_
      have hsz := hbv.size
      have hO := Blk.new w2 #[.slice none 0 0, .slice none 0 0, .int .i64 0] 25
      have hbo := hbv.alloc hsz (.cells #[.slice none 0 0, .slice none 0 0, .int .i64 0] 25)
      have hio := HVI.out.below ((Below.refl w2.heap.size w2).alloc (Nat.le_refl _) (.cells #[.slice none 0 0, .slice none 0 0, .int .i64 0] 25))
      have HIO := Lib.hid hio
      clear hio
      go_wp2_with fail
      obtain ⟨O, hOO⟩ : ∃ O, O = w2.heap.size := ⟨_, rfl⟩
      rw [← hOO] at hO ⊢
      have hO1 : w0.heap.size ≤ O := by omega
      have HVB := Lib.hid (show ∀ a n cap, Value.slice av' A.length capv' = .slice (some a) n cap → w0.heap.size ≤ a.block ∧ a.block < O from fun a n cap h => by have := HVB.out a n cap h; rw [hOO]; exact this)
      clear hOO
      generalize w2.alloc (.cells #[.slice none 0 0, .slice none 0 0, .int .i64 0] 25) = w3 at hO hbo HIO ⊢
      refine ⟨HSB.out _ hbo, ?_⟩
      refine ord_loud rfl rfl ?_
      obtain ⟨x0, x1, x2⟩ := hO.three
      have z0 := hO.free 0
      have z1 := hO.free 1
      have z2 := hO.free 2
      go_wp2_with fail
      have hbs := ((hbo.setCell (p := ⟨O, 0, none⟩) hO1 (.slice av' A.length capv')).setCell (p := ⟨O, 1, none⟩) hO1 (.slice none 0 0)).setCell (p := ⟨O, 2, none⟩) hO1 (.int .i64 s.asks)
      have hkx := set3Keeps w3 O (.slice av' A.length capv') (.slice none 0 0) (.int .i64 s.asks)
      have hOs := hO.set3 (.slice av' A.length capv') (.slice none 0 0) (.int .i64 s.asks)
      refine ⟨HSB.out _ hbs, ?_⟩
      refine ord_nil ?_
      refine NoPanic.normal ?_
      have hOlt := hOs.lt
      refine ⟨rfl, .slice av' A.length capv', O, rfl, hbs, hOs, HIO.out.keeps hkx (fun a n cap h hj => by have := HVB.out a n cap h; omega), fun a n cap h => ?_, hO1⟩
      have := HVB.out a n cap h
      exact ⟨this.1, by omega, by omega⟩
    · have hO := Blk.new w0 #[.slice none 0 0, .slice none 0 0, .int .i64 0] 25
      have hbo := (Below.refl w0.heap.size w0).alloc (Nat.le_refl _) (.cells #[.slice none 0 0, .slice none 0 0, .int .i64 0] 25)
      have hio := HV.out.below hbo
      have HIO := Lib.hid hio
      clear hio hbx hbz
      go_wp2_with fail
      obtain ⟨O, hOO⟩ : ∃ O, O = w0.heap.size := ⟨_, rfl⟩
      rw [← hOO] at hO ⊢
      have hO1 : w0.heap.size ≤ O := by omega
      have hO2 : O < w0.heap.size + 1 := by omega
      have hsz : (w0.alloc (.cells #[.slice none 0 0, .slice none 0 0, .int .i64 0] 25)).heap.size = w0.heap.size + 1 := World.size_alloc _ _
      clear hOO
      refine ⟨HSB.out _ hbo.drew, ?_⟩
      refine ord_loud rfl rfl ?_
      generalize w0.alloc (.cells #[.slice none 0 0, .slice none 0 0, .int .i64 0] 25) = w3 at hO hbo HIO hsz ⊢
      go_wp2_with fail
      refine (lawVals_any _ s.vals 30 (by omega) w3.drew HIO.out).mono ?_
      rintro x w4 ⟨v, rfl, hov, hbv'⟩
      have hbv : Below w3.heap.size w3 w4 := below_undrew hbv'
      have hvi := hov.isRws encV_len
      have hvb := hov.block
      rw [HA.out] at hvi
      have HVI := Lib.hid hvi
      have HVB := Lib.hid (show ∀ a n cap, v = .slice (some a) n cap → w3.heap.size ≤ a.block ∧ a.block < w4.heap.size from hvb)
      obtain ⟨av', capv', rfl, _, _, _⟩ := hvi
      have hbw := hbo.trans (hbv.mono (by omega))
      have hO4 := hO.below hbv (by omega)
      clear hov hvb hbv' hbv hO hbo HIO
      go_wp2_with fail
      refine ⟨HSB.out _ hbw, ?_⟩
      iterate 1 (first | (apply ord_skip rfl rfl; simp only [Act.put, List.setIfInBounds_toArray, List.set_cons_succ, List.set_cons_zero]) | (apply ord_pure rfl rfl rfl; · (rintro w' ⟨t0, t1⟩; go_wp2; exact ⟨rfl, rfl, rfl⟩)))
      refine ord_loud rfl rfl ?_
      obtain ⟨x0, x1, x2⟩ := hO4.three
      have z0 := hO4.free 0
      have z1 := hO4.free 1
      have z2 := hO4.free 2
      go_wp2_with fail
      have hbs := ((hbw.setCell (p := ⟨O, 0, none⟩) hO1 (.slice av' A.length capv')).setCell (p := ⟨O, 1, none⟩) hO1 (.slice none 0 0)).setCell (p := ⟨O, 2, none⟩) hO1 (.int .i64 s.asks)
      have hkx := set3Keeps w4 O (.slice av' A.length capv') (.slice none 0 0) (.int .i64 s.asks)
      have hOs := hO4.set3 (.slice av' A.length capv') (.slice none 0 0) (.int .i64 s.asks)
      refine ⟨HSB.out _ hbs, ?_⟩
      refine ord_nil ?_
      refine NoPanic.normal ?_
      have hsx := hkx.size
      refine ⟨rfl, .slice av' A.length capv', O, rfl, hbs, hOs, HVI.out.keeps hkx (fun a n cap h hj => by have := HVB.out a n cap h; omega), fun a n cap h => ?_, hO1⟩
      have := HVB.out a n cap h
      exact ⟨by omega, by omega, by omega⟩
  · rintro a' w1 ⟨v, O, hfr, hb1', hO, hvi, hvb, hO1⟩
    obtain ⟨f, hf⟩ : ∃ f, f = slot a' := ⟨_, rfl⟩
    rw [← hf] at hfr
    clear hf
    subst hfr
    have hOlt := hO.lt
    have hbx1 := hbx.below hb1' hbx.lt
    have hbz1 := hbz.below hb1' hbz.lt
    have hb1 := hb0.trans (hb1'.mono hb0.size)
    have HVI := Lib.hid hvi
    have HVB := Lib.hid hvb
    obtain ⟨av', capv', rfl, _, _, _⟩ := hvi
    have hsz1 := hb1'.size
    clear hvb hb1' hbx hbz hb0 HV
    have HBX := Lib.hid hbx1
    have HBZ := Lib.hid hbz1
    clear hbx1 hbz1
    go_wp2_with fail
    refine wp_loop_x (fun a' w' => ∃ (vf : Value) (k : Nat), a' = { tmps := #[slot a' 0, .pointer (some ⟨w.heap.size, 0, none⟩), .pointer (some ⟨w.heap.size + 1, 0, none⟩), .pointer (some ⟨O, 0, none⟩), .int .i64 k, slot a' 5, slot a' 6, slot a' 7, slot a' 8, slot a' 9, slot a' 10, slot a' 11, slot a' 12, slot a' 13, slot a' 14, slot a' 15, slot a' 16, slot a' 17, slot a' 18, slot a' 19, slot a' 20, slot a' 21, slot a' 22, slot a' 23, slot a' 24, slot a' 25, slot a' 26, slot a' 27, slot a' 28, slot a' 29, slot a' 30, slot a' 31, slot a' 32, slot a' 33, slot a' 34, slot a' 35, slot a' 36, slot a' 37, slot a' 38, slot a' 39, slot a' 40, slot a' 41, slot a' 42, slot a' 43, slot a' 44, slot a' 45, slot a' 46, slot a' 47, slot a' 48, slot a' 49, slot a' 50, slot a' 51, slot a' 52, slot a' 53, slot a' 54, slot a' 55, slot a' 56, slot a' 57, slot a' 58, slot a' 59, slot a' 60, slot a' 61, slot a' 62, slot a' 63, slot a' 64, slot a' 65, slot a' 66, slot a' 67], defers := [] } ∧ CutSJ s O (.slice av' A.length capv') w1 w' vf k) (fun a' _ => (35 - (intOf (a'.tmps.getD 4 undef)).toNat))
      (fun a' w' => ∃ (vf : Value), a' = { tmps := #[slot a' 0, .pointer (some ⟨w.heap.size, 0, none⟩), .pointer (some ⟨w.heap.size + 1, 0, none⟩), .pointer (some ⟨O, 0, none⟩), slot a' 4, slot a' 5, slot a' 6, slot a' 7, slot a' 8, slot a' 9, slot a' 10, slot a' 11, slot a' 12, slot a' 13, slot a' 14, slot a' 15, slot a' 16, slot a' 17, slot a' 18, slot a' 19, slot a' 20, slot a' 21, slot a' 22, slot a' 23, slot a' 24, slot a' 25, slot a' 26, slot a' 27, slot a' 28, slot a' 29, slot a' 30, slot a' 31, slot a' 32, slot a' 33, slot a' 34, slot a' 35, slot a' 36, slot a' 37, slot a' 38, slot a' 39, slot a' 40, slot a' 41, slot a' 42, slot a' 43, slot a' 44, slot a' 45, slot a' 46, slot a' 47, slot a' 48, slot a' 49, slot a' 50, slot a' 51, slot a' 52, slot a' 53, slot a' 54, slot a' 55, slot a' 56, slot a' 57, slot a' 58, slot a' 59, slot a' 60, slot a' 61, slot a' 62, slot a' 63, slot a' 64, slot a' 65, slot a' 66, slot a' 67], defers := [] } ∧ Keeps (fun i => i = O) w1 w' ∧ Blk w' O #[.slice av' A.length capv', vf, .int .i64 s.asks] 25 ∧ OwnFrames w' w1.heap.size vf s.cut.frames) ?_ ?_ ?_
    · exact ⟨_, 0, rfl, by omega, by omega, Keeps.refl _ _, hO, OwnFrames.nil _ _⟩
    · clear hO
      rintro R Y a' w2 ⟨vf, k, hfr, hJ⟩ HR HY
      obtain ⟨f, hf⟩ : ∃ f, f = slot a' := ⟨_, rfl⟩
      rw [← hf] at hfr
      clear hf
      subst hfr
      obtain ⟨hk, hk34, hkk, hO, hof⟩ := hJ
      have hbs := HBX.out.keeps hkk (by omega)
      obtain ⟨x0, x1, x2⟩ := hbs.three
      have hsz2 := hkk.size
      by_cases hkl : k < s.frames.length
      rotate_left
      · obtain rfl : k = s.frames.length := by omega
        go_wp2_with fail
        refine HY.out _ _ ⟨vf, rfl, hkk, hO, ?_⟩
        show OwnFrames _ _ _ ((s.frames.take 34).map FEnt.cut)
        rw [List.take_of_length_le (by omega)]
        rw [List.take_of_length_le (by omega)] at hof
        exact hof
      by_cases hk3 : k < 34
      rotate_left
      · obtain rfl : k = 34 := by omega
        go_wp2_with fail
        exact HY.out _ _ ⟨vf, rfl, hkk, hO, hof⟩
      obtain ⟨c, he⟩ : ∃ e, s.frames[k]? = some e := ⟨_, List.getElem?_eq_getElem hkl⟩
      have hbw : Below w.heap.size w w2 := hb1.trans (hkk.below hb1.size (fun i h => by omega))
      obtain ⟨b, off, u, x, rfl, hlt, ⟨c0', c1', c2', c3', c4'⟩, hu, hx, hokc⟩ := HF.out.get he
      have c0 := (hbw.cell (p := ⟨b, off + k * 5, none⟩) hlt).trans c0'
      have c1 := (hbw.cell (p := ⟨b, off + k * 5 + 1, none⟩) hlt).trans c1'
      have c2 := (hbw.cell (p := ⟨b, off + k * 5 + 2, none⟩) hlt).trans c2'
      have c3 := (hbw.cell (p := ⟨b, off + k * 5 + 3, none⟩) hlt).trans c3'
      have c4 := (hbw.cell (p := ⟨b, off + k * 5 + 4, none⟩) hlt).trans c4'
      clear c0' c1' c2' c3' c4'
      have hal : Below w2.heap.size w2 (w2.alloc (.cells #[.int .i64 c.fn, .int .i64 c.pc, u, .int .i64 c.base, x] 42)) := (Below.refl _ _).alloc (Nat.le_refl _) _
      have HU := Lib.hid ((hu.below hbw).below hal)
      have HXW := Lib.hid hx
      have HBW := Lib.hid hbw
      obtain ⟨au, capu, rfl, _, hcu, _⟩ := hu
      obtain ⟨ax, capx, rfl, _, hcx, _⟩ := hx
      unfold maxLen at hcu hcx
      have HE := Lib.hid he
      have HOKC := Lib.hid hokc
      have HOFR := Lib.hid hof
      have HOB := Lib.hid hO
      have hka := (Keeps.refl (fun _ => False) w2).alloc (.cells #[.int .i64 c.fn, .int .i64 c.pc, .slice au c.locals.length capu, .int .i64 c.base, .slice ax c.labels.length capx] 42)
      have hxa := Blk.new w2 #[.int .i64 c.fn, .int .i64 c.pc, .slice au c.locals.length capu, .int .i64 c.base, .slice ax c.labels.length capx] 42
      clear he hokc hof hO hal
      go_wp2_with fail
      clear x0 x1 x2 c0 c1 c2 c3 c4 hbs hbw
      obtain ⟨X, hX⟩ : ∃ X, X = w2.heap.size := ⟨_, rfl⟩
      rw [← hX] at hxa ⊢
      have hX1 : w2.heap.size ≤ X := by omega
      clear hX
      generalize w2.alloc (.cells #[.int .i64 c.fn, .int .i64 c.pc, .slice au c.locals.length capu, .int .i64 c.base, .slice ax c.labels.length capx] 42) = wa at hka hxa HU ⊢
      have hXlt := hxa.lt
      obtain ⟨AL, hAL⟩ : ∃ A, c.locals.take 34 = A := ⟨_, rfl⟩
      have HAL := Lib.hid hAL
      clear hAL
      have hsza := hka.size
      refine wp_cut (fun a' w' => ∃ (g : Value) (G : Nat), a' = { tmps := #[slot a' 0, .pointer (some ⟨w.heap.size, 0, none⟩), .pointer (some ⟨w.heap.size + 1, 0, none⟩), .pointer (some ⟨O, 0, none⟩), .int .i64 k, .pointer (some ⟨X, 0, none⟩), .pointer (some ⟨G, 0, none⟩), slot a' 7, slot a' 8, slot a' 9, slot a' 10, slot a' 11, slot a' 12, slot a' 13, slot a' 14, slot a' 15, slot a' 16, slot a' 17, slot a' 18, slot a' 19, slot a' 20, slot a' 21, slot a' 22, slot a' 23, slot a' 24, slot a' 25, slot a' 26, slot a' 27, slot a' 28, slot a' 29, slot a' 30, slot a' 31, slot a' 32, slot a' 33, slot a' 34, slot a' 35, slot a' 36, slot a' 37, slot a' 38, slot a' 39, slot a' 40, slot a' 41, slot a' 42, slot a' 43, slot a' 44, slot a' 45, slot a' 46, slot a' 47, slot a' 48, slot a' 49, slot a' 50, slot a' 51, slot a' 52, slot a' 53, slot a' 54, slot a' 55, slot a' 56, slot a' 57, slot a' 58, slot a' 59, slot a' 60, slot a' 61, slot a' 62, slot a' 63, slot a' 64, slot a' 65, slot a' 66, slot a' 67], defers := [] } ∧ CutK1 AL wa w' g G #[.int .i64 c.fn, .int .i64 c.pc, g, .int .i64 c.base, .slice none 0 0] 42) ?_ ?_
      · obtain ⟨x0, x1, x2, x3, x4⟩ := hxa.five
        have hS : CutS6 X c.fn c.pc (.slice au c.locals.length capu) c.base wa := ⟨x0, x1, x2, x3⟩
        have hSb : ∀ w', Below wa.heap.size wa w' → CutS6 X c.fn c.pc (.slice au c.locals.length capu) c.base w' := fun w' hb => ⟨(hb.cell hxa.lt).trans x0, (hb.cell hxa.lt).trans x1, (hb.cell hxa.lt).trans x2, (hb.cell hxa.lt).trans x3⟩
        have HSB := Lib.hid hSb
        clear hSb x0 x1 x2 x3 x4 hxa hka
        refine wp_region_ord (CutS6 X c.fn c.pc (.slice au c.locals.length capu) c.base) (ord [(0, true), (1, true), (2, true), (3, true), (4, true), (5, true), (7, true), (8, true)]
          (.fork 6 10 (ord [(9, true), (10, false), (11, false)] .nil) (ord [(6, false), (9, true), (11, false)] .nil))) (by kernel_rfl) (by kernel_rfl) hS ?_
        clear hS
        dsimp only [ord]
        iterate 8 (first | (apply ord_skip rfl rfl; simp only [Act.put, List.setIfInBounds_toArray, List.set_cons_succ, List.set_cons_zero]) | (apply ord_pure rfl rfl rfl; · (rintro w' ⟨t0, t1, t2, t3⟩; go_wp2; exact ⟨rfl, rfl, rfl⟩)))
        refine ord_fork rfl rfl rfl rfl ?_ ?_
        · go_wp2_with fail
          refine (lawVals_any _ c.locals 34 (by omega) wa.drew HU.out).mono ?_
          rintro y w2' ⟨v, rfl, hov, hbv'⟩
          have hbv : Below wa.heap.size wa w2' := below_undrew hbv'
          have hvi := hov.isRws encV_len
          have hvb := hov.block
          rw [HAL.out] at hvi
          have HVI := Lib.hid hvi
          have HVB := Lib.hid hvb
          obtain ⟨ag, capg, rfl, _, _, _⟩ := hvi
          clear hov hvb hbv'
          go_wp2_with fail
          refine ⟨HSB.out _ hbv, ?_⟩
          iterate 1 (first | (apply ord_skip rfl rfl; simp only [Act.put, List.setIfInBounds_toArray, List.set_cons_succ, List.set_cons_zero]) | (apply ord_pure rfl rfl rfl; · (rintro w' ⟨t0, t1, t2, t3⟩; go_wp2; exact ⟨rfl, rfl, rfl⟩)))
          refine ord_loud rfl rfl ?_
          have hsz := hbv.size
          have hG := Blk.new w2' #[.int .i64 0, .int .i64 0, .slice none 0 0, .int .i64 0, .slice none 0 0] 42
          have hbo := hbv.alloc hsz (.cells #[.int .i64 0, .int .i64 0, .slice none 0 0, .int .i64 0, .slice none 0 0] 42)
          have hio := HVI.out.below ((Below.refl w2'.heap.size w2').alloc (Nat.le_refl _) (.cells #[.int .i64 0, .int .i64 0, .slice none 0 0, .int .i64 0, .slice none 0 0] 42))
          have HIO := Lib.hid hio
          clear hio
          go_wp2_with fail
          obtain ⟨G, hGG⟩ : ∃ G, G = w2'.heap.size := ⟨_, rfl⟩
          rw [← hGG] at hG ⊢
          have hG1 : wa.heap.size ≤ G := by omega
          have HVB := Lib.hid (show ∀ a n cap, Value.slice ag AL.length capg = .slice (some a) n cap → wa.heap.size ≤ a.block ∧ a.block < G from fun a n cap h => by have := HVB.out a n cap h; rw [hGG]; exact this)
          clear hGG
          generalize w2'.alloc (.cells #[.int .i64 0, .int .i64 0, .slice none 0 0, .int .i64 0, .slice none 0 0] 42) = w3 at hG hbo HIO ⊢
          refine ⟨HSB.out _ hbo, ?_⟩
          refine ord_loud rfl rfl ?_
          obtain ⟨x0, x1, x2, x3, x4⟩ := hG.five
          have z0 := hG.free 0
          have z1 := hG.free 1
          have z2 := hG.free 2
          have z3 := hG.free 3
          have z4 := hG.free 4
          go_wp2_with fail
          have hbs := below_setF hbo hG1 (.int .i64 c.fn) (.int .i64 c.pc) (.slice ag AL.length capg) (.int .i64 c.base) (.slice none 0 0)
          have hkx := set5Keeps w3 G (.int .i64 c.fn) (.int .i64 c.pc) (.slice ag AL.length capg) (.int .i64 c.base) (.slice none 0 0)
          have hOs := hG.old5 (.int .i64 c.fn) (.int .i64 c.pc) (.slice ag AL.length capg) (.int .i64 c.base) (.slice none 0 0)
          refine ⟨HSB.out _ hbs, ?_⟩
          refine ord_nil ?_
          refine NoPanic.normal ?_
          have hOlt := hOs.lt
          refine ⟨rfl, .slice ag AL.length capg, G, rfl, hbs, hOs, HIO.out.keeps hkx (fun a n cap h hj => by have := HVB.out a n cap h; omega), fun a n cap h => ?_, hG1⟩
          have := HVB.out a n cap h
          exact ⟨this.1, by omega, by omega⟩
        · have hG := Blk.new wa #[.int .i64 0, .int .i64 0, .slice none 0 0, .int .i64 0, .slice none 0 0] 42
          have hbo := (Below.refl wa.heap.size wa).alloc (Nat.le_refl _) (.cells #[.int .i64 0, .int .i64 0, .slice none 0 0, .int .i64 0, .slice none 0 0] 42)
          have HIO := Lib.hid (HU.out.below hbo)
          go_wp2_with fail
          obtain ⟨G, hGG⟩ : ∃ G, G = wa.heap.size := ⟨_, rfl⟩
          rw [← hGG] at hG ⊢
          have hG1 : wa.heap.size ≤ G := by omega
          have hG2 : G < wa.heap.size + 1 := by omega
          have hsz : (wa.alloc (.cells #[.int .i64 0, .int .i64 0, .slice none 0 0, .int .i64 0, .slice none 0 0] 42)).heap.size = wa.heap.size + 1 := World.size_alloc _ _
          clear hGG
          refine ⟨HSB.out _ hbo.drew, ?_⟩
          refine ord_loud rfl rfl ?_
          generalize wa.alloc (.cells #[.int .i64 0, .int .i64 0, .slice none 0 0, .int .i64 0, .slice none 0 0] 42) = w3 at hG hbo HIO hsz ⊢
          go_wp2_with fail
          refine (lawVals_any _ c.locals 34 (by omega) w3.drew HIO.out).mono ?_
          rintro y w4 ⟨v, rfl, hov, hbv'⟩
          have hbv : Below w3.heap.size w3 w4 := below_undrew hbv'
          have hvi := hov.isRws encV_len
          have hvb := hov.block
          rw [HAL.out] at hvi
          have HVI := Lib.hid hvi
          have HVB := Lib.hid (show ∀ a n cap, v = .slice (some a) n cap → w3.heap.size ≤ a.block ∧ a.block < w4.heap.size from hvb)
          obtain ⟨ag, capg, rfl, _, _, _⟩ := hvi
          have hbw := hbo.trans (hbv.mono (by omega))
          have hG4 := hG.below hbv (by omega)
          clear hov hvb hbv' hbv hG hbo HIO
          go_wp2_with fail
          refine ⟨HSB.out _ hbw, ?_⟩
          iterate 1 (first | (apply ord_skip rfl rfl; simp only [Act.put, List.setIfInBounds_toArray, List.set_cons_succ, List.set_cons_zero]) | (apply ord_pure rfl rfl rfl; · (rintro w' ⟨t0, t1, t2, t3⟩; go_wp2; exact ⟨rfl, rfl, rfl⟩)))
          refine ord_loud rfl rfl ?_
          obtain ⟨x0, x1, x2, x3, x4⟩ := hG4.five
          have z0 := hG4.free 0
          have z1 := hG4.free 1
          have z2 := hG4.free 2
          have z3 := hG4.free 3
          have z4 := hG4.free 4
          go_wp2_with fail
          have hbs := below_setF hbw hG1 (.int .i64 c.fn) (.int .i64 c.pc) (.slice ag AL.length capg) (.int .i64 c.base) (.slice none 0 0)
          have hkx := set5Keeps w4 G (.int .i64 c.fn) (.int .i64 c.pc) (.slice ag AL.length capg) (.int .i64 c.base) (.slice none 0 0)
          have hOs := hG4.old5 (.int .i64 c.fn) (.int .i64 c.pc) (.slice ag AL.length capg) (.int .i64 c.base) (.slice none 0 0)
          refine ⟨HSB.out _ hbs, ?_⟩
          refine ord_nil ?_
          refine NoPanic.normal ?_
          have hsx := hkx.size
          refine ⟨rfl, .slice ag AL.length capg, G, rfl, hbs, hOs, HVI.out.keeps hkx (fun a n cap h hj => by have := HVB.out a n cap h; omega), fun a n cap h => ?_, hG1⟩
          have := HVB.out a n cap h
          exact ⟨by omega, by omega, by omega⟩
      · rintro a' w6 ⟨g, G, hfr, hb6, hG, hgi, hgb, hG1⟩
        obtain ⟨f, hf⟩ : ∃ f, f = slot a' := ⟨_, rfl⟩
        rw [← hf] at hfr
        clear hf
        subst hfr
        have hk6 : Keeps (fun _ => False) w2 w6 := hka.trans (Keeps.ofBelow (S := fun _ => False) hb6) (fun i h => .inl h)
        have HBW6 := Lib.hid (HBW.out.trans (hk6.below HBW.out.size (fun i h => h.elim)))
        have hX6 := hxa.below hb6 hXlt
        have HX6 := Lib.hid hX6
        have HGI := Lib.hid hgi
        have HGB := Lib.hid hgb
        obtain ⟨ag, capg, rfl, _, _, _⟩ := hgi
        have hsz6 := hb6.size
        have hGlt := hG.lt
        have HRO := HR
        have HYO := HY
        clear HR HY hgb hb6 hX6 hxa hka HU
        go_wp2_with fail
        refine wp_loop_x (fun a' w' => ∃ (v : Value) (m : Nat), a' = { tmps := #[slot a' 0, .pointer (some ⟨w.heap.size, 0, none⟩), .pointer (some ⟨w.heap.size + 1, 0, none⟩), .pointer (some ⟨O, 0, none⟩), .int .i64 k, .pointer (some ⟨X, 0, none⟩), .pointer (some ⟨G, 0, none⟩), .int .i64 m, slot a' 8, slot a' 9, slot a' 10, slot a' 11, slot a' 12, slot a' 13, slot a' 14, slot a' 15, slot a' 16, slot a' 17, slot a' 18, slot a' 19, slot a' 20, slot a' 21, slot a' 22, slot a' 23, slot a' 24, slot a' 25, slot a' 26, slot a' 27, slot a' 28, slot a' 29, slot a' 30, slot a' 31, slot a' 32, slot a' 33, slot a' 34, slot a' 35, slot a' 36, slot a' 37, slot a' 38, slot a' 39, slot a' 40, slot a' 41, slot a' 42, slot a' 43, slot a' 44, slot a' 45, slot a' 46, slot a' 47, slot a' 48, slot a' 49, slot a' 50, slot a' 51, slot a' 52, slot a' 53, slot a' 54, slot a' 55, slot a' 56, slot a' 57, slot a' 58, slot a' 59, slot a' 60, slot a' 61, slot a' 62, slot a' 63, slot a' 64, slot a' 65, slot a' 66, slot a' 67], defers := [] } ∧ CutLJ c.labels G (fun v => #[.int .i64 c.fn, .int .i64 c.pc, .slice ag AL.length capg, .int .i64 c.base, v]) w6 w' v m) (fun a' _ => (43 - (intOf (a'.tmps.getD 7 undef)).toNat))
          (fun a' w' => ∃ (v : Value), a' = { tmps := #[slot a' 0, .pointer (some ⟨w.heap.size, 0, none⟩), .pointer (some ⟨w.heap.size + 1, 0, none⟩), .pointer (some ⟨O, 0, none⟩), .int .i64 k, .pointer (some ⟨X, 0, none⟩), .pointer (some ⟨G, 0, none⟩), slot a' 7, slot a' 8, slot a' 9, slot a' 10, slot a' 11, slot a' 12, slot a' 13, slot a' 14, slot a' 15, slot a' 16, slot a' 17, slot a' 18, slot a' 19, slot a' 20, slot a' 21, slot a' 22, slot a' 23, slot a' 24, slot a' 25, slot a' 26, slot a' 27, slot a' 28, slot a' 29, slot a' 30, slot a' 31, slot a' 32, slot a' 33, slot a' 34, slot a' 35, slot a' 36, slot a' 37, slot a' 38, slot a' 39, slot a' 40, slot a' 41, slot a' 42, slot a' 43, slot a' 44, slot a' 45, slot a' 46, slot a' 47, slot a' 48, slot a' 49, slot a' 50, slot a' 51, slot a' 52, slot a' 53, slot a' 54, slot a' 55, slot a' 56, slot a' 57, slot a' 58, slot a' 59, slot a' 60, slot a' 61, slot a' 62, slot a' 63, slot a' 64, slot a' 65, slot a' 66, slot a' 67], defers := [] } ∧ OwnRws 44 2 encL w' w6.heap.size v (c.labels.take 42) ∧ Blk w' G #[.int .i64 c.fn, .int .i64 c.pc, .slice ag AL.length capg, .int .i64 c.base, v] 42 ∧ Keeps (fun i => i = G) w6 w') ?_ ?_ ?_
        · exact ⟨_, 0, rfl, by omega, by omega, OwnRws.nil _ _, hG, Keeps.refl _ _⟩
        · clear hG
          rintro R Y a' w7 ⟨v, m, hfr, hJ⟩ HR HY
          obtain ⟨f, hf⟩ : ∃ f, f = slot a' := ⟨_, rfl⟩
          rw [← hf] at hfr
          clear hf
          subst hfr
          obtain ⟨hm1, hm2, hol, hG, hk67⟩ := hJ
          have hX7 := HX6.out.keeps hk67 (by omega)
          obtain ⟨x0, x1, x2, x3, x4⟩ := hX7.five
          have hsz7 := hk67.size
          by_cases hml : m < c.labels.length
          rotate_left
          · obtain rfl : m = c.labels.length := by omega
            go_wp2_with fail
            refine HY.out _ _ ⟨v, rfl, ?_, hG, hk67⟩
            rw [List.take_of_length_le (by omega)]
            rw [List.take_of_length_le (by omega)] at hol
            exact hol
          by_cases hm3 : m < 42
          rotate_left
          · obtain rfl : m = 42 := by omega
            go_wp2_with fail
            exact HY.out _ _ ⟨v, rfl, hol, hG, hk67⟩
          obtain ⟨e, hee⟩ : ∃ e, c.labels[m]? = some e := ⟨_, List.getElem?_eq_getElem hml⟩
          have hbw7 : Below w.heap.size w w7 := HBW6.out.trans (hk67.below HBW6.out.size (fun i h => by omega))
          obtain ⟨a', cap', hva, _, _, hcells⟩ := id HXW.out
          injection hva with e1 e2 e3
          subst e1 e3
          obtain ⟨bl, offl, rfl, hltl, hcl⟩ := hcells m e hee
          have y0' := hcl 0 _ rfl
          have y1' := hcl 1 _ rfl
          rw [Nat.add_zero] at y0'
          have y0 := (hbw7.cell (p := ⟨bl, offl + m * 2, none⟩) hltl).trans y0'
          have y1 := (hbw7.cell (p := ⟨bl, offl + m * 2 + 1, none⟩) hltl).trans y1'
          have HEE := Lib.hid hee
          obtain ⟨L, hL⟩ : ∃ L, c.labels.take m = L := ⟨_, rfl⟩
          have hLl : L.length ≤ 42 := by rw [← hL, List.length_take]; omega
          rw [hL] at hol
          have HLE := Lib.hid hL
          obtain ⟨al, capl, rfl, _, hcl2, _⟩ := hol.isRws encL_len
          unfold maxLen at hcl2
          have hS : CutS10 G X (.slice al L.length capl) (.slice (some ⟨bl, offl, none⟩) c.labels.length capx) bl offl m e w7.drew := ⟨hG.cell 4, x4, y0, y1⟩
          have HS := Lib.hid hS
          have HOL := Lib.hid hol
          have HK67 := Lib.hid hk67
          have HGG := Lib.hid hG
          have hGl7 := hG.lt
          have hXl7 := hX7.lt
          clear hcells hcl e2 hee y0' y1' hbw7 hL hol hk67 hG hX7 hS
          go_wp2_with fail
          refine wp_region_last (CutS10 G X (.slice al L.length capl) (.slice (some ⟨bl, offl, none⟩) c.labels.length capx) bl offl m e) 10
            [(0, true), (1, true), (2, true), (3, true), (4, true), (5, true), (6, true), (7, false), (8, false), (9, true)] (by kernel_rfl) (by kernel_rfl) HS.out ?_
          clear x0 x1 x2 x3 x4 y0 y1
          iterate 7 (first | (apply seg_skip rfl rfl; simp only [Act.put, List.setIfInBounds_toArray, List.set_cons_succ, List.set_cons_zero]) | (apply seg_pure rfl rfl rfl; · (rintro w' ⟨t0, t1, t2, t3⟩; go_wp2; exact ⟨rfl, rfl, rfl⟩)))
          refine seg_loud rfl rfl ?_
          go_wp2_with fail
          refine ⟨HS.out.keeps ((Keeps.refl (fun _ => False) w7.drew).alloc _) ⟨hGl7, fun h => h⟩ ⟨hXl7, fun h => h⟩ ⟨by show bl < w7.heap.size; omega, fun h => h⟩, ?_⟩
          refine seg_loud rfl rfl ?_
          refine wpList_row1 w7.drew rfl _ _ 40 rfl _ 16 (by kernel_rfl) info_label rfl (by decide) (by decide) w6.heap.size (.slice al L.length capl) L rfl HOL.out e _ rfl rfl (encL_one _) rfl (by omega) (by show w6.heap.size ≤ w7.heap.size; omega) ?_
          intro v8 w8 ho8 hk8 hs8
          have hown : ∀ i, OwnB (.slice al L.length capl) i → w6.heap.size ≤ i := fun i hi => (own_lt HOL.out hi).1
          have hS8 := HS.out.keeps hk8 ⟨hGl7, fun h => by have := hown _ h; omega⟩ ⟨hXl7, fun h => by have := hown _ h; omega⟩ ⟨by show bl < w7.heap.size; omega, fun h => by have := hown _ h; omega⟩
          have hG8 := HGG.out.drew.keeps hk8 (fun h => by have := hown _ h; omega)
          have hk68 : Keeps (fun i => i = G) w6 w8 := HK67.out.trans hk8.undrew (fun i h => .inr (hown i h))
          generalize hA : L ++ [e] = L9 at ho8
          have HA9 := Lib.hid hA
          obtain ⟨a9, cap9, rfl, -, -⟩ := ho8.isRws encL_len
          clear hA hk8 hs8 hown
          have z4 := hG8.free 4
          have x4 : w8.cell? ⟨G, 4, none⟩ = some (.slice al L.length capl) := hG8.cell 4
          go_wp2_with fail
          refine ⟨hS8, ?_⟩
          iterate 1 (first | (apply seg_skip rfl rfl; simp only [Act.put, List.setIfInBounds_toArray, List.set_cons_succ, List.set_cons_zero]) | (apply seg_pure rfl rfl rfl; · (rintro w' ⟨t0, t1, t2, t3⟩; go_wp2; exact ⟨rfl, rfl, rfl⟩)))
          refine seg_last rfl rfl ?_
          have hkx := setKeeps w8 G 4 (.slice a9 L9.length cap9)
          have hlx := ho8.keeps hkx (fun i hi => by have := (own_lt ho8 hi).1; omega)
          have hGx := hG8.set 4 (.slice a9 L9.length cap9)
          have hk6x := hk68.trans hkx (fun i h => .inl h)
          have HLX := Lib.hid hlx
          have HGX := Lib.hid hGx
          clear hlx hGx hkx hk68 ho8 hG8 hS8
          go_wp2_with fail
          refine ⟨trivial, ?_⟩
          refine NoPanic.normal ?_
          go_wp2_with fail
          refine HR.out _ _ ⟨_, m + 1, rfl, by omega, by omega, ?_, by simpa using HGX.out, hk6x⟩ ?_
          · rw [List.take_add_one, HEE.out, HLE.out]
            show OwnRws _ _ _ _ _ _ (L ++ [e])
            rw [HA9.out]
            exact HLX.out
          · simp [intOf]
            omega
        · clear hG
          rintro a' w7 ⟨v, hfr, hol, hG, hk67⟩
          obtain ⟨f, hf⟩ : ∃ f, f = slot a' := ⟨_, rfl⟩
          rw [← hf] at hfr
          clear hf
          subst hfr
          obtain ⟨L, hL⟩ : ∃ L, c.labels.take 42 = L := ⟨_, rfl⟩
          rw [hL] at hol
          have HLE := Lib.hid hL
          have hk27 : Keeps (fun _ => False) w2 w7 := hk6.trans hk67 (fun i h => .inr (by omega))
          have hsz27 := hk27.size
          have hsz67 := hk67.size
          have hO7 := HOB.out.keeps hk27 (fun h => h)
          have hof7 := HOFR.out.keeps hk27 (fun i h => h.elim)
          have hg7 := HGI.out.keeps hk67 (fun a n cap he hj => by have := (HGB.out a n cap he).2.2; omega)
          have hlb := hol.block
          have hli := hol.isRws encL_len
          have hvlt : ∀ i, OwnB vf i → i < w2.heap.size := fun i hi => (HOFR.out.lt hi).2
          have hInB : ∀ u : Value, (∀ a n cap, u = .slice (some a) n cap → wa.heap.size ≤ a.block ∧ a.block < w7.heap.size) → InB w1.heap.size w7 vf u := fun u hx a n cap he => by
            obtain ⟨g1, g2⟩ := hx a n cap he
            exact ⟨by omega, g2, fun h => by have := hvlt _ h; omega⟩
          obtain ⟨al, capl, rfl, _, _, _⟩ := id hli
          have HU7 := Lib.hid (show (IsRws 2 encV w7 (Value.slice ag AL.length capg) c.cut.locals ∧ InB w1.heap.size w7 vf (.slice ag AL.length capg)) ∧ IsRws 2 encL w7 (.slice al L.length capl) c.cut.labels ∧ InB w1.heap.size w7 vf (.slice al L.length capl) from by
            refine ⟨⟨?_, hInB _ (fun a n cap he => by have := HGB.out a n cap he; omega)⟩, ?_, hInB _ (fun a n cap he => by have := hlb a n cap he; omega)⟩
            · show IsRws 2 encV w7 _ (c.locals.take 34)
              rw [HAL.out]
              exact hg7
            · show IsRws 2 encL w7 _ (c.labels.take 42)
              rw [HLE.out]
              exact hli)
          have hO7l := hO7.lt
          have hkk7 : Keeps (fun i => i = O) w1 w7 := hkk.trans hk27 (fun i h => h.elim)
          obtain ⟨g0, g1, g2, g3, g4⟩ := hG.five
          obtain ⟨p0, p1, p2⟩ := hO7.three
          obtain ⟨FL, hFL⟩ : ∃ FL, (s.frames.take k).map FEnt.cut = FL := ⟨_, rfl⟩
          rw [hFL] at hof7
          have hFLl : FL.length ≤ 34 := by rw [← hFL, List.length_map, List.length_take]; omega
          have HFL := Lib.hid hFL
          clear hL hli hlb hol hg7 hInB hvlt hG hFL hk67 hk27
          go_wp2_with (first | (at_builtin; refine Stop.out ?_))
          change wpList _ _ _ _ _ (World.alloc _ (.cells #[.int .i64 c.fn, .int .i64 c.pc, .slice ag AL.length capg, .int .i64 c.base, .slice al L.length capl] 42))
          obtain ⟨us, k1, k2, k3, k4⟩ := hof7
          have hzl : (FL.zip us).length ≤ 34 := by rw [List.length_zip]; omega
          refine wpList_row1 w7 rfl _ _ 23 rfl _ 72 (by kernel_rfl) info_frame rfl (by decide) (by decide) w1.heap.size vf (FL.zip us) rfl k2 ((c.cut, (.slice ag AL.length capg, .slice al L.length capl)) : FEnt × Value × Value) _ rfl rfl (by intro q hq; simp only [encF, List.mem_cons, List.not_mem_nil, or_false] at hq; rcases hq with rfl | rfl | rfl | rfl | rfl <;> rfl) rfl (by omega) (by omega) ?_
          intro v8 w8 ho8 hk8 hs8
          have hown : ∀ i, OwnB vf i → w1.heap.size ≤ i := fun i hi => (own_lt k2 hi).1
          have hof8 := OwnFrames.app k1 k3 k4 hk8 hs8 HOKC.out.cut HU7.out ho8
          generalize hA9 : FL ++ [c.cut] = acc9 at hof8
          have HA9 := Lib.hid hA9
          clear hA9
          have hO8 := hO7.keeps hk8 (fun h => by have := hown _ h; omega)
          have hkk8 := hkk7.trans hk8 (fun i hi => .inr (hown _ hi))
          obtain ⟨av8, capv8, rfl, -, -⟩ := hof8.isFrames.slice
          have z1 := hO8.free 1
          obtain ⟨q0, q1, q2⟩ := hO8.three
          have hkx := setKeeps w8 O 1 (.slice av8 acc9.length capv8)
          have hof9 := hof8.keeps hkx (fun i h => by omega)
          have hO9 := hO8.set 1 (.slice av8 acc9.length capv8)
          have hkk9 := hkk8.trans hkx (fun i h => .inl h)
          have HOF9 := Lib.hid hof9
          have HO9 := Lib.hid hO9
          clear hof9 hO9 hkx hof8 hO8 hkk8 hkk7 hown ho8 hk8 hs8 k1 k2 k3 k4 p0 p1 p2 g0 g1 g2 g3 g4
          go_wp2_with fail
          refine HRO.out _ _ ⟨_, k + 1, rfl, by omega, by omega, hkk9, by simpa using HO9.out, ?_⟩ ?_
          · rw [List.take_add_one, HE.out, List.map_append, HFL.out]
            show OwnFrames _ _ _ (FL ++ [c.cut])
            rw [HA9.out]
            exact HOF9.out
          · simp [intOf]
            omega
    · clear hO
      rintro a' w2 ⟨vf, hfr, hk, hO, hof⟩
      obtain ⟨f, hf⟩ : ∃ f, f = slot a' := ⟨_, rfl⟩
      rw [← hf] at hfr
      clear hf
      subst hfr
      obtain ⟨x0, x1, x2⟩ := hO.three
      have hz := HBZ.out.keeps hk (by omega)
      obtain ⟨y0, y1, y2⟩ := hz.three
      have z0 := hz.free 0
      have z1 := hz.free 1
      have z2 := hz.free 2
      have HOF := Lib.hid hof
      obtain ⟨a2, cap2, rfl, _, _⟩ := hof.isFrames.slice
      clear hof
      go_wp2_with fail
      have hx := hz.set3 (.slice av' A.length capv') (.slice a2 s.cut.frames.length cap2) (.int .i64 s.asks)
      have hkx := set3Keeps w2 (w.heap.size + 1) (.slice av' A.length capv') (.slice a2 s.cut.frames.length cap2) (.int .i64 s.asks)
      refine bodyPost_ret (results_cell1 rfl _ _ rfl hx.loadS) rfl ?_
      have hb2 := hb1.trans (hk.below hb1.size (fun i h => by omega))
      have hv2 := (HVI.out.keeps hk (fun a n cap h hj => by have := HVB.out a n cap h; omega)).keeps hkx (fun a n cap h hj => by have := HVB.out a n cap h; omega)
      refine ⟨_, _, rfl, ⟨?_, fun a n cap h => by have := HVB.out a n cap h; omega, (HOF.out.keeps hkx (fun i h => by omega)).base (by omega), HOK.out.cut⟩, ((hb2.setCell (p := ⟨w.heap.size + 1, 0, none⟩) (by show _ ≤ w.heap.size + 1; omega) _).setCell (p := ⟨w.heap.size + 1, 1, none⟩) (by show _ ≤ w.heap.size + 1; omega) _).setCell (p := ⟨w.heap.size + 1, 2, none⟩) (by show _ ≤ w.heap.size + 1; omega) _⟩
      show IsRws 2 encV _ _ (s.vals.take 30)
      rw [HA.out]
      exact hv2
end Go.Proofs.Ytpknafidbmnjpaa
