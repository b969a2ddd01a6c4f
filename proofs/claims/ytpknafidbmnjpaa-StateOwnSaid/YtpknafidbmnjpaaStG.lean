/-
  Walk of state.Decode: a state is read, or none.
-/
import Derived.Test.YtpknafidbmnjpaaStF
import Derived.Test.YtpknafidbmnjpaaStD
import Derived.Test.YtpknafidbmnjpaaSeqL
namespace Go.Proofs.Ytpknafidbmnjpaa
open Go.RowKit

def SameEnd2 (l m : List UInt8) (w : World) (e : Ending) (w' : World) : Prop := e = .returned (.bool (l == m)) ∧ w = w'

theorem bytesEq_any (a b : Value) (l m : List UInt8) (w : World) (ha : IsBytes w a l) (hb : IsBytes w b m) :
    Calls Try.prog 38 #[a, b] w (SameEnd2 l m w) := by
  have h1 := run_str ha
  have h2 := run_str hb
  clear ha hb
  go_enter Try.func38, Try.ntmps38
  go_wp2
  go_ret
  exact ⟨by rw [bs_toList, bs_toList]; rfl, rfl⟩

theorem IsRws.keeps {α : Type} {k : Nat} {enc : α → List Value} {w w' : World} {v : Value} {l : List α} {S : Nat → Prop} (h : IsRws k enc w v l) (hk : Keeps S w w') (hs : ∀ a n cap, v = .slice (some a) n cap → ¬ S a.block) : IsRws k enc w' v l := by
  obtain ⟨a, cap, hv, h1, h2, h3⟩ := h
  refine ⟨a, cap, hv, h1, h2, fun i x hx => ?_⟩
  obtain ⟨b, off, ha, hlt, hc⟩ := h3 i x hx
  refine ⟨b, off, ha, Nat.lt_of_lt_of_le hlt hk.size, fun j u hu => ?_⟩
  rw [World.cell?_of_block (w := w) (a := ⟨b, off + i * k + j, none⟩) (hk.block b hlt (by rw [hv, ha] at hs; exact hs _ _ _ rfl))]
  exact hc j u hu

theorem OwnRws.block {α : Type} {t : TypeId} {k : Nat} {enc : α → List Value} {w : World} {B : Nat} {u : Value} {l : List α} (h : OwnRws t k enc w B u l) : ∀ a n cap, u = .slice (some a) n cap → B ≤ a.block ∧ a.block < w.heap.size := by
  intro a n cap he
  obtain ⟨_, ⟨hv, _⟩ | ⟨g, cap', cur, hv, hb, hg, _⟩⟩ := h
  · rw [hv] at he; cases he
  · rw [hv] at he
    injection he with e1 e2 e3
    injection e1 with e1
    subst e1
    exact ⟨hb, (Array.getElem?_eq_some_iff.1 hg).1⟩

/-- A slice's block lies from B on, and is not v's. -/
def InB (B : Nat) (w : World) (v u : Value) : Prop := ∀ a n cap, u = .slice (some a) n cap → B ≤ a.block ∧ a.block < w.heap.size ∧ ¬ OwnB v a.block

/-- Frames in rows of the call's own: their locals and labels lie apart. -/
def OwnFrames (w : World) (B : Nat) (v : Value) (l : List FEnt) : Prop :=
  ∃ us : List (Value × Value), us.length = l.length ∧ OwnRws 42 5 encF w B v (l.zip us) ∧ (∀ f ∈ l, f.ok) ∧
    ∀ (i : Nat) (f : FEnt) (u : Value × Value), l[i]? = some f → us[i]? = some u → (IsRws 2 encV w u.1 f.locals ∧ InB B w v u.1) ∧ IsRws 2 encL w u.2 f.labels ∧ InB B w v u.2

theorem OwnFrames.nil (w : World) (B : Nat) : OwnFrames w B (.slice none 0 0) [] := ⟨[], rfl, OwnRws.nil _ _, by simp, by simp⟩

theorem OwnFrames.isFrames {w : World} {B : Nat} {v : Value} {l : List FEnt} (h : OwnFrames w B v l) : IsFrames w v l := by
  obtain ⟨us, h1, h2, h3, h4⟩ := h
  exact ⟨us, h1, h2.isRws encF_len, fun i f u hf hu => ⟨(h4 i f u hf hu).1.1, (h4 i f u hf hu).2.1⟩, h3⟩

theorem OwnFrames.lt {w : World} {B : Nat} {v : Value} {l : List FEnt} (h : OwnFrames w B v l) {i : Nat} (hi : OwnB v i) : B ≤ i ∧ i < w.heap.size := by
  obtain ⟨us, h1, h2, h3, h4⟩ := h
  exact own_lt h2 hi

/-- What lies below B alone was written, or new blocks laid. -/
theorem OwnFrames.keeps {w w' : World} {B : Nat} {v : Value} {l : List FEnt} {T : Nat → Prop} (h : OwnFrames w B v l) (hk : Keeps T w w') (hT : ∀ i, T i → i < B) : OwnFrames w' B v l := by
  obtain ⟨us, h1, h2, h3, h4⟩ := h
  refine ⟨us, h1, h2.keeps hk (fun i hi hj => by have := (own_lt h2 hi).1; have := hT i hj; omega), h3, fun i f u hf hu => ?_⟩
  have conv : ∀ x, InB B w v x → InB B w' v x := fun x hx a n cap he => by
    obtain ⟨g1, g2, g3⟩ := hx a n cap he
    exact ⟨g1, Nat.lt_of_lt_of_le g2 hk.size, g3⟩
  have away : ∀ x, InB B w v x → ∀ a n cap, x = .slice (some a) n cap → ¬ T a.block := fun x hx a n cap he hj => by
    have := (hx a n cap he).1
    have := hT _ hj
    omega
  obtain ⟨⟨g1, g2⟩, g3, g4⟩ := h4 i f u hf hu
  exact ⟨⟨g1.keeps hk (away _ g2), conv _ g2⟩, g3.keeps hk (away _ g4), conv _ g4⟩

/-- One more frame. -/
theorem OwnFrames.app {w w' : World} {B : Nat} {v v' : Value} {l : List FEnt} {us : List (Value × Value)} (h1 : us.length = l.length) (h3 : ∀ f ∈ l, f.ok)
    (h4 : ∀ (i : Nat) (f : FEnt) (u : Value × Value), l[i]? = some f → us[i]? = some u → (IsRws 2 encV w u.1 f.locals ∧ InB B w v u.1) ∧ IsRws 2 encL w u.2 f.labels ∧ InB B w v u.2)
    (hk : Keeps (OwnB v) w w') (hs : SameOrNew w v v') {f : FEnt} {u : Value × Value} (hf : f.ok)
    (hu : (IsRws 2 encV w u.1 f.locals ∧ InB B w v u.1) ∧ IsRws 2 encL w u.2 f.labels ∧ InB B w v u.2)
    (ho : OwnRws 42 5 encF w' B v' (l.zip us ++ [(f, u)])) : OwnFrames w' B v' (l ++ [f]) := by
  have key : ∀ a : Addr, a.block < w.heap.size → ¬ OwnB v a.block → ¬ OwnB v' a.block := fun a h1 h2 h3 => (hs _ h3).elim h2 (fun g => by omega)
  have conv : ∀ x, InB B w v x → InB B w' v' x := fun x hx a n cap he => by
    obtain ⟨g1, g2, g3⟩ := hx a n cap he
    exact ⟨g1, Nat.lt_of_lt_of_le g2 hk.size, key a g2 g3⟩
  have away : ∀ x, InB B w v x → ∀ a n cap, x = .slice (some a) n cap → ¬ OwnB v a.block := fun x hx a n cap he => (hx a n cap he).2.2
  refine ⟨us ++ [u], by simp [h1], ?_, ?_, ?_⟩
  · rw [List.zip_append h1.symm]
    exact ho
  · intro d hd
    rcases List.mem_append.1 hd with h | h
    · exact h3 d h
    · obtain rfl := List.mem_singleton.1 h
      exact hf
  · intro i d x hd hx
    have all : ∀ (d : FEnt) (x : Value × Value), ((IsRws 2 encV w x.1 d.locals ∧ InB B w v x.1) ∧ IsRws 2 encL w x.2 d.labels ∧ InB B w v x.2) →
        (IsRws 2 encV w' x.1 d.locals ∧ InB B w' v' x.1) ∧ IsRws 2 encL w' x.2 d.labels ∧ InB B w' v' x.2 := by
      rintro d x ⟨⟨g1, g2⟩, g3, g4⟩
      exact ⟨⟨g1.keeps hk (away _ g2), conv _ g2⟩, g3.keeps hk (away _ g4), conv _ g4⟩
    rcases Nat.lt_or_ge i l.length with h | h
    · rw [List.getElem?_append_left h] at hd
      rw [List.getElem?_append_left (by omega)] at hx
      exact all d x (h4 i d x hd hx)
    · rw [List.getElem?_append_right h] at hd
      rw [List.getElem?_append_right (by omega), h1] at hx
      have hi : i - l.length = 0 := by
        rcases Nat.eq_zero_or_pos (i - l.length) with g | g
        · exact g
        · rw [List.getElem?_eq_none (by simp only [List.length_singleton]; omega)] at hd
          cases hd
      rw [hi] at hd hx
      simp at hd hx
      subst hd hx
      exact all f u hu

theorem info_label : (Try.prog.info? 44).map (fun i => (i.zero, i.size, i.bytes)) = some (some (.agg #[.int .i64 0, .int .i64 0]), 2, 16) := by kernel_rfl
theorem info_frame : (Try.prog.info? 42).map (fun i => (i.zero, i.size, i.bytes)) = some (some (.agg #[.int .i64 0, .int .i64 0, .slice none 0 0, .int .i64 0, .slice none 0 0]), 5, 72) := by kernel_rfl

theorem Blk.loadS {w : World} {X : Nat} {u v : Value} {n : Int} {t : TypeId} (h : Blk w X #[u, v, .int .i64 n] t) :
    (loadVar 25 ⟨X, 0, none⟩).run Try.prog w = .ok (.agg #[u, v, .int .i64 n]) w := by
  have hs : (Try.prog.underlying 25).map (fun d => match d with | .struct _ | .array _ _ => true | _ => false) = some true := by kernel_rfl
  obtain ⟨d, h1, h2⟩ := Option.map_eq_some_iff.1 hs
  exact run_loadVar_row w X t 25 _ _ d h h1 (by cases d <;> first | rfl | (exfalso; simp at h2)) (by kernel_rfl)

def DecSEnd (l : List UInt8) (w : World) (e : Ending) (w' : World) : Prop :=
  Below w.heap.size w w' ∧ ∃ uv uf s err, e = .returned (.tuple #[.agg #[uv, uf, .int .i64 s.asks], .int .i64 err]) ∧ IsState w' uv uf s ∧
    ((err = 0 ∧ s.may ∧ stateB s = l) ∨ (err = 11 ∧ s = ⟨[], [], 0⟩ ∧ ¬ ∃ s : SEnt, s.may ∧ s.ok ∧ stateB s = l))

def DecLJ (B0 Rb F : Nat) (cs : Value → Array Value) (k0 : Nat) (st0 : Option (List UInt8)) (w5 w' : World) (v : Value) (acc : List LEnt) (n : Nat) (st : Option (List UInt8)) : Prop :=
  labsL k0 st0 = (acc ++ (labsL n st).1, (labsL n st).2) ∧ OwnRws 44 2 encL w' (F + 1) v acc ∧ (∀ x ∈ acc, x.ok) ∧ acc.length + stl st ≤ stl st0 ∧ Rd B0 w' Rb st ∧
    Blk w' F (cs v) 42 ∧ Keeps (fun k => k = Rb) w5 w' ∧ n < 4611686018427387904

def DecSJ (l : List UInt8) (vals : List VEnt) (asks : Int) (uv : Value) (C Rb Sb : Nat) (w w' : World) (v : Value) (acc : List FEnt) (n : Nat) (st : Option (List UInt8)) : Prop :=
  stateR (some l) = (⟨vals, acc ++ (framesL n st).1, asks⟩, (framesL n st).2) ∧ OwnFrames w' (Sb + 1) v acc ∧ acc.length + stl st ≤ l.length + 1 ∧ Rd w.heap.size w' Rb st ∧
    Blk w' C #[.slice none 0 0, .slice none 0 0, .int .i64 0] 25 ∧ Blk w' Sb #[uv, v, .int .i64 asks] 25 ∧ IsRws 2 encV w' uv vals ∧ Below w.heap.size w w' ∧ n < 4611686018427387904

theorem Blk.set3 {w : World} {X : Nat} {t : TypeId} {x0 x1 x2 : Value} (h : Blk w X #[x0, x1, x2] t) (y0 y1 y2 : Value) :
    Blk (((w.setCell ⟨X, 0, none⟩ y0).setCell ⟨X, 1, none⟩ y1).setCell ⟨X, 2, none⟩ y2) X #[y0, y1, y2] t := by
  have := ((h.set 0 y0).set 1 y1).set 2 y2
  simpa using this

theorem setKeeps (w : World) (X i : Nat) (v : Value) : Keeps (fun k => k = X) w (w.setCell ⟨X, i, none⟩ v) := ⟨rfl, rfl, rfl, by simp, fun k _ hk => Below.heap_setCell w ⟨X, i, none⟩ v k hk⟩

theorem set3Keeps (w : World) (X : Nat) (y0 y1 y2 : Value) : Keeps (fun k => k = X) w (((w.setCell ⟨X, 0, none⟩ y0).setCell ⟨X, 1, none⟩ y1).setCell ⟨X, 2, none⟩ y2) :=
  ((setKeeps w X 0 y0).trans (setKeeps _ X 1 y1) (fun _ h => .inl h)).trans (setKeeps _ X 2 y2) (fun _ h => .inl h)

theorem stl_numM (st : Option (List UInt8)) : stl (numR st).2 + 1 ≤ max 1 (stl st) := by
  cases st with
  | none => simp [numR, stl]
  | some l => have := stl_num l; omega


set_option maxRecDepth 100000 in
set_option maxHeartbeats 4000000 in
theorem decState_any (b : Value) (l : List UInt8) (w : World) (hb : IsBytes w b l) (hll : l.length ≤ 400000) : Calls Try.prog 15 #[b] w (DecSEnd l w) := by
  obtain ⟨a, cap, rfl, hcap, hmax, hcc⟩ := id hb
  have HB := Lib.hid hb
  have hB0 : l ≠ [] → ∀ ad, a = some ad → ad.block < w.heap.size := by
    intro hne ad ha
    obtain ⟨x, xs, hxs⟩ := List.exists_cons_of_ne_nil hne
    obtain ⟨g, off, g1, g2⟩ := hcc 0 x (by rw [hxs]; rfl)
    rw [ha] at g1
    injection g1 with g1
    rw [g1]
    exact World.block_lt_of_cell? w _ g2
  unfold maxLen at hmax
  clear hcc
  have hz : Blk (w.alloc (.cells #[.slice none 0 0, .slice none 0 0, .int .i64 0] 25)) w.heap.size #[.slice none 0 0, .slice none 0 0, .int .i64 0] 25 := Blk.new w _ _
  have hb1 : Below w.heap.size w (w.alloc (.cells #[.slice none 0 0, .slice none 0 0, .int .i64 0] 25)) := (Below.refl _ _).alloc (Nat.le_refl _) _
  have hi1 : IsBytes (w.alloc (.cells #[.slice none 0 0, .slice none 0 0, .int .i64 0] 25)) (.slice a l.length cap) l := hb.below hb1
  have hsz1 : (w.alloc (.cells #[.slice none 0 0, .slice none 0 0, .int .i64 0] 25)).heap.size = w.heap.size + 1 := World.size_alloc _ _
  clear hb
  go_enter Try.func15, Try.ntmps15
  go_wp2_with fail
  rw [show w.heap.size + 1 = (w.alloc (.cells #[.slice none 0 0, .slice none 0 0, .int .i64 0] 25)).heap.size from hsz1.symm]
  generalize w.alloc (.cells #[.slice none 0 0, .slice none 0 0, .int .i64 0] 25) = w0 at hz hb1 hi1 hsz1 ⊢
  have hC0 : w.heap.size < w0.heap.size := by omega
  have hC0' : w0.heap.size < w.heap.size + 2 := by omega
  clear hsz1
  have hrd : Rd w.heap.size (w0.alloc (.cells #[.slice a l.length cap, .bool false] 64)) w0.heap.size (some l) :=
    ⟨a, l.length, cap, Blk.new w0 _ _, l, hB0, hi1.below ((Below.refl _ _).alloc (Nat.le_refl _) _), fun l' h => by injection h with h; exact h.symm⟩
  have HRD0 := Lib.hid hrd
  clear hrd hB0 hi1
  obtain ⟨vals, s1, e1⟩ : ∃ x t, valsR (some l) = (x, t) := ⟨_, _, rfl⟩
  obtain ⟨xa, s2, e2⟩ : ∃ x t, numR s1 = (x, t) := ⟨_, _, rfl⟩
  obtain ⟨n0, s3, e3⟩ : ∃ x t, numR s2 = (x, t) := ⟨_, _, rfl⟩
  have ba := numR_lt s1
  have bn := numR_lt s2
  have ta := stl_num' s1
  have tn := stl_num' s2
  rw [e2] at ba ta
  rw [e3] at bn tn
  simp only at ba bn ta tn
  have hz0 := hz.alloc (.cells #[.slice a l.length cap, .bool false] 64)
  have hb0 := hb1.alloc (by omega) (.cells #[.slice a l.length cap, .bool false] 64)
  have hszr : (w0.alloc (.cells #[.slice a l.length cap, .bool false] 64)).heap.size = w0.heap.size + 1 := World.size_alloc _ _
  refine (vals_read w.heap.size w0.heap.size (some l) _ HRD0.out (by simp only [stl]; omega) (by rw [hszr]; omega)).mono ?_
  rintro x w1 ⟨u, rfl, hou, hvo, hvl, hr1, hk1⟩
  rw [hszr] at hou
  rw [e1] at hou hvo hvl hr1
  rw [show stl (some l) = l.length + 1 from rfl] at hvl
  simp only at hou hvo hvl hr1
  have hsr := hk1.size
  rw [hszr] at hsr
  have hui := hou.isRws encV_len
  have hub := hou.block
  obtain ⟨au, capu, rfl, -, hcu, -⟩ := id hui
  unfold maxLen at hcu
  have HVO := Lib.hid hvo
  have hC1 := hz0.keeps hk1 (by omega)
  have hb2 := hb0.trans (hk1.below (by rw [hszr]; omega) (fun i h => by omega))
  clear hou hvo hk1 hz0 hb0 hszr hz hb1
  go_wp2_with fail
  refine (num_read w.heap.size w0.heap.size s1 w1 hr1).mono ?_
  rintro x w2 ⟨rfl, hr2, hk2⟩
  rw [e2] at hr2 ⊢
  have hsz2 := hk2.size
  have hb3 := hb2.trans (hk2.below (by omega) (fun i h => by omega))
  have hC2 := hC1.keeps hk2 (by omega)
  have hu2 := hui.keeps hk2 (fun a n cp he hj => by have := (hub a n cp he).1; omega)
  have HUB := Lib.hid (show ∀ a n cp, Value.slice au vals.length capu = .slice (some a) n cp → w0.heap.size < a.block ∧ a.block < w2.heap.size from fun a n cp he => by have := hub a n cp he; omega)
  clear hr1 hk2 hC1 hui hub hb2
  go_wp2_with fail
  have hia : ∃ asks : Int, (xa : Int) - 1 = asks := ⟨_, rfl⟩
  obtain ⟨asks, hasks⟩ := hia
  have ha1 : -1 ≤ asks := by omega
  have ha2 : asks < 4611686018427387904 := by omega
  rw [hasks]
  have HAS := Lib.hid hasks
  clear hasks
  have hS0 := Blk.new w2 #[.slice au vals.length capu, .slice none 0 0, .int .i64 asks] 25
  have hC3 := hC2.alloc (.cells #[.slice au vals.length capu, .slice none 0 0, .int .i64 asks] 25)
  have hb4 := hb3.alloc (by omega) (.cells #[.slice au vals.length capu, .slice none 0 0, .int .i64 asks] 25)
  have hal := (Below.refl w2.heap.size w2).alloc (Nat.le_refl _) (.cells #[.slice au vals.length capu, .slice none 0 0, .int .i64 asks] 25)
  have hr3 := hr2.below hal
  have hu3 := hu2.below hal
  have hszs : (w2.alloc (.cells #[.slice au vals.length capu, .slice none 0 0, .int .i64 asks] 25)).heap.size = w2.heap.size + 1 := World.size_alloc _ _
  generalize hSb : w2.heap.size = Sb at hS0 hszs HUB hsz2 hb3 ⊢
  generalize w2.alloc (.cells #[.slice au vals.length capu, .slice none 0 0, .int .i64 asks] 25) = w3 at hS0 hC3 hb4 hr3 hu3 hszs ⊢
  clear hal hr2 hu2 hC2 hb3 hSb
  refine (num_read w.heap.size w0.heap.size s2 w3 hr3).mono ?_
  rintro x w4 ⟨rfl, hr4, hk4⟩
  rw [e3] at hr4 ⊢
  have hS4 := hS0.keeps hk4 (by omega)
  have hC4 := hC3.keeps hk4 (by omega)
  have hb5 := hb4.trans (hk4.below (by omega) (fun i h => by omega))
  have hu4 := hu3.keeps hk4 (fun a n cp he hj => by have := (HUB.out a n cp he).1; omega)
  have hSlt := hS4.lt
  have hs0 : w0.heap.size + 1 ≤ Sb := by omega
  clear hk4 hS0 hC3 hb4 hr3 hu3 hszs
  go_wp2_with fail
  refine wp_loop_r (fun a' w' => ∃ (v : Value) (acc : List FEnt) (n : Nat) (s : Option (List UInt8)), a' = { tmps := #[.slice a l.length cap, slot a' 1, .pointer (some ⟨w.heap.size, 0, none⟩), .int .i64 0, .pointer (some ⟨w0.heap.size, 0, none⟩), .pointer (some ⟨Sb, 0, none⟩), .int .i64 n, slot a' 7, slot a' 8, slot a' 9, slot a' 10, slot a' 11, slot a' 12, slot a' 13, slot a' 14, slot a' 15, slot a' 16, slot a' 17, slot a' 18, slot a' 19, slot a' 20, slot a' 21, slot a' 22, slot a' 23, slot a' 24, slot a' 25, slot a' 26, slot a' 27, slot a' 28, slot a' 29, slot a' 30, slot a' 31, slot a' 32, slot a' 33, slot a' 34, slot a' 35, slot a' 36, slot a' 37, slot a' 38, slot a' 39, slot a' 40, slot a' 41, slot a' 42, slot a' 43, slot a' 44, slot a' 45, slot a' 46, slot a' 47, slot a' 48, slot a' 49, slot a' 50, slot a' 51, slot a' 52, slot a' 53, slot a' 54, slot a' 55, slot a' 56, slot a' 57, slot a' 58, slot a' 59, slot a' 60, slot a' 61, slot a' 62, slot a' 63, slot a' 64, slot a' 65, slot a' 66, slot a' 67, slot a' 68, slot a' 69, slot a' 70, slot a' 71, slot a' 72, slot a' 73, slot a' 74, slot a' 75, slot a' 76, slot a' 77, slot a' 78, slot a' 79, slot a' 80, slot a' 81, slot a' 82, slot a' 83, slot a' 84, slot a' 85, slot a' 86, slot a' 87], defers := [] } ∧ DecSJ l vals asks (.slice au vals.length capu) w.heap.size w0.heap.size Sb w w' v acc n s) (fun a' _ => (intOf (a'.tmps.getD 6 undef)).toNat) ?_ ?_
  · refine ⟨_, [], n0, s3, rfl, ⟨?_, OwnFrames.nil _ _, ?_, hr4, hC4, hS4, hu4, hb5, bn⟩⟩
    · rw [stateR, e1, e2, e3]
      simp only [List.nil_append, HAS.out]
    · simp only [List.length_nil]
      omega
  · clear hr4 hC4 hS4 hu4 hb5 bn ba ta tn hvl hsr hsz2 hSlt e1 e2 e3 HAS
    rintro R a' w1 ⟨v, acc, n, s, hfr, hJ⟩ HR
    obtain ⟨f, hf⟩ : ∃ f, f = slot a' := ⟨_, rfl⟩
    rw [← hf] at hfr
    clear hf
    subst hfr
    obtain ⟨hv, hof, hlen, hrd, hC, hS, hu, hb, hn⟩ := hJ
    obtain ⟨av, capv, rfl, _, hcv⟩ := hof.isFrames.slice
    have HRD := Lib.hid hrd
    have HOF := Lib.hid hof
    obtain ⟨ar, nr, capr, hbk, _⟩ := hrd
    have c1 : w1.cell? ⟨w0.heap.size, 1, none⟩ = some (.bool s.isNone) := hbk.cell 1
    have hRlt := hbk.lt
    have hSlt := hS.lt
    clear hbk hof
    rcases Nat.eq_zero_or_pos n with hn0 | hn0
    · subst hn0
      rw [framesL, List.append_nil] at hv
      cases s with
      | none =>
        skip
        have HC := Lib.hid (show stateR (some l) = (⟨vals, acc, asks⟩, (none : Option (List UInt8))) from hv)
        have key : ∀ y : SEnt, y.may → y.ok → stateB y = l → y = ⟨vals, acc, asks⟩ ∧ (none : Option (List UInt8)) = some [] := by
          intro y h1 h2 h3
          have h4 := stateR_put y h1 h2
          rw [h3, HC.out] at h4
          injection h4 with h4 h5
          exact ⟨h4.symm, h5⟩
        have KEY := Lib.hid key
        have hst : IsState w1 (.slice au vals.length capu) (.slice av acc.length capv) ⟨vals, acc, asks⟩ := ⟨hu, HOF.out.isFrames, ⟨by show (-9223372036854775808 : Int) ≤ asks; omega, by show asks ≤ 9223372036854775807; omega⟩, HVO.out, by obtain ⟨_, _, _, h, _⟩ := HOF.out; exact h⟩
        have HST := Lib.hid hst
        obtain ⟨s0, s1, s2⟩ := hS.three
        clear key hv hlen hst HC
        go_wp2_with fail
        refine (encState_any _ _ ⟨vals, acc, asks⟩ w1 HST.out).mono ?_
        rintro x w2 ⟨c, rfl, hb2, hc⟩
        obtain ⟨ar, nr, capr, hbk2, -⟩ := HRD.out.below hb2
        have d1 : w2.cell? ⟨w0.heap.size, 1, none⟩ = some (.bool true) := hbk2.cell 1
        have hC2 := hC.below hb2 hC.lt
        obtain ⟨c0', c1', c2'⟩ := hC2.three
        have z0 := hC2.free 0
        have z1 := hC2.free 1
        have z2 := hC2.free 2
        have hS2 := hS.below hb2 hS.lt
        obtain ⟨s0', s1', s2'⟩ := hS2.three
        have hbl := HB.out.below ((hb.trans (hb2.mono hb.size)).mono (Nat.le_refl _))
        have HBL := Lib.hid hbl
        have HSZ2 := Lib.hid hb2.size
        have HOF2 := Lib.hid (HOF.out.keeps (T := fun _ => False) (Keeps.ofBelow hb2) (fun _ h => h.elim))
        have HU2 := Lib.hid (hu.below hb2)
        replace hb := hb.trans (hb2.mono hb.size)
        clear hbk2 hbl hb2 c1 hC s0 s1 s2 hu hS
        clear hc
        go_wp2_with fail
        have hx := hC2.set3 (.slice none 0 0) (.slice none 0 0) (.int .i64 0)
        refine bodyPost_ret (results_cell2 rfl _ _ rfl hx.loadS) rfl ?_
        refine ⟨((hb.setCell (Nat.le_refl _) _).setCell (Nat.le_refl _) _).setCell (Nat.le_refl _) _, _, _, ⟨[], [], 0⟩, _, rfl, ⟨IsRws.nil _, IsFrames.nil _, ⟨by show (-9223372036854775808 : Int) ≤ 0; omega, by show (0 : Int) ≤ 9223372036854775807; omega⟩, by simp, by simp⟩, .inr ⟨rfl, rfl, ?_⟩⟩
        rintro ⟨s, g1, g2, g3⟩
        have := (KEY.out s g1 g2 g3).2
        cases this
      | some s =>
        skip
        have HC := Lib.hid (show stateR (some l) = (⟨vals, acc, asks⟩, some s) from hv)
        have key : ∀ y : SEnt, y.may → y.ok → stateB y = l → y = ⟨vals, acc, asks⟩ ∧ some s = some [] := by
          intro y h1 h2 h3
          have h4 := stateR_put y h1 h2
          rw [h3, HC.out] at h4
          injection h4 with h4 h5
          exact ⟨h4.symm, h5⟩
        have KEY := Lib.hid key
        have hst : IsState w1 (.slice au vals.length capu) (.slice av acc.length capv) ⟨vals, acc, asks⟩ := ⟨hu, HOF.out.isFrames, ⟨by show (-9223372036854775808 : Int) ≤ asks; omega, by show asks ≤ 9223372036854775807; omega⟩, HVO.out, by obtain ⟨_, _, _, h, _⟩ := HOF.out; exact h⟩
        have HST := Lib.hid hst
        obtain ⟨s0, s1, s2⟩ := hS.three
        clear key hv hlen hst HC
        go_wp2_with fail
        refine (encState_any _ _ ⟨vals, acc, asks⟩ w1 HST.out).mono ?_
        rintro x w2 ⟨c, rfl, hb2, hc⟩
        obtain ⟨ar, nr, capr, hbk2, -⟩ := HRD.out.below hb2
        have d1 : w2.cell? ⟨w0.heap.size, 1, none⟩ = some (.bool false) := hbk2.cell 1
        have hC2 := hC.below hb2 hC.lt
        obtain ⟨c0', c1', c2'⟩ := hC2.three
        have z0 := hC2.free 0
        have z1 := hC2.free 1
        have z2 := hC2.free 2
        have hS2 := hS.below hb2 hS.lt
        obtain ⟨s0', s1', s2'⟩ := hS2.three
        have hbl := HB.out.below ((hb.trans (hb2.mono hb.size)).mono (Nat.le_refl _))
        have HBL := Lib.hid hbl
        have HSZ2 := Lib.hid hb2.size
        have HOF2 := Lib.hid (HOF.out.keeps (T := fun _ => False) (Keeps.ofBelow hb2) (fun _ h => h.elim))
        have HU2 := Lib.hid (hu.below hb2)
        replace hb := hb.trans (hb2.mono hb.size)
        clear hbk2 hbl hb2 c1 hC s0 s1 s2 hu hS
        rcases hc with ⟨hm, hoc⟩ | ⟨hm, rfl⟩
        · have HM := Lib.hid hm
          obtain ⟨g, cap4, rfl, hg1, hg2, hg3, hg4, _, _⟩ := hoc.open (stateB_ne _)
          have hoi := hoc.isBytes
          have HOB := Lib.hid hoi
          clear hoi hoc hm
          have e1 := Lib.run_eql_slice_nil (P := Try.prog) w2 28 5 (some ⟨g, 0, none⟩) (stateB ⟨vals, acc, asks⟩).length cap4 0 0 (by kernel_rfl)
          rw [Option.isNone_some] at e1
          go_wp2_with fail
          refine (bytesEq_any _ _ (stateB ⟨vals, acc, asks⟩) l w2 HOB.out HBL.out).mono ?_
          rintro x w3 ⟨rfl, rfl⟩
          cases hq : stateB ⟨vals, acc, asks⟩ == l
          · go_wp2_with fail
            have hx := hC2.set3 (.slice none 0 0) (.slice none 0 0) (.int .i64 0)
            refine bodyPost_ret (results_cell2 rfl _ _ rfl hx.loadS) rfl ?_
            refine ⟨((hb.setCell (Nat.le_refl _) _).setCell (Nat.le_refl _) _).setCell (Nat.le_refl _) _, _, _, ⟨[], [], 0⟩, _, rfl, ⟨IsRws.nil _, IsFrames.nil _, ⟨by show (-9223372036854775808 : Int) ≤ 0; omega, by show (0 : Int) ≤ 9223372036854775807; omega⟩, by simp, by simp⟩, .inr ⟨rfl, rfl, ?_⟩⟩
            rintro ⟨s, g1, g2, g3⟩
            have h3 := (KEY.out s g1 g2 g3).1
            rw [h3] at g3
            simp [g3] at hq
          · go_wp2_with fail
            have hx := hC2.set3 (.slice au vals.length capu) (.slice av acc.length capv) (.int .i64 asks)
            have hkx := set3Keeps w2 w.heap.size (.slice au vals.length capu) (.slice av acc.length capv) (.int .i64 asks)
            refine bodyPost_ret (results_cell2 rfl _ _ rfl hx.loadS) rfl ?_
            refine ⟨((hb.setCell (Nat.le_refl _) _).setCell (Nat.le_refl _) _).setCell (Nat.le_refl _) _, _, _, ⟨vals, acc, asks⟩, _, rfl, ⟨HU2.out.keeps hkx (fun a n cp he hj => by have := (HUB.out a n cp he).1; omega), (HOF2.out.keeps hkx (fun i h => by omega)).isFrames, HST.out.2.2⟩, .inl ⟨rfl, HM.out, by simpa using hq⟩⟩
        · have HM := Lib.hid hm
          clear hm
          have e1 := Lib.run_eql_slice_nil (P := Try.prog) w2 28 5 none 0 0 0 0 (by kernel_rfl)
          rw [Option.isNone_none] at e1
          go_wp2_with fail
          have hx := hC2.set3 (.slice none 0 0) (.slice none 0 0) (.int .i64 0)
          refine bodyPost_ret (results_cell2 rfl _ _ rfl hx.loadS) rfl ?_
          refine ⟨((hb.setCell (Nat.le_refl _) _).setCell (Nat.le_refl _) _).setCell (Nat.le_refl _) _, _, _, ⟨[], [], 0⟩, _, rfl, ⟨IsRws.nil _, IsFrames.nil _, ⟨by show (-9223372036854775808 : Int) ≤ 0; omega, by show (0 : Int) ≤ 9223372036854775807; omega⟩, by simp, by simp⟩, .inr ⟨rfl, rfl, ?_⟩⟩
          rintro ⟨s, g1, g2, g3⟩
          have h3 := (KEY.out s g1 g2 g3).1
          rw [h3] at g1
          exact HM.out g1
    have f0 : decide ((0 : Int) < (n : Int)) = true := decide_eq_true (by omega)
    cases s with
    | none =>
      have c1 : w1.cell? ⟨w0.heap.size, 1, none⟩ = some (.bool true) := c1
      rw [framesL_none, List.append_nil] at hv
      have HC := Lib.hid (show stateR (some l) = (⟨vals, acc, asks⟩, (none : Option (List UInt8))) from hv)
      have key : ∀ y : SEnt, y.may → y.ok → stateB y = l → y = ⟨vals, acc, asks⟩ ∧ (none : Option (List UInt8)) = some [] := by
        intro y h1 h2 h3
        have h4 := stateR_put y h1 h2
        rw [h3, HC.out] at h4
        injection h4 with h4 h5
        exact ⟨h4.symm, h5⟩
      have KEY := Lib.hid key
      have hst : IsState w1 (.slice au vals.length capu) (.slice av acc.length capv) ⟨vals, acc, asks⟩ := ⟨hu, HOF.out.isFrames, ⟨by show (-9223372036854775808 : Int) ≤ asks; omega, by show asks ≤ 9223372036854775807; omega⟩, HVO.out, by obtain ⟨_, _, _, h, _⟩ := HOF.out; exact h⟩
      have HST := Lib.hid hst
      obtain ⟨s0, s1, s2⟩ := hS.three
      clear key hv hlen hst HC
      go_wp2_with fail
      refine (encState_any _ _ ⟨vals, acc, asks⟩ w1 HST.out).mono ?_
      rintro x w2 ⟨c, rfl, hb2, hc⟩
      obtain ⟨ar, nr, capr, hbk2, -⟩ := HRD.out.below hb2
      have d1 : w2.cell? ⟨w0.heap.size, 1, none⟩ = some (.bool true) := hbk2.cell 1
      have hC2 := hC.below hb2 hC.lt
      obtain ⟨c0', c1', c2'⟩ := hC2.three
      have z0 := hC2.free 0
      have z1 := hC2.free 1
      have z2 := hC2.free 2
      have hS2 := hS.below hb2 hS.lt
      obtain ⟨s0', s1', s2'⟩ := hS2.three
      have hbl := HB.out.below ((hb.trans (hb2.mono hb.size)).mono (Nat.le_refl _))
      have HBL := Lib.hid hbl
      have HSZ2 := Lib.hid hb2.size
      have HOF2 := Lib.hid (HOF.out.keeps (T := fun _ => False) (Keeps.ofBelow hb2) (fun _ h => h.elim))
      have HU2 := Lib.hid (hu.below hb2)
      replace hb := hb.trans (hb2.mono hb.size)
      clear hbk2 hbl hb2 c1 hC s0 s1 s2 hu hS
      clear hc
      go_wp2_with fail
      have hx := hC2.set3 (.slice none 0 0) (.slice none 0 0) (.int .i64 0)
      refine bodyPost_ret (results_cell2 rfl _ _ rfl hx.loadS) rfl ?_
      refine ⟨((hb.setCell (Nat.le_refl _) _).setCell (Nat.le_refl _) _).setCell (Nat.le_refl _) _, _, _, ⟨[], [], 0⟩, _, rfl, ⟨IsRws.nil _, IsFrames.nil _, ⟨by show (-9223372036854775808 : Int) ≤ 0; omega, by show (0 : Int) ≤ 9223372036854775807; omega⟩, by simp, by simp⟩, .inr ⟨rfl, rfl, ?_⟩⟩
      rintro ⟨s, g1, g2, g3⟩
      have := (KEY.out s g1 g2 g3).2
      cases this
    | some s =>
      have c1 : w1.cell? ⟨w0.heap.size, 1, none⟩ = some (.bool false) := c1
      obtain ⟨n', rfl⟩ : ∃ n', n = n' + 1 := ⟨n - 1, by omega⟩
      have HV := Lib.hid hv
      obtain ⟨locs, r1, e0⟩ : ∃ x t, valsR (some s) = (x, t) := ⟨_, _, rfl⟩
      obtain ⟨x0, r2, e1⟩ : ∃ x t, numR r1 = (x, t) := ⟨_, _, rfl⟩
      obtain ⟨x1, r3, e2⟩ : ∃ x t, numR r2 = (x, t) := ⟨_, _, rfl⟩
      obtain ⟨x2, r4, e3⟩ : ∃ x t, numR r3 = (x, t) := ⟨_, _, rfl⟩
      obtain ⟨k0, r5, e4⟩ : ∃ x t, numR r4 = (x, t) := ⟨_, _, rfl⟩
      have b1 := numR_lt r1
      have b2 := numR_lt r2
      have b3 := numR_lt r3
      have b4 := numR_lt r4
      have t1 := stl_numM r1
      have t2 := stl_num' r2
      have t3 := stl_num' r3
      have t4 := stl_num' r4
      rw [e1] at b1 t1
      rw [e2] at b2 t2
      rw [e3] at b3 t3
      rw [e4] at b4 t4
      simp only at b1 b2 b3 b4 t1 t2 t3 t4
      have hsl : stl (some s) = s.length + 1 := rfl
      have hacc : acc.length ≤ 400001 := by omega
      have hs3 : stl (some s) ≤ 500000 := by omega
      have HT := Lib.hid (show stl r1 ≤ stl (some s) → ∀ r6, stl r6 ≤ stl r5 → acc.length + 1 + stl r6 ≤ l.length + 1 by intro _ r6 _; omega)
      have HT5 := Lib.hid (show stl r1 ≤ stl (some s) → stl r5 ≤ 500000 by intro _; omega)
      clear hv hlen t1 t2 t3 t4 hsl
      go_wp2_with fail
      refine (vals_read w.heap.size w0.heap.size (some s) w1 HRD.out hs3 (by omega)).mono ?_
      rintro x w2 ⟨u, rfl, hou, hvo, hvl, hr2, hk2⟩
      rw [e0] at hou hvo hvl hr2
      simp only at hou hvo hvl hr2
      have hsz2 := hk2.size
      have hui := hou.isRws encV_len
      have hub := hou.block
      obtain ⟨au', capu', rfl, -, hcu', -⟩ := id hui
      unfold maxLen at hcu'
      have HLV := Lib.hid hvo
      have HT := Lib.hid (HT.out (by omega))
      have hT5 := HT5.out (by omega)
      have HUI := Lib.hid hui
      have HUR := Lib.hid hub
      have HR2 := Lib.hid hr2
      clear hou hvo hvl hr2 hui hub HT5 HRD c1
      go_wp2_with fail
      refine (num_read w.heap.size w0.heap.size r1 w2 HR2.out).mono ?_
      rintro x w3 ⟨rfl, hr3, hk3⟩
      rw [e1] at hr3 ⊢
      have HR3 := Lib.hid hr3
      have hsz3 := hk3.size
      clear hr3 HR2
      go_wp2_with fail
      refine (num_read w.heap.size w0.heap.size r2 w3 HR3.out).mono ?_
      rintro x w4 ⟨rfl, hr4, hk4⟩
      rw [e2] at hr4 ⊢
      have HR4 := Lib.hid hr4
      have hsz4 := hk4.size
      clear hr4 HR3
      go_wp2_with fail
      refine (num_read w.heap.size w0.heap.size r3 w4 HR4.out).mono ?_
      rintro x w5 ⟨rfl, hr5, hk5⟩
      rw [e3] at hr5 ⊢
      have HR5 := Lib.hid hr5
      have hsz5 := hk5.size
      have hk25 : Keeps (fun k => k = w0.heap.size) w2 w5 := (hk3.trans hk4 (fun i h => .inl h)).trans hk5 (fun i h => .inl h)
      have hk15 : Keeps (fun k => k = w0.heap.size) w1 w5 := hk2.trans hk25 (fun i h => .inl h)
      have HLO := Lib.hid (HUI.out.keeps hk25 (fun a n cp he hj => by have := (HUR.out a n cp he).1; omega))
      have HLOB := Lib.hid (show ∀ a n cp, Value.slice au' locs.length capu' = .slice (some a) n cp → w1.heap.size ≤ a.block ∧ a.block < w5.heap.size from fun a n cp he => by have := HUR.out a n cp he; omega)
      have hsz15 := hk15.size
      clear hr5 HR4 hk2 hk3 hk4 hk5 hk25 HUI hsz3 hsz4
      go_wp2_with fail
      have hF0 := Blk.new w5 #[.int .i64 x0, .int .i64 x1, .slice au' locs.length capu', .int .i64 x2, .slice none 0 0] 42
      have hr5 := HR5.out.below ((Below.refl w5.heap.size w5).alloc (Nat.le_refl _) (.cells #[.int .i64 x0, .int .i64 x1, .slice au' locs.length capu', .int .i64 x2, .slice none 0 0] 42))
      have hka := (Keeps.refl (fun k => k = w0.heap.size) w5).alloc (.cells #[.int .i64 x0, .int .i64 x1, .slice au' locs.length capu', .int .i64 x2, .slice none 0 0] 42)
      obtain ⟨F, hF⟩ : ∃ F, F = w5.heap.size := ⟨_, rfl⟩
      rw [← hF] at hF0 ⊢
      have hFa : w5.heap.size ≤ F := by omega
      have hFb : F < w5.heap.size + 1 := by omega
      clear hF
      refine (num_read w.heap.size w0.heap.size r4 _ hr5).mono ?_
      rintro x w6 ⟨rfl, hr6, hk6⟩
      rw [e4] at hr6 ⊢
      have hF6 := hF0.keeps hk6 (by omega)
      have hk56 := hka.trans hk6 (fun i h => .inl h)
      clear hk6 hka hF0 hr5 HR5
      have HRO := HR
      clear HR
      go_wp2_with fail
      refine wp_loop_r (fun a' w' => ∃ (v : Value) (accl : List LEnt) (k : Nat) (r : Option (List UInt8)), a' = { tmps := #[.slice a l.length cap, slot a' 1, .pointer (some ⟨w.heap.size, 0, none⟩), .int .i64 0, .pointer (some ⟨w0.heap.size, 0, none⟩), .pointer (some ⟨Sb, 0, none⟩), .int .i64 ((n' + 1 : Nat) : Int), .pointer (some ⟨F, 0, none⟩), .int .i64 k, slot a' 9, slot a' 10, slot a' 11, slot a' 12, slot a' 13, slot a' 14, slot a' 15, slot a' 16, slot a' 17, slot a' 18, slot a' 19, slot a' 20, slot a' 21, slot a' 22, slot a' 23, slot a' 24, slot a' 25, slot a' 26, slot a' 27, slot a' 28, slot a' 29, slot a' 30, slot a' 31, slot a' 32, slot a' 33, slot a' 34, slot a' 35, slot a' 36, slot a' 37, slot a' 38, slot a' 39, slot a' 40, slot a' 41, slot a' 42, slot a' 43, slot a' 44, slot a' 45, slot a' 46, slot a' 47, slot a' 48, slot a' 49, slot a' 50, slot a' 51, slot a' 52, slot a' 53, slot a' 54, slot a' 55, slot a' 56, slot a' 57, slot a' 58, slot a' 59, slot a' 60, slot a' 61, slot a' 62, slot a' 63, slot a' 64, slot a' 65, slot a' 66, slot a' 67, slot a' 68, slot a' 69, slot a' 70, slot a' 71, slot a' 72, slot a' 73, slot a' 74, slot a' 75, slot a' 76, slot a' 77, slot a' 78, slot a' 79, slot a' 80, slot a' 81, slot a' 82, slot a' 83, slot a' 84, slot a' 85, slot a' 86, slot a' 87], defers := [] } ∧ DecLJ w.heap.size w0.heap.size F (fun v => #[.int .i64 x0, .int .i64 x1, .slice au' locs.length capu', .int .i64 x2, v]) k0 r5 w5 w' v accl k r) (fun a' _ => (intOf (a'.tmps.getD 8 undef)).toNat) ?_ ?_
      · exact ⟨_, [], k0, r5, rfl, ⟨by simp, OwnRws.nil _ _, by simp, by simp, hr6, hF6, hk56, b4⟩⟩
      · clear hr6 hF6 hk56 b4
        rintro R a' w7 ⟨v, accl, k, r, hfr, hJ⟩ HR
        obtain ⟨f, hf⟩ : ∃ f, f = slot a' := ⟨_, rfl⟩
        rw [← hf] at hfr
        clear hf
        subst hfr
        obtain ⟨hvl, hol, hokl, hlenl, hrd, hF, hk56, hk⟩ := hJ
        obtain ⟨al, capl, rfl, -, hcl, -⟩ := hol.isRws encL_len
        unfold maxLen at hcl
        obtain ⟨ar, nr, capr, hbk, _⟩ := id hrd
        have c1 : w7.cell? ⟨w0.heap.size, 1, none⟩ = some (.bool r.isNone) := hbk.cell 1
        clear hbk
        rcases Nat.eq_zero_or_pos k with hk0 | hk0
        · subst hk0
          rw [labsL] at hvl
          have HFR := Lib.hid (show frameR (some s) = (⟨x0, x1, locs, x2, accl⟩, r) by
            rw [frameR, e0, e1, e2, e3, e4, hvl]
            simp)
          obtain ⟨f0', f1', f2', f3', f4'⟩ := hF.five
          have HR6 := Lib.hid hrd
          have hk16 := hk15.trans hk56 (fun i h => .inl h)
          have hof6 := HOF.out.keeps hk16 (fun i h => by omega)
          have hS6 := hS.keeps hk16 (by omega)
          have hC6 := hC.keeps hk16 (by omega)
          have hu6 := hu.keeps hk16 (fun a n cp he hj => by have := (HUB.out a n cp he).1; omega)
          have hb6 := hb.trans (hk16.below hb.size (fun i h => by omega))
          have hl6 := HLO.out.keeps hk56 (fun a n cp he hj => by have := (HLOB.out a n cp he).1; omega)
          have hlb := hol.block
          have hli := hol.isRws encL_len
          have hvlt : ∀ i, OwnB (.slice av acc.length capv) i → i < w1.heap.size := fun i hi => (HOF.out.lt hi).2
          have hInB : ∀ u : Value, (∀ a n cp, u = .slice (some a) n cp → w1.heap.size ≤ a.block ∧ a.block < w7.heap.size) → InB (Sb + 1) w7 (.slice av acc.length capv) u := fun u hx a n cp he => by
            obtain ⟨g1, g2⟩ := hx a n cp he
            exact ⟨by omega, g2, fun h => by have := hvlt _ h; omega⟩
          have hsz56 := hk56.size
          have hsz16 := hk16.size
          have HU6 := Lib.hid (show (IsRws 2 encV w7 (Value.slice au' locs.length capu') locs ∧ InB (Sb + 1) w7 (.slice av acc.length capv) (.slice au' locs.length capu')) ∧ IsRws 2 encL w7 (.slice al accl.length capl) accl ∧ InB (Sb + 1) w7 (.slice av acc.length capv) (.slice al accl.length capl) from
            ⟨⟨hl6, hInB _ (fun a n cp he => by have := HLOB.out a n cp he; omega)⟩, hli, hInB _ (fun a n cp he => by have := hlb a n cp he; omega)⟩)
          have HOKF := Lib.hid (show FEnt.ok ⟨x0, x1, locs, x2, accl⟩ from ⟨⟨by show (-9223372036854775808 : Int) ≤ (x0 : Int); omega, by show (x0 : Int) ≤ 9223372036854775807; omega⟩, ⟨by show (-9223372036854775808 : Int) ≤ (x1 : Int); omega, by show (x1 : Int) ≤ 9223372036854775807; omega⟩, ⟨by show (-9223372036854775808 : Int) ≤ (x2 : Int); omega, by show (x2 : Int) ≤ 9223372036854775807; omega⟩, HLV.out, hokl⟩)
          obtain ⟨p0, p1, p2⟩ := hS6.three
          have HTL := Lib.hid (show acc.length + 1 + stl r ≤ l.length + 1 from HT.out _ (by omega))
          clear hvl hokl hrd hk15 hk56 hl6 hlb hli hvlt hInB e0 e1 e2 e3 e4 hC hS hu hb HLOB HLO HUR HT hlenl hol hF
          go_wp2_with (first | (at_builtin; refine Stop.out ?_))
          change wpList _ _ _ _ _ (World.alloc _ (.cells #[.int .i64 x0, .int .i64 x1, .slice au' locs.length capu', .int .i64 x2, .slice al accl.length capl] 42))
          obtain ⟨us, k1, k2, k3, k4⟩ := hof6
          have hzl : (acc.zip us).length ≤ 400002 := by rw [List.length_zip]; omega
          refine wpList_row1 w7 rfl _ _ 23 rfl _ 72 (by kernel_rfl) info_frame rfl (by decide) (by decide) (Sb + 1) (.slice av acc.length capv) (acc.zip us) rfl k2 ((⟨x0, x1, locs, x2, accl⟩, (.slice au' locs.length capu', .slice al accl.length capl)) : FEnt × Value × Value) _ rfl rfl (by intro q hq; simp only [encF, List.mem_cons, List.not_mem_nil, or_false] at hq; rcases hq with rfl | rfl | rfl | rfl | rfl <;> rfl) rfl (by omega) (by omega) ?_
          intro v8 w8 ho8 hk8 hs8
          have hown : ∀ i, OwnB (.slice av acc.length capv) i → Sb + 1 ≤ i := fun i hi => (own_lt k2 hi).1
          have hof8 := OwnFrames.app k1 k3 k4 hk8 hs8 HOKF.out HU6.out ho8
          generalize hA : acc ++ [(⟨x0, x1, locs, x2, accl⟩ : FEnt)] = acc9 at hof8
          have HA := Lib.hid hA
          clear hA
          have hr8 := HR6.out.keeps hk8 (fun h => by have := hown _ h; omega) (fun i hi => by have := hown _ hi; omega)
          have hC8 := hC6.keeps hk8 (fun h => by have := hown _ h; omega)
          have hS8 := hS6.keeps hk8 (fun h => by have := hown _ h; omega)
          have hu8 := hu6.keeps hk8 (fun a n cp he hj => by have := (HUB.out a n cp he).2; have := hown _ hj; omega)
          have hb8 := hb6.trans (hk8.below (by omega) (fun i hi => by have := hown _ hi; omega))
          obtain ⟨av8, capv8, rfl, -, -⟩ := hof8.isFrames.slice
          have y1 := hS8.free 1
          obtain ⟨q0', q1', q2'⟩ := hS8.three
          have hkx := setKeeps w8 Sb 1 (.slice av8 acc9.length capv8)
          have hof9 := hof8.keeps hkx (fun i h => by omega)
          have hr9 := hr8.keeps hkx (by omega) (fun i h => by omega)
          have hC9 := hC8.keeps hkx (by omega)
          have hS9 := hS8.set 1 (.slice av8 acc9.length capv8)
          have hu9 := hu8.keeps hkx (fun a n cp he hj => by have := (HUB.out a n cp he).2; omega)
          have hb9 := hb8.trans (hkx.below hb8.size (fun i h => by omega))
          have HOF9 := Lib.hid hof9
          have HR9 := Lib.hid hr9
          have HC9 := Lib.hid hC9
          have HS9 := Lib.hid hS9
          have HU9 := Lib.hid hu9
          clear hof9 hr9 hC9 hS9 hu9 hkx hof8 hr8 hC8 hS8 hu8 hb8 hown ho8 hk8 hs8 k1 k2 k3 k4 hC6 hS6 hu6 hb6 hk16 p0 p1 p2 f0' f1' f2' f3' f4' c1
          go_wp2_with fail
          refine HRO.out _ _ ⟨_, acc9, n', r, rfl, ⟨?_, HOF9.out, ?_, HR9.out, HC9.out, by simpa using HS9.out, HU9.out, hb9, by omega⟩⟩ ?_
          · rw [HV.out, framesL, HFR.out, ← HA.out]
            simp
          · rw [← HA.out, List.length_append]
            exact HTL.out
          · simp [intOf]
        have f1 : decide ((0 : Int) < (k : Int)) = true := decide_eq_true (by omega)
        cases r with
        | none =>
          have c1 : w7.cell? ⟨w0.heap.size, 1, none⟩ = some (.bool true) := c1
          rw [labsL_none] at hvl
          have HFR := Lib.hid (show frameR (some s) = (⟨x0, x1, locs, x2, accl⟩, (none : Option (List UInt8))) by
            rw [frameR, e0, e1, e2, e3, e4, hvl]
            simp)
          obtain ⟨f0', f1', f2', f3', f4'⟩ := hF.five
          have HR6 := Lib.hid hrd
          have hk16 := hk15.trans hk56 (fun i h => .inl h)
          have hof6 := HOF.out.keeps hk16 (fun i h => by omega)
          have hS6 := hS.keeps hk16 (by omega)
          have hC6 := hC.keeps hk16 (by omega)
          have hu6 := hu.keeps hk16 (fun a n cp he hj => by have := (HUB.out a n cp he).1; omega)
          have hb6 := hb.trans (hk16.below hb.size (fun i h => by omega))
          have hl6 := HLO.out.keeps hk56 (fun a n cp he hj => by have := (HLOB.out a n cp he).1; omega)
          have hlb := hol.block
          have hli := hol.isRws encL_len
          have hvlt : ∀ i, OwnB (.slice av acc.length capv) i → i < w1.heap.size := fun i hi => (HOF.out.lt hi).2
          have hInB : ∀ u : Value, (∀ a n cp, u = .slice (some a) n cp → w1.heap.size ≤ a.block ∧ a.block < w7.heap.size) → InB (Sb + 1) w7 (.slice av acc.length capv) u := fun u hx a n cp he => by
            obtain ⟨g1, g2⟩ := hx a n cp he
            exact ⟨by omega, g2, fun h => by have := hvlt _ h; omega⟩
          have hsz56 := hk56.size
          have hsz16 := hk16.size
          have HU6 := Lib.hid (show (IsRws 2 encV w7 (Value.slice au' locs.length capu') locs ∧ InB (Sb + 1) w7 (.slice av acc.length capv) (.slice au' locs.length capu')) ∧ IsRws 2 encL w7 (.slice al accl.length capl) accl ∧ InB (Sb + 1) w7 (.slice av acc.length capv) (.slice al accl.length capl) from
            ⟨⟨hl6, hInB _ (fun a n cp he => by have := HLOB.out a n cp he; omega)⟩, hli, hInB _ (fun a n cp he => by have := hlb a n cp he; omega)⟩)
          have HOKF := Lib.hid (show FEnt.ok ⟨x0, x1, locs, x2, accl⟩ from ⟨⟨by show (-9223372036854775808 : Int) ≤ (x0 : Int); omega, by show (x0 : Int) ≤ 9223372036854775807; omega⟩, ⟨by show (-9223372036854775808 : Int) ≤ (x1 : Int); omega, by show (x1 : Int) ≤ 9223372036854775807; omega⟩, ⟨by show (-9223372036854775808 : Int) ≤ (x2 : Int); omega, by show (x2 : Int) ≤ 9223372036854775807; omega⟩, HLV.out, hokl⟩)
          obtain ⟨p0, p1, p2⟩ := hS6.three
          have HTL := Lib.hid (show acc.length + 1 + stl (none : Option (List UInt8)) ≤ l.length + 1 from HT.out _ (by omega))
          clear hvl hokl hrd hk15 hk56 hl6 hlb hli hvlt hInB e0 e1 e2 e3 e4 hC hS hu hb HLOB HLO HUR HT hlenl hol hF
          go_wp2_with (first | (at_builtin; refine Stop.out ?_))
          change wpList _ _ _ _ _ (World.alloc _ (.cells #[.int .i64 x0, .int .i64 x1, .slice au' locs.length capu', .int .i64 x2, .slice al accl.length capl] 42))
          obtain ⟨us, k1, k2, k3, k4⟩ := hof6
          have hzl : (acc.zip us).length ≤ 400002 := by rw [List.length_zip]; omega
          refine wpList_row1 w7 rfl _ _ 23 rfl _ 72 (by kernel_rfl) info_frame rfl (by decide) (by decide) (Sb + 1) (.slice av acc.length capv) (acc.zip us) rfl k2 ((⟨x0, x1, locs, x2, accl⟩, (.slice au' locs.length capu', .slice al accl.length capl)) : FEnt × Value × Value) _ rfl rfl (by intro q hq; simp only [encF, List.mem_cons, List.not_mem_nil, or_false] at hq; rcases hq with rfl | rfl | rfl | rfl | rfl <;> rfl) rfl (by omega) (by omega) ?_
          intro v8 w8 ho8 hk8 hs8
          have hown : ∀ i, OwnB (.slice av acc.length capv) i → Sb + 1 ≤ i := fun i hi => (own_lt k2 hi).1
          have hof8 := OwnFrames.app k1 k3 k4 hk8 hs8 HOKF.out HU6.out ho8
          generalize hA : acc ++ [(⟨x0, x1, locs, x2, accl⟩ : FEnt)] = acc9 at hof8
          have HA := Lib.hid hA
          clear hA
          have hr8 := HR6.out.keeps hk8 (fun h => by have := hown _ h; omega) (fun i hi => by have := hown _ hi; omega)
          have hC8 := hC6.keeps hk8 (fun h => by have := hown _ h; omega)
          have hS8 := hS6.keeps hk8 (fun h => by have := hown _ h; omega)
          have hu8 := hu6.keeps hk8 (fun a n cp he hj => by have := (HUB.out a n cp he).2; have := hown _ hj; omega)
          have hb8 := hb6.trans (hk8.below (by omega) (fun i hi => by have := hown _ hi; omega))
          obtain ⟨av8, capv8, rfl, -, -⟩ := hof8.isFrames.slice
          have y1 := hS8.free 1
          obtain ⟨q0', q1', q2'⟩ := hS8.three
          have hkx := setKeeps w8 Sb 1 (.slice av8 acc9.length capv8)
          have hof9 := hof8.keeps hkx (fun i h => by omega)
          have hr9 := hr8.keeps hkx (by omega) (fun i h => by omega)
          have hC9 := hC8.keeps hkx (by omega)
          have hS9 := hS8.set 1 (.slice av8 acc9.length capv8)
          have hu9 := hu8.keeps hkx (fun a n cp he hj => by have := (HUB.out a n cp he).2; omega)
          have hb9 := hb8.trans (hkx.below hb8.size (fun i h => by omega))
          have HOF9 := Lib.hid hof9
          have HR9 := Lib.hid hr9
          have HC9 := Lib.hid hC9
          have HS9 := Lib.hid hS9
          have HU9 := Lib.hid hu9
          clear hof9 hr9 hC9 hS9 hu9 hkx hof8 hr8 hC8 hS8 hu8 hb8 hown ho8 hk8 hs8 k1 k2 k3 k4 hC6 hS6 hu6 hb6 hk16 p0 p1 p2 f0' f1' f2' f3' f4' c1
          go_wp2_with fail
          refine HRO.out _ _ ⟨_, acc9, n', (none : Option (List UInt8)), rfl, ⟨?_, HOF9.out, ?_, HR9.out, HC9.out, by simpa using HS9.out, HU9.out, hb9, by omega⟩⟩ ?_
          · rw [HV.out, framesL, HFR.out, ← HA.out]
            simp
          · rw [← HA.out, List.length_append]
            exact HTL.out
          · simp [intOf]
        | some r =>
          have c1 : w7.cell? ⟨w0.heap.size, 1, none⟩ = some (.bool false) := c1
          obtain ⟨k', rfl⟩ : ∃ k', k = k' + 1 := ⟨k - 1, by omega⟩
          have HVL := Lib.hid hvl
          have HOKL := Lib.hid hokl
          obtain ⟨y0, q1, g0⟩ : ∃ x t, numR (some r) = (x, t) := ⟨_, _, rfl⟩
          obtain ⟨y1, q2, g1⟩ : ∃ x t, numR q1 = (x, t) := ⟨_, _, rfl⟩
          have by0 := numR_lt (some r)
          have by1 := numR_lt q1
          have ty0 := stl_num r
          have ty1 := stl_num' q1
          rw [g0] at by0 ty0
          rw [g1] at by1 ty1
          simp only at by0 by1 ty0 ty1
          have HLL := Lib.hid (show accl.length + 1 + stl q2 ≤ stl r5 by omega)
          have hal : accl.length ≤ 500000 := by omega
          have HRD7 := Lib.hid hrd
          have HOL := Lib.hid hol
          have hlab := hF.cell 4
          have hlab : w7.cell? ⟨F, 4, none⟩ = some (.slice al accl.length capl) := hlab
          have hFlt := hF.lt
          clear hvl hokl hlenl ty0 ty1 hrd hol
          go_wp2_with fail
          refine wp_region_last (fun w' => w'.cell? ⟨F, 4, none⟩ = some (.slice al accl.length capl)) 10
            [(0, true), (1, true), (2, true), (4, true), (3, false), (5, false), (6, false), (7, false), (8, false), (9, true)] (by kernel_rfl) (by kernel_rfl) hlab ?_
          clear c1 hlab
          iterate 4 (first | (apply seg_skip rfl rfl; simp only [Act.put, List.setIfInBounds_toArray, List.set_cons_succ, List.set_cons_zero]) | (apply seg_pure rfl rfl rfl; · (rintro w' t0; go_wp2; exact ⟨rfl, rfl, rfl⟩)))
          refine seg_loud rfl rfl ?_
          go_wp2_with fail
          refine (num_read w.heap.size w0.heap.size (some r) w7.drew HRD7.out).mono ?_
          rintro x w8 ⟨rfl, hr8, hk8⟩
          rw [g0] at hr8 ⊢
          have hF8 := hF.drew.keeps hk8 (by omega)
          have hk78 := hk8.undrew
          clear hk8
          go_wp2_with fail
          refine ⟨hF8.cell 4, ?_⟩
          refine seg_loud rfl rfl ?_
          go_wp2_with fail
          refine (num_read w.heap.size w0.heap.size q1 w8 hr8).mono ?_
          rintro x w9 ⟨rfl, hr9, hk9⟩
          rw [g1] at hr9 ⊢
          have hF9 := hF8.keeps hk9 (by omega)
          have hk79 := hk78.trans hk9 (fun i h => .inl h)
          have hsz79 := hk79.size
          have hsz57 := hk56.size
          have hol9 := HOL.out.keeps hk79 (fun i hi => by have := (own_lt HOL.out hi).1; omega)
          have hk59 := hk56.trans hk79 (fun i h => .inl h)
          have HR9 := Lib.hid hr9
          clear hk78 hk9 hF8 hr8 hr9 hk79 hk56 HRD7 HOL hF
          go_wp2_with fail
          refine ⟨hF9.cell 4, ?_⟩
          refine seg_loud rfl rfl ?_
          go_wp2_with fail
          refine ⟨hF9.cell 4, ?_⟩
          refine seg_loud rfl rfl ?_
          go_wp2_with fail
          refine ⟨(hF9.alloc _).cell 4, ?_⟩
          refine seg_loud rfl rfl ?_
          refine wpList_row1 w9 rfl _ _ 40 rfl _ 16 (by kernel_rfl) info_label rfl (by decide) (by decide) (F + 1) (.slice al accl.length capl) accl rfl hol9 (⟨y0, y1⟩ : LEnt) _ rfl rfl (encL_one _) rfl (by omega) (by omega) ?_
          intro v10 w10 ho10 hk10 hs10
          have hown : ∀ i, OwnB (.slice al accl.length capl) i → F + 1 ≤ i := fun i hi => (own_lt hol9 hi).1
          have hr10 := HR9.out.keeps hk10 (fun h => by have := hown _ h; omega) (fun i hi => by have := hown _ hi; omega)
          have hF10 := hF9.keeps hk10 (fun h => by have := hown _ h; omega)
          have hk5a := hk59.trans hk10 (fun i h => .inr (by have := hown _ h; omega))
          generalize hA : accl ++ [(⟨y0, y1⟩ : LEnt)] = acc9 at ho10
          have HA := Lib.hid hA
          obtain ⟨a9, cap9, rfl, -, -⟩ := ho10.isRws encL_len
          clear hA hk10 hs10 hown hk59 hF9 hol9 HR9
          have y1' := hF10.free 4
          have hlab : w10.cell? ⟨F, 4, none⟩ = some (.slice al accl.length capl) := hF10.cell 4
          go_wp2_with fail
          refine ⟨hlab, ?_⟩
          iterate 1 (first | (apply seg_skip rfl rfl; simp only [Act.put, List.setIfInBounds_toArray, List.set_cons_succ, List.set_cons_zero]) | (apply seg_pure rfl rfl rfl; · (rintro w' t0; go_wp2; exact ⟨rfl, rfl, rfl⟩)))
          refine seg_last rfl rfl ?_
          have hkx := setKeeps w10 F 4 (.slice a9 acc9.length cap9)
          have hlx := ho10.keeps hkx (fun i hi => by have := (own_lt ho10 hi).1; omega)
          have hrx := hr10.keeps hkx (by omega) (fun i h => by omega)
          have hFx := hF10.set 4 (.slice a9 acc9.length cap9)
          have hk5x := hk5a.trans hkx (fun i h => .inr (by omega))
          have HLX := Lib.hid hlx
          have HRX := Lib.hid hrx
          have HFX := Lib.hid hFx
          clear hlx hrx hFx hkx hk5a ho10 hr10 hF10
          go_wp2_with fail
          refine ⟨trivial, ?_⟩
          refine NoPanic.normal ?_
          go_wp2_with fail
          refine HR.out _ _ ⟨_, acc9, k', q2, rfl, ⟨?_, HLX.out, ?_, ?_, HRX.out, by simpa using HFX.out, hk5x, by omega⟩⟩ ?_
          · rw [HVL.out, labsL, g0]
            simp only [g1, ← HA.out]
            simp
          · rw [← HA.out]
            intro z hz
            rcases List.mem_append.1 hz with h | h
            · exact HOKL.out z h
            · obtain rfl := List.mem_singleton.1 h
              exact ⟨⟨by show (-9223372036854775808 : Int) ≤ (y0 : Int); omega, by show (y0 : Int) ≤ 9223372036854775807; omega⟩, by show (-9223372036854775808 : Int) ≤ (y1 : Int); omega, by show (y1 : Int) ≤ 9223372036854775807; omega⟩
          · rw [← HA.out, List.length_append]
            exact HLL.out
          · simp [intOf]
end Go.Proofs.Ytpknafidbmnjpaa
