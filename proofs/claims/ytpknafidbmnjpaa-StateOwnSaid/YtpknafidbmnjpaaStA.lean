/-
  States: what they read as, which may be, their bytes. No condition.
-/
import Derived.Test.YtpknafidbmnjpaaReadV
namespace Go.Proofs.Ytpknafidbmnjpaa
open Go.RowKit

/-- A label. -/
structure LEnt where
  pos : Int
  height : Int
deriving DecidableEq

def encL (l : LEnt) : List Value := [.int .i64 l.pos, .int .i64 l.height]
theorem encL_len (l : LEnt) : (encL l).length = 2 := rfl
theorem encL_one (l : LEnt) : ∀ u ∈ encL l, u.oneCell' = true := by
  intro u hu
  simp only [encL, List.mem_cons, List.not_mem_nil, or_false] at hu
  rcases hu with rfl | rfl <;> rfl

/-- A frame. -/
structure FEnt where
  fn : Int
  pc : Int
  locals : List VEnt
  base : Int
  labels : List LEnt
deriving DecidableEq

def encF (x : FEnt × Value × Value) : List Value := [.int .i64 x.1.fn, .int .i64 x.1.pc, x.2.1, .int .i64 x.1.base, x.2.2]
theorem encF_len (x : FEnt × Value × Value) : (encF x).length = 5 := rfl

/-- A state. -/
structure SEnt where
  vals : List VEnt
  frames : List FEnt
  asks : Int
deriving DecidableEq

def InI (n : Int) : Prop := -9223372036854775808 ≤ n ∧ n ≤ 9223372036854775807
def LEnt.ok (l : LEnt) : Prop := InI l.pos ∧ InI l.height
def FEnt.ok (f : FEnt) : Prop := InI f.fn ∧ InI f.pc ∧ InI f.base ∧ (∀ v ∈ f.locals, v.ok) ∧ ∀ l ∈ f.labels, l.ok
def SEnt.ok (s : SEnt) : Prop := InI s.asks ∧ (∀ v ∈ s.vals, v.ok) ∧ ∀ f ∈ s.frames, f.ok

/-- A slice that reads as these frames. -/
def IsFrames (w : World) (v : Value) (l : List FEnt) : Prop :=
  ∃ us : List (Value × Value), us.length = l.length ∧ IsRws 5 encF w v (l.zip us) ∧
    (∀ (i : Nat) (f : FEnt) (u : Value × Value), l[i]? = some f → us[i]? = some u → IsRws 2 encV w u.1 f.locals ∧ IsRws 2 encL w u.2 f.labels) ∧ ∀ f ∈ l, f.ok

theorem IsFrames.below {w w' : World} {v : Value} {l : List FEnt} (h : IsFrames w v l) (hb : Below w.heap.size w w') : IsFrames w' v l := by
  obtain ⟨us, h1, h2, h3, h4⟩ := h
  exact ⟨us, h1, h2.below hb, fun i c u hc hu => ⟨(h3 i c u hc hu).1.below hb, (h3 i c u hc hu).2.below hb⟩, h4⟩

theorem IsFrames.nil (w : World) : IsFrames w (.slice none 0 0) [] := ⟨[], rfl, IsRws.nil w, by simp, by simp⟩

theorem IsFrames.slice {w : World} {v : Value} {l : List FEnt} (h : IsFrames w v l) : ∃ a cap, v = .slice a l.length cap ∧ l.length ≤ cap ∧ cap ≤ 9223372036854775807 := by
  obtain ⟨us, h1, ⟨a, cap, hv, h2, h3, _⟩, _⟩ := h
  have : (l.zip us).length = l.length := by rw [List.length_zip, h1, Nat.min_self]
  rw [this] at hv h2
  exact ⟨a, cap, hv, h2, h3⟩

theorem IsFrames.get {w : World} {a : Option Addr} {n cap : Nat} {l : List FEnt} (h : IsFrames w (.slice a n cap) l) {k : Nat} {f : FEnt} (hf : l[k]? = some f) : ∃ b off u x, a = some ⟨b, off, none⟩ ∧ b < w.heap.size ∧
    (w.cell? ⟨b, off + k * 5, none⟩ = some (.int .i64 f.fn) ∧ w.cell? ⟨b, off + k * 5 + 1, none⟩ = some (.int .i64 f.pc) ∧ w.cell? ⟨b, off + k * 5 + 2, none⟩ = some u ∧ w.cell? ⟨b, off + k * 5 + 3, none⟩ = some (.int .i64 f.base) ∧
      w.cell? ⟨b, off + k * 5 + 4, none⟩ = some x) ∧ IsRws 2 encV w u f.locals ∧ IsRws 2 encL w x f.labels ∧ f.ok := by
  obtain ⟨us, h1, ⟨a', cap', hv, _, _, h2⟩, h3, h4⟩ := h
  injection hv with e1 e2 e3
  subst e1
  have hk : k < us.length := by rw [h1]; exact (List.getElem?_eq_some_iff.1 hf).1
  have hu := List.getElem?_eq_getElem hk
  have hz : (l.zip us)[k]? = some (f, us[k]) := (List.getElem?_zip_eq_some (z := (f, us[k]))).2 ⟨hf, hu⟩
  obtain ⟨b, off, ha, hlt, hcell⟩ := h2 k _ hz
  obtain ⟨g1, g2⟩ := h3 k f _ hf hu
  exact ⟨b, off, us[k].1, us[k].2, ha, hlt, ⟨hcell 0 _ rfl, hcell 1 _ rfl, hcell 2 _ rfl, hcell 3 _ rfl, hcell 4 _ rfl⟩, g1, g2, h4 f (List.mem_of_getElem? hf)⟩

/-- The parts of a state, by value. -/
def IsState (w : World) (uv uf : Value) (s : SEnt) : Prop := IsRws 2 encV w uv s.vals ∧ IsFrames w uf s.frames ∧ s.ok

theorem IsState.below {w w' : World} {uv uf : Value} {s : SEnt} (h : IsState w uv uf s) (hb : Below w.heap.size w w') : IsState w' uv uf s := ⟨h.1.below hb, h.2.1.below hb, h.2.2⟩

/-- May a number be? -/
def numOk (n : Int) : Bool := decide (0 ≤ n) && decide (n ≤ 10000)
def badN (n : Int) : Bool := decide (n < 0) || decide (10000 < n)
theorem badN_iff {n : Int} : badN n = false ↔ 0 ≤ n ∧ n ≤ 10000 := by
  simp only [badN, Bool.or_eq_false_iff, decide_eq_false_iff_not]
  omega
theorem badN_true {n : Int} : badN n = true ↔ ¬ (0 ≤ n ∧ n ≤ 10000) := by
  rw [← badN_iff]
  simp

def LEnt.may (l : LEnt) : Prop := (0 ≤ l.pos ∧ l.pos ≤ 10000) ∧ (0 ≤ l.height ∧ l.height ≤ 10000)
instance (l : LEnt) : Decidable l.may := by unfold LEnt.may; infer_instance
def FEnt.may (f : FEnt) : Prop :=
  (∀ l ∈ f.labels, l.may) ∧ f.labels.length ≤ 40 ∧ f.locals.length ≤ 32 ∧ (∀ v ∈ f.locals, v.may) ∧ (0 ≤ f.fn ∧ f.fn ≤ 10000) ∧ (0 ≤ f.pc ∧ f.pc ≤ 10000) ∧ (0 ≤ f.base ∧ f.base ≤ 10000)
instance (f : FEnt) : Decidable f.may := by unfold FEnt.may; infer_instance
def SEnt.may (s : SEnt) : Prop := s.vals.length ≤ 1000 ∧ s.frames.length ≤ 32 ∧ -1 ≤ s.asks ∧ s.asks ≤ 10000 ∧ (∀ v ∈ s.vals, v.may) ∧ ∀ f ∈ s.frames, f.may
instance (s : SEnt) : Decidable s.may := by unfold SEnt.may; infer_instance

/-- The bytes. -/
def labB (l : LEnt) : List UInt8 := putU l.pos.toNat ++ putU l.height.toNat
def labsB (l : List LEnt) : List UInt8 := putU l.length ++ (l.map labB).flatten
def frameB (f : FEnt) : List UInt8 := valsB f.locals ++ putU f.fn.toNat ++ putU f.pc.toNat ++ putU f.base.toNat ++ labsB f.labels
def framesB (l : List FEnt) : List UInt8 := (l.map frameB).flatten
def stateB (s : SEnt) : List UInt8 := valsB s.vals ++ putU (s.asks + 1).toNat ++ putU s.frames.length ++ framesB s.frames

theorem labs_len : ∀ l : List LEnt, ((l.map labB).flatten).length ≤ 20 * l.length
  | [] => by simp
  | e :: l => by
    have h1 := (putU_len e.pos.toNat).2
    have h2 := (putU_len e.height.toNat).2
    have h3 := labs_len l
    simp only [List.map_cons, List.flatten_cons, List.length_append, List.length_cons, labB] at *
    omega

theorem frameB_len {f : FEnt} (hm : f.may) (ho : f.ok) : (frameB f).length ≤ 1600 := by
  have h0 := (putU_len f.fn.toNat).2
  have h1 := (putU_len f.pc.toNat).2
  have h2 := (putU_len f.base.toNat).2
  have h3 := (putU_len f.locals.length).2
  have h4 := vals_len f.locals ho.2.2.2.1
  have h5 := (putU_len f.labels.length).2
  have h6 := labs_len f.labels
  have h7 := hm.2.1
  have h8 := hm.2.2.1
  simp only [frameB, valsB, labsB, List.length_append]
  omega

theorem framesB_len : ∀ l : List FEnt, (∀ f ∈ l, f.may ∧ f.ok) → (framesB l).length ≤ 1600 * l.length
  | [], _ => by simp [framesB]
  | f :: l, h => by
    have h1 := frameB_len (h f (by simp)).1 (h f (by simp)).2
    have h2 := framesB_len l (fun x hx => h x (by simp [hx]))
    simp only [framesB, List.map_cons, List.flatten_cons, List.length_append, List.length_cons] at *
    omega

theorem framesB_app (a b : List FEnt) : framesB (a ++ b) = framesB a ++ framesB b := by simp [framesB]

/-- What a reader reads: labels, a frame, frames, a state. -/
def labsL : Nat → Option (List UInt8) → List LEnt × Option (List UInt8)
  | 0, st => ([], st)
  | _ + 1, none => ([], none)
  | n + 1, some l => (⟨(numR (some l)).1, (numR (numR (some l)).2).1⟩ :: (labsL n (numR (numR (some l)).2).2).1, (labsL n (numR (numR (some l)).2).2).2)
theorem labsL_none (n : Nat) : labsL n none = ([], none) := by cases n <;> rfl
def frameR (st : Option (List UInt8)) : FEnt × Option (List UInt8) :=
  (⟨(numR (valsR st).2).1, (numR (numR (valsR st).2).2).1, (valsR st).1, (numR (numR (numR (valsR st).2).2).2).1,
    (labsL (numR (numR (numR (numR (valsR st).2).2).2).2).1 (numR (numR (numR (numR (valsR st).2).2).2).2).2).1⟩,
   (labsL (numR (numR (numR (numR (valsR st).2).2).2).2).1 (numR (numR (numR (numR (valsR st).2).2).2).2).2).2)
def framesL : Nat → Option (List UInt8) → List FEnt × Option (List UInt8)
  | 0, st => ([], st)
  | _ + 1, none => ([], none)
  | n + 1, some l => ((frameR (some l)).1 :: (framesL n (frameR (some l)).2).1, (framesL n (frameR (some l)).2).2)
theorem framesL_none (n : Nat) : framesL n none = ([], none) := by cases n <;> rfl
def stateR (st : Option (List UInt8)) : SEnt × Option (List UInt8) :=
  (⟨(valsR st).1, (framesL (numR (numR (valsR st).2).2).1 (numR (numR (valsR st).2).2).2).1, (numR (valsR st).2).1 - 1⟩, (framesL (numR (numR (valsR st).2).2).1 (numR (numR (valsR st).2).2).2).2)

theorem labsL_put : ∀ (l : List LEnt) (r : List UInt8), (∀ e ∈ l, e.may) → labsL l.length (some ((l.map labB).flatten ++ r)) = (l, some r)
  | [], r, _ => rfl
  | e :: l, r, h => by
    obtain ⟨⟨h0, h1⟩, h2, h3⟩ := h e (by simp)
    have e1 : ((e :: l).map labB).flatten ++ r = putU e.pos.toNat ++ (putU e.height.toNat ++ ((l.map labB).flatten ++ r)) := by simp [labB]
    have g1 : ((e.pos.toNat : Nat) : Int) = e.pos := by omega
    have g2 : ((e.height.toNat : Nat) : Int) = e.height := by omega
    rw [e1, List.length_cons, labsL, numR_put _ _ (by omega)]
    simp only [numR_put e.height.toNat _ (by omega), labsL_put l r (fun x hx => h x (by simp [hx])), g1, g2]

theorem frameR_put (f : FEnt) (r : List UInt8) (hm : f.may) (ho : f.ok) : frameR (some (frameB f ++ r)) = (f, some r) := by
  obtain ⟨m1, m2, m3, m4, ⟨m5, m6⟩, ⟨m7, m8⟩, m9, m10⟩ := hm
  have e1 : frameB f ++ r = valsB f.locals ++ (putU f.fn.toNat ++ (putU f.pc.toNat ++ (putU f.base.toNat ++ (putU f.labels.length ++ ((f.labels.map labB).flatten ++ r))))) := by simp [frameB, labsB]
  have g1 : ((f.fn.toNat : Nat) : Int) = f.fn := by omega
  have g2 : ((f.pc.toNat : Nat) : Int) = f.pc := by omega
  have g3 : ((f.base.toNat : Nat) : Int) = f.base := by omega
  have h0 : ∀ r, valsR (some (valsB f.locals ++ r)) = (f.locals, some r) := fun r => valsR_put _ r (fun v hv => ⟨m4 v hv, ho.2.2.2.1 v hv⟩) (by omega)
  have h1 : ∀ r, numR (some (putU f.fn.toNat ++ r)) = (f.fn.toNat, some r) := fun r => numR_put _ r (by omega)
  have h2 : ∀ r, numR (some (putU f.pc.toNat ++ r)) = (f.pc.toNat, some r) := fun r => numR_put _ r (by omega)
  have h3 : ∀ r, numR (some (putU f.base.toNat ++ r)) = (f.base.toNat, some r) := fun r => numR_put _ r (by omega)
  have h4 : ∀ r, numR (some (putU f.labels.length ++ r)) = (f.labels.length, some r) := fun r => numR_put _ r (by omega)
  have h5 : labsL f.labels.length (some ((f.labels.map labB).flatten ++ r)) = (f.labels, some r) := labsL_put _ r m1
  rw [e1, frameR]
  simp only [h0, h1, h2, h3, h4, h5, g1, g2, g3]

theorem framesL_put : ∀ (l : List FEnt) (r : List UInt8), (∀ f ∈ l, f.may ∧ f.ok) → framesL l.length (some (framesB l ++ r)) = (l, some r)
  | [], r, _ => rfl
  | f :: l, r, h => by
    obtain ⟨hm, hk⟩ := h f (by simp)
    have e1 : framesB (f :: l) ++ r = frameB f ++ (framesB l ++ r) := by simp [framesB]
    rw [e1, List.length_cons, framesL, frameR_put f _ hm hk]
    simp only [framesL_put l r (fun x hx => h x (by simp [hx]))]

theorem stateR_put (s : SEnt) (hm : s.may) (ho : s.ok) : stateR (some (stateB s)) = (s, some []) := by
  obtain ⟨m1, m2, m3, m4, m5, m6⟩ := hm
  have e1 : stateB s = valsB s.vals ++ (putU (s.asks + 1).toNat ++ (putU s.frames.length ++ (framesB s.frames ++ []))) := by simp [stateB]
  have g1 : (((s.asks + 1).toNat : Nat) : Int) - 1 = s.asks := by omega
  have h0 : ∀ r, valsR (some (valsB s.vals ++ r)) = (s.vals, some r) := fun r => valsR_put _ r (fun v hv => ⟨m5 v hv, ho.2.1 v hv⟩) (by omega)
  have h1 : ∀ r, numR (some (putU (s.asks + 1).toNat ++ r)) = ((s.asks + 1).toNat, some r) := fun r => numR_put _ r (by omega)
  have h2 : ∀ r, numR (some (putU s.frames.length ++ r)) = (s.frames.length, some r) := fun r => numR_put _ r (by omega)
  have h3 : framesL s.frames.length (some (framesB s.frames ++ [])) = (s.frames, some []) := framesL_put _ _ (fun f hf => ⟨m6 f hf, ho.2.2 f hf⟩)
  rw [e1, stateR]
  simp only [h0, h1, h2, h3, g1]

theorem stateB_inj {a b : SEnt} (ha : a.may) (hao : a.ok) (hb : b.may) (hbo : b.ok) (h : stateB a = stateB b) : a = b := by
  have h1 := stateR_put a ha hao
  have h2 := stateR_put b hb hbo
  rw [h, h2] at h1
  injection h1 with h1 _
  exact h1.symm

theorem stateB_ne (s : SEnt) : stateB s ≠ [] := by
  intro h
  simp only [stateB, valsB, List.append_eq_nil_iff] at h
  have := (putU_len s.vals.length).1
  rw [h.1.1.1.1] at this
  simp at this

theorem stateB_len {s : SEnt} (h : s.may) (ho : s.ok) : 1 ≤ (stateB s).length ∧ (stateB s).length ≤ 100000 := by
  have g1 := putU_len s.vals.length
  have g2 := vals_len s.vals ho.2.1
  have g3 := (putU_len (s.asks + 1).toNat).2
  have g4 := (putU_len s.frames.length).2
  have g5 := framesB_len s.frames (fun f hf => ⟨h.2.2.2.2.2 f hf, ho.2.2 f hf⟩)
  have g6 := h.1
  have g7 := h.2.1
  simp only [stateB, valsB, List.length_append]
  omega
end Go.Proofs.Ytpknafidbmnjpaa
