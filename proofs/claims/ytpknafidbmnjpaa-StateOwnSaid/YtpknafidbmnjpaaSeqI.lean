/-
  Regions that draw their order: with a stronger S behind an operation (wp_region_strong); with a part in which any of several may come up, under an invariant (wp_region_inv). No condition.
-/
import Derived.Test.YtpknafidbmnjpaaSeqT
namespace Go.Proofs.Ytpknafidbmnjpaa
open Go.RowKit

theorem anyH_mono {P : Program} {md : Region.Mode} {ops : Array Oper} {Q : Exit → Act → World → Prop} {S S' : World → Prop} (hs : ∀ w, S' w → S w) :
    ∀ (fuel : Nat) (listed : Array Bool) (a : Act) (w : World), wpAnyH P md ops Q S' fuel listed a w → wpAnyH P md ops Q S fuel listed a w
  | 0, _, _, _, h => h
  | fuel + 1, _, _, _, h => ⟨h.1, fun i hi => wpOp_mono (fun a' w' h' => ⟨hs _ h'.1, anyH_mono hs fuel _ a' w' h'.2⟩) (h.2 i hi)⟩

/-- The walk in one order; behind an operation S may be made stronger. -/
def wpSegsS (P : Program) (ops : List Oper) (Q : Exit → Act → World → Prop) : (World → Prop) → List (Nat × Bool) → Act → World → Prop
  | _, [], a, w => Q .normal a w
  | S, (i, true) :: rest, a, w => ∃ o, nth ops i = some o ∧
      ((gdOk ops o.guard a = true ∧ ∃ d, o.dst = some d ∧ d < a.tmps.size ∧ ∃ a', (∀ w', S w' → wpList P #[] (PureQ a' w') [bare o] a w') ∧ wpSegsS P ops Q S rest a' w) ∨
       (gdOk ops o.guard a = false ∧ wpSegsS P ops Q S rest (a.put o.dst undef) w))
  | S, (i, false) :: rest, a, w => ∃ o, nth ops i = some o ∧
      ((gdOk ops o.guard a = true ∧ wpList P #[] (SegQ Q (fun _ => True) (fun a w => ∃ S' : World → Prop, (∀ w, S' w → S w) ∧ S' w ∧ wpSegsS P ops Q S' rest a w)) [bare o] a w) ∨
       (gdOk ops o.guard a = false ∧ wpSegsS P ops Q S rest (a.put o.dst undef) w))

/-- One pure operation is taken first. -/
theorem pure_take {P : Program} {ops : Array Oper} {Q : Exit → Act → World → Prop} {S : World → Prop} (hQ : ∀ c a w, ¬ Q (.panic c) a w) (hs : Region.noSelect ops = true) {i : Nat} {o : Oper} {fuel : Nat} {listed : Array Bool} {a : Act} {w : World}
    (ho : ops[i]? = some o) (hv : isVal o.op = true) (hf : Region.free .any ops listed i = true) (hr : (Region.ready .any ops listed).contains i = true) (hg : gdOk ops.toList o.guard a = true) {d : Nat} (hd : o.dst = some d) (hds : d < a.tmps.size) {a' : Act}
    (hp : ∀ w', S w' → wpList P #[] (PureQ a' w') [bare o] a w') (hS : S w) (hk : wpAnyH P .any ops Q S fuel (listed.setIfInBounds i true) a' w) : wpAnyH P .any ops Q S (fuel + 1) listed a w := by
  refine wpAnyH_take (v := a'.tmps.getD d undef) ho hs hf hr (fun c a w h => (hQ _ _ _ h).elim) (.inl ⟨by rw [gdOk_eq]; exact hg, fun w' hw' => ?_⟩) hS ?_
  · rcases wp_bare (hp w' hw') with h1 | ⟨_, h2⟩
    · unfold Oper.wp at h1
      rw [execOp_bare] at h1
      rcases isVal_run (P := P) (ρ := a.eval) hv w' with ⟨v, w2, hrun⟩ | ⟨x, w2, hrun⟩
      · rw [hrun] at h1 ⊢
        obtain ⟨_, h3, h4⟩ := h1
        subst h4
        subst h3
        have : (bare o).dst = some d := hd
        rw [this]
        simp [Act.put, hds]
      · rw [hrun] at h1
        cases x <;> simp only [Oper.upon] at h1
        case panic => exact absurd h1.1 (by simp)
    · obtain ⟨_, _, h3, _⟩ := h2
      exact absurd h3 (by simp)
  · have ha : a.put o.dst (a'.tmps.getD d undef) = a' := by
      rcases wp_bare (hp w hS) with h1 | ⟨_, h2⟩
      · unfold Oper.wp at h1
        rw [execOp_bare] at h1
        rcases isVal_run (P := P) (ρ := a.eval) hv w with ⟨v, w2, hrun⟩ | ⟨x, w2, hrun⟩
        · rw [hrun] at h1
          obtain ⟨_, h3, h4⟩ := h1
          have hd' : (bare o).dst = some d := hd
          rw [← h3, hd', hd]
          simp [Act.put, hds]
        · rw [hrun] at h1
          cases x <;> simp only [Oper.upon] at h1
          case panic => exact absurd h1.1 (by simp)
      · obtain ⟨_, _, h3, _⟩ := h2
        exact absurd h3 (by simp)
    rw [ha]
    exact hk

theorem segsS_sound {P : Program} {ops : Array Oper} {Q : Exit → Act → World → Prop} (hQ : ∀ c a w, ¬ Q (.panic c) a w) (hs : Region.noSelect ops = true) :
    ∀ (l : List (Nat × Bool)) (S : World → Prop) (fuel : Nat) (listed : Array Bool) (a : Act) (w : World), l.length ≤ fuel → okSeq ops l listed = true → S w →
      wpSegsS P ops.toList Q S l a w → wpAnyH P .any ops Q S fuel listed a w
  | [], _, fuel, listed, a, w, _, hok, _, h => by
    simp only [okSeq, List.isEmpty_iff] at hok
    exact wpAnyH_done hok h fuel
  | (i, true) :: rest, _, 0, _, _, _, hl, _, _, _ => by simp at hl
  | (i, false) :: rest, _, 0, _, _, _, hl, _, _, _ => by simp at hl
  | (i, true) :: rest, S, fuel + 1, listed, a, w, hl, hok, hS, h => by
    simp only [okSeq, Bool.and_eq_true] at hok
    obtain ⟨⟨⟨hv, hr⟩, hf⟩, hrest⟩ := hok
    simp only [List.length_cons] at hl
    obtain ⟨o, ho, h⟩ := h
    rw [nth_eq, Array.getElem?_toList] at ho
    rw [ho] at hv
    simp only [Option.any_some] at hv
    rcases h with ⟨hg, d, hd, hds, a', hp, hk⟩ | ⟨hg, hk⟩
    · exact pure_take hQ hs ho hv hf hr hg hd hds hp hS (segsS_sound hQ hs rest S fuel _ _ _ (by omega) hrest hS hk)
    · refine wpAnyH_take (v := undef) ho hs hf hr (fun c a w h => (hQ _ _ _ h).elim) (.inr ⟨by rw [gdOk_eq]; exact hg, rfl⟩) hS ?_
      exact segsS_sound hQ hs rest S fuel _ _ _ (by omega) hrest hS hk
  | (i, false) :: rest, S, fuel + 1, listed, a, w, hl, hok, hS, h => by
    simp only [okSeq, Bool.and_eq_true, beq_iff_eq] at hok
    obtain ⟨hr, hrest⟩ := hok
    simp only [List.length_cons] at hl
    refine wpAnyH_all hr (by simp) fun j hj => ?_
    obtain rfl : j = i := by simpa using hj
    obtain ⟨o, ho, h⟩ := h
    rcases h with h | ⟨hg, hk⟩
    · have h2 := loud_sound (P := P) (ops := ops) (Q := Q) (j := j) (S := fun _ => True) (K' := fun a w => S w ∧ wpAnyH P .any ops Q S fuel (listed.setIfInBounds j true) a w) trivial
        (fun a w _ hk => by
          obtain ⟨S', h1, h2, h3⟩ := hk
          exact ⟨h1 w h2, anyH_mono h1 _ _ _ _ (segsS_sound hQ hs rest S' fuel _ _ _ (by omega) hrest h2 h3)⟩) ⟨o, ho, .inl h⟩
      exact wpOp_mono (fun a' w' h => h.2) h2
    · rw [nth_eq, Array.getElem?_toList] at ho
      unfold wpOp
      simp only [ho]
      rw [gdOk_eq, if_neg (by rw [hg]; simp)]
      exact ⟨hS, segsS_sound hQ hs rest S fuel _ _ _ (by omega) hrest hS hk⟩

/-- THE BEGINNING. -/
theorem wp_region_strong {P : Program} {ops : List Oper} {Q : Exit → Act → World → Prop} {id : Nat} {a : Act} {w : World} (S : World → Prop) (l : List (Nat × Bool)) (hm : P.follows .mixedOrders = true)
    (hok : (okSeq ops.toArray l (Array.replicate ops.length false) && Region.noSelect ops.toArray && decide (l.length ≤ ops.length)) = true) (hS : S w.drew)
    (h : wpSegsS P ops (NoPanic Q) S l a w.drew) : (Code.region id ops.toArray true).wp P Q a w := by
  simp only [Bool.and_eq_true, decide_eq_true_eq] at hok
  obtain ⟨⟨hok, hn⟩, hl⟩ := hok
  refine wp_region_noPanic (wp_region_held (S := S) hm ?_)
  refine segsS_sound (fun c a w h => h) hn l S _ _ a _ ?_ ?_ hS ?_
  · simpa using hl
  · simpa using hok
  · simpa using h

section
variable {P : Program} {ops : List Oper} {Q : Exit → Act → World → Prop} {S : World → Prop} {i : Nat} {rest : List (Nat × Bool)} {a : Act} {w : World} {d : Tmp} {op : Op} {t : TypeId} {p : String} {af : Array Edge} {g : Option (Nat × Bool)}

theorem segS_pure (hi : nth ops i = some ⟨some d, op, t, p, af, g⟩) (hg : gdOk ops g a = true) (hd : Nat.ble (d + 1) a.tmps.size = true) {a' : Act} (hp : ∀ w', S w' → wpList P #[] (PureQ a' w') [⟨some d, op, t, p, #[], none⟩] a w')
    (h : wpSegsS P ops Q S rest a' w) : wpSegsS P ops Q S ((i, true) :: rest) a w :=
  ⟨_, hi, .inl ⟨hg, d, rfl, Nat.le_of_ble_eq_true hd, a', hp, h⟩⟩

theorem segS_skip {b : Bool} {dst : Option Tmp} (hi : nth ops i = some ⟨dst, op, t, p, af, g⟩) (hg : gdOk ops g a = false) (h : wpSegsS P ops Q S rest (a.put dst undef) w) : wpSegsS P ops Q S ((i, b) :: rest) a w := by
  cases b
  · exact ⟨_, hi, .inr ⟨hg, h⟩⟩
  · exact ⟨_, hi, .inr ⟨hg, h⟩⟩

theorem segS_loud {dst : Option Tmp} (hi : nth ops i = some ⟨dst, op, t, p, af, g⟩) (hg : gdOk ops g a = true) (h : wpList P #[] (SegQ Q (fun _ => True) (fun a w => ∃ S' : World → Prop, (∀ w, S' w → S w) ∧ S' w ∧ wpSegsS P ops Q S' rest a w)) [⟨dst, op, t, p, #[], none⟩] a w) : wpSegsS P ops Q S ((i, false) :: rest) a w :=
  ⟨_, hi, .inl ⟨hg, h⟩⟩

theorem segS_nil (h : Q .normal a w) : wpSegsS P ops Q S [] a w := h
end

/-- An order of pure ones to begin with. -/
def okPre (ops : Array Oper) : List Nat → Array Bool → Bool
  | [], _ => true
  | i :: rest, listed => (ops[i]?.any fun o => isVal o.op) && (Region.ready .any ops listed).contains i && Region.free .any ops listed i && okPre ops rest (listed.setIfInBounds i true)

def listedBy : List Nat → Array Bool → Array Bool
  | [], l => l
  | i :: rest, l => listedBy rest (l.setIfInBounds i true)

theorem pre_sound {P : Program} {ops : Array Oper} {Q Q' : Exit → Act → World → Prop} {S : World → Prop} (hQ : ∀ c a w, ¬ Q (.panic c) a w) (hs : Region.noSelect ops = true) {fuel : Nat} {listed0 : Array Bool}
    (hend : ∀ a w, Q' .normal a w → S w → wpAnyH P .any ops Q S fuel listed0 a w) :
    ∀ (l : List Nat) (listed : Array Bool) (a : Act) (w : World), okPre ops l listed = true → listedBy l listed = listed0 → S w → wpSegs P ops.toList Q' S (l.map fun i => (i, true)) a w → wpAnyH P .any ops Q S (l.length + fuel) listed a w
  | [], listed, a, w, _, hl, hS, h => by
    rw [List.length_nil, Nat.zero_add, show listed = listed0 from hl]
    exact hend a w h hS
  | i :: rest, listed, a, w, hok, hl, hS, h => by
    simp only [okPre, Bool.and_eq_true] at hok
    obtain ⟨⟨⟨hv, hr⟩, hf⟩, hrest⟩ := hok
    obtain ⟨o, ho, h⟩ := h
    rw [nth_eq, Array.getElem?_toList] at ho
    rw [ho] at hv
    simp only [Option.any_some] at hv
    rw [List.length_cons, show rest.length + 1 + fuel = rest.length + fuel + 1 by omega]
    rcases h with ⟨hg, d, hd, hds, a', hp, hk⟩ | ⟨hg, hk⟩
    · exact pure_take hQ hs ho hv hf hr hg hd hds hp hS (pre_sound hQ hs hend rest _ _ _ hrest hl hS hk)
    · refine wpAnyH_take (v := undef) ho hs hf hr (fun c a w h => (hQ _ _ _ h).elim) (.inr ⟨by rw [gdOk_eq]; exact hg, rfl⟩) hS ?_
      exact pre_sound hQ hs hend rest _ _ _ hrest hl hS hk

theorem inv_sound {P : Program} {ops : Array Oper} {Q : Exit → Act → World → Prop} {S : World → Prop} (hQ : ∀ c a w, ¬ Q (.panic c) a w) (hs : Region.noSelect ops = true) (rest : List (Nat × Bool)) (I : Nat → Array Bool → Act → World → Prop)
    (hIS : ∀ m listed a w, I m listed a w → S w)
    (step : ∀ m listed a w, I (m + 1) listed a w → ∃ rs, Region.ready .any ops listed = rs ∧ rs ≠ [] ∧ ∀ j ∈ rs, ∃ o, nth ops.toList j = some o ∧ (gdOk ops.toList o.guard a = true ∧ wpList P #[] (SegQ Q (fun _ => True) (I m (listed.setIfInBounds j true))) [bare o] a w))
    (last : ∀ listed a w, I 0 listed a w → okSeq ops rest listed = true ∧ wpSegs P ops.toList Q S rest a w) :
    ∀ (m fuel : Nat) (listed : Array Bool) (a : Act) (w : World), m + rest.length ≤ fuel → I m listed a w → wpAnyH P .any ops Q S fuel listed a w
  | 0, fuel, listed, a, w, hl, h => segs_sound hQ hs rest fuel listed a w (by omega) (last _ _ _ h).1 (hIS _ _ _ _ h) (last _ _ _ h).2
  | m + 1, 0, _, _, _, hl, _ => by omega
  | m + 1, fuel + 1, listed, a, w, hl, h => by
    obtain ⟨rs, hr, hne, hall⟩ := step _ _ _ _ h
    refine wpAnyH_all hr hne fun j hj => ?_
    obtain ⟨o, ho, hg, hw⟩ := hall j hj
    have h2 := loud_sound (P := P) (ops := ops) (Q := Q) (j := j) (S := fun _ => True) (K := I m (listed.setIfInBounds j true)) (K' := fun a w => S w ∧ wpAnyH P .any ops Q S fuel (listed.setIfInBounds j true) a w) trivial
      (fun a w _ hk => ⟨hIS _ _ _ _ hk, inv_sound hQ hs rest I hIS step last m fuel _ _ _ (by omega) hk⟩) ⟨o, ho, .inl ⟨hg, hw⟩⟩
    exact wpOp_mono (fun a' w' h => h.2) h2

/-- THE BEGINNING. -/
theorem wp_region_inv {P : Program} {ops : List Oper} {Q : Exit → Act → World → Prop} {id : Nat} {a : Act} {w : World} (S : World → Prop) (pre : List Nat) (n : Nat) (rest : List (Nat × Bool)) (I : Nat → Array Bool → Act → World → Prop) (hm : P.follows .mixedOrders = true)
    (hok : (okPre ops.toArray pre (Array.replicate ops.length false) && Region.noSelect ops.toArray && decide (pre.length + (n + rest.length) = ops.length)) = true) (hS : S w.drew)
    (first : wpSegs P ops (fun e a w => e = .normal ∧ I n (listedBy pre (Array.replicate ops.length false)) a w) S (pre.map fun i => (i, true)) a w.drew)
    (hIS : ∀ m listed a w, I m listed a w → S w)
    (step : ∀ m listed a w, I (m + 1) listed a w → ∃ rs, Region.ready .any ops.toArray listed = rs ∧ rs ≠ [] ∧ ∀ j ∈ rs, ∃ o, nth ops j = some o ∧ (gdOk ops o.guard a = true ∧ wpList P #[] (SegQ (NoPanic Q) (fun _ => True) (I m (listed.setIfInBounds j true))) [bare o] a w))
    (last : ∀ listed a w, I 0 listed a w → okSeq ops.toArray rest listed = true ∧ wpSegs P ops (NoPanic Q) S rest a w) : (Code.region id ops.toArray true).wp P Q a w := by
  simp only [Bool.and_eq_true, decide_eq_true_eq] at hok
  obtain ⟨⟨hok, hn⟩, hl⟩ := hok
  refine wp_region_noPanic (wp_region_held (S := S) hm ?_)
  have h := pre_sound (P := P) (ops := ops.toArray) (Q := NoPanic Q) (Q' := fun e a w => e = .normal ∧ I n (listedBy pre (Array.replicate ops.length false)) a w) (S := S) (fun c a w h => h) hn (fuel := n + rest.length)
    (fun a w h _ => inv_sound (fun c a w h => h) hn rest I hIS (by simpa using step) (by simpa using last) n _ _ a w (Nat.le_refl _) h.2) pre (Array.replicate ops.length false) a w.drew hok rfl hS (by simpa using first)
  rw [hl] at h
  simpa using h
end Go.Proofs.Ytpknafidbmnjpaa
