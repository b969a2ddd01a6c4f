/-
  A region that draws its order, walked in an order that may part in two where two operations may come up. No condition.
-/
import Derived.Test.YtpknafidbmnjpaaGuard
namespace Go.Proofs.Ytpknafidbmnjpaa
open Go.RowKit

/-- An order, with partings. -/
inductive Ord where
  | nil : Ord
  | cons (i : Nat) (b : Bool) (rest : Ord) : Ord
  | fork (i j : Nat) (ri rj : Ord) : Ord

def Ord.depth : Ord → Nat
  | .nil => 0
  | .cons _ _ r => r.depth + 1
  | .fork _ _ a b => max a.depth b.depth + 1

def ord : List (Nat × Bool) → Ord → Ord
  | [], r => r
  | (i, b) :: l, r => .cons i b (ord l r)

/-- The walk in one order. -/
def wpOrd (P : Program) (ops : List Oper) (Q : Exit → Act → World → Prop) (S : World → Prop) : Ord → Act → World → Prop
  | .nil, a, w => Q .normal a w
  | Ord.cons i true rest, a, w => ∃ o, nth ops i = some o ∧
      ((gdOk ops o.guard a = true ∧ ∃ d, o.dst = some d ∧ d < a.tmps.size ∧ ∃ a', (∀ w', S w' → wpList P #[] (PureQ a' w') [bare o] a w') ∧ wpOrd P ops Q S rest a' w) ∨
       (gdOk ops o.guard a = false ∧ wpOrd P ops Q S rest (a.put o.dst undef) w))
  | Ord.cons i false rest, a, w => ∃ o, nth ops i = some o ∧
      ((gdOk ops o.guard a = true ∧ wpList P #[] (SegQ Q S (wpOrd P ops Q S rest)) [bare o] a w) ∨
       (gdOk ops o.guard a = false ∧ wpOrd P ops Q S rest (a.put o.dst undef) w))

  | .fork i j ri rj, a, w => (∃ o, nth ops i = some o ∧
      ((gdOk ops o.guard a = true ∧ wpList P #[] (SegQ Q S (wpOrd P ops Q S ri)) [bare o] a w) ∨
       (gdOk ops o.guard a = false ∧ wpOrd P ops Q S ri (a.put o.dst undef) w))) ∧ (∃ o, nth ops j = some o ∧
      ((gdOk ops o.guard a = true ∧ wpList P #[] (SegQ Q S (wpOrd P ops Q S rj)) [bare o] a w) ∨
       (gdOk ops o.guard a = false ∧ wpOrd P ops Q S rj (a.put o.dst undef) w)))

/-- Is this an order in which each pure one may be taken first, and each other one is alone? -/
def okOrd (ops : Array Oper) : Ord → Array Bool → Bool
  | .nil, listed => (Region.ready .any ops listed).isEmpty
  | Ord.cons i true rest, listed => (ops[i]?.any fun o => isVal o.op) && (Region.ready .any ops listed).contains i && Region.free .any ops listed i && okOrd ops rest (listed.setIfInBounds i true)
  | Ord.cons i false rest, listed => (Region.ready .any ops listed == [i]) && okOrd ops rest (listed.setIfInBounds i true)
  | .fork i j ri rj, listed => (Region.ready .any ops listed == [i, j]) && okOrd ops ri (listed.setIfInBounds i true) && okOrd ops rj (listed.setIfInBounds j true)

theorem loud_sound {P : Program} {ops : Array Oper} {Q : Exit → Act → World → Prop} {S : World → Prop} {j : Nat} {K K' : Act → World → Prop} {a : Act} {w : World} (hS : S w) (hK : ∀ a w, S w → K a w → K' a w)
    (h : ∃ o, nth ops.toList j = some o ∧ ((gdOk ops.toList o.guard a = true ∧ wpList P #[] (SegQ Q S K) [bare o] a w) ∨ (gdOk ops.toList o.guard a = false ∧ K (a.put o.dst undef) w))) :
    wpOp P ops Q j (fun a' w' => S w' ∧ K' a' w') a w := by
  obtain ⟨o, ho, h⟩ := h
  rw [nth_eq, Array.getElem?_toList] at ho
  unfold wpOp
  simp only [ho]
  rw [gdOk_eq]
  rcases h with ⟨hg, hw⟩ | ⟨hg, hk⟩
  · rw [if_pos hg]
    have hmono : ∀ a' w', SegQ Q S K .normal a' w' → S w' ∧ K' a' w' := fun a' w' h => ⟨h.1, hK _ _ h.1 h.2⟩
    have hlets : LetsOut (SegQ Q S K) → LetsOut Q := fun ⟨a, w, h⟩ => ⟨a, w, h⟩
    rcases wp_bare hw with h1 | ⟨h1, h2⟩
    · left
      unfold Oper.wp at h1 ⊢
      rw [execOp_bare] at h1
      generalize (execOp a.eval o).run P w = r at *
      cases r with
      | ok n w' =>
        cases n <;> simp only [Oper.upon] at h1 ⊢
        case value => exact hmono _ _ h1
        case skip => exact hmono _ _ h1
        case defer => exact hmono _ _ h1
        case enter =>
          refine Calls.mono h1 fun e w'' he => ?_
          cases e with
          | returned v => exact hmono _ _ he
          | panicked c => exact he.elim
          | outgrown => exact hlets he
        case row => exact Rows.mono h1 fun v w'' he => hmono _ _ he
      | halt x w' =>
        cases x <;> simp only [Oper.upon] at h1 ⊢
        case panic => exact h1.elim
    · exact .inr ⟨h1, hlets h2⟩
  · rw [if_neg (by rw [hg]; simp)]
    exact ⟨hS, hK _ _ hS hk⟩

theorem ord_sound {P : Program} {ops : Array Oper} {Q : Exit → Act → World → Prop} {S : World → Prop} (hQ : ∀ c a w, ¬ Q (.panic c) a w) (hs : Region.noSelect ops = true) :
    ∀ (l : Ord) (fuel : Nat) (listed : Array Bool) (a : Act) (w : World), l.depth ≤ fuel → okOrd ops l listed = true → S w →
      wpOrd P ops.toList Q S l a w → wpAnyH P .any ops Q S fuel listed a w
  | .nil, fuel, listed, a, w, _, hok, _, h => by
    simp only [okOrd, List.isEmpty_iff] at hok
    exact wpAnyH_done hok h fuel
  | Ord.cons i true rest, 0, _, _, _, hl, _, _, _ => by simp [Ord.depth] at hl
  | Ord.cons i false rest, 0, _, _, _, hl, _, _, _ => by simp [Ord.depth] at hl
  | Ord.cons i true rest, fuel + 1, listed, a, w, hl, hok, hS, h => by
    simp only [okOrd, Bool.and_eq_true] at hok
    obtain ⟨⟨⟨hv, hr⟩, hf⟩, hrest⟩ := hok
    simp only [Ord.depth] at hl
    obtain ⟨o, ho, h⟩ := h
    rw [nth_eq, Array.getElem?_toList] at ho
    rw [ho] at hv
    simp only [Option.any_some] at hv
    rcases h with ⟨hg, d, hd, hds, a', hp, hk⟩ | ⟨hg, hk⟩
    · refine wpAnyH_take (v := a'.tmps.getD d undef) ho hs hf hr (fun c a w h => (hQ _ _ _ h).elim) (.inl ⟨by rw [gdOk_eq]; exact hg, fun w' hw' => ?_⟩) hS ?_
      · rcases wp_bare (hp w' hw') with h1 | ⟨_, h2⟩
        · unfold Oper.wp at h1
          rw [execOp_bare] at h1
          rcases isVal_run (P := P) (ρ := a.eval) hv w' with ⟨v, w2, hrun⟩ | ⟨x, w2, hrun⟩
          · rw [hrun] at h1 ⊢
            obtain ⟨_, h3, h4⟩ := h1
            subst h4
            subst h3
            have : (bare o).dst = some d := hd
            rw [this]
            simp [Act.put, hds]
          · rw [hrun] at h1
            cases x <;> simp only [Oper.upon] at h1
            case panic => exact absurd h1.1 (by simp)
        · obtain ⟨_, _, h3, _⟩ := h2
          exact absurd h3 (by simp)
      · have ha : a.put o.dst (a'.tmps.getD d undef) = a' := by
          rcases wp_bare (hp w hS) with h1 | ⟨_, h2⟩
          · unfold Oper.wp at h1
            rw [execOp_bare] at h1
            rcases isVal_run (P := P) (ρ := a.eval) hv w with ⟨v, w2, hrun⟩ | ⟨x, w2, hrun⟩
            · rw [hrun] at h1
              obtain ⟨_, h3, h4⟩ := h1
              have hd' : (bare o).dst = some d := hd
              rw [← h3, hd', hd]
              simp [Act.put, hds]
            · rw [hrun] at h1
              cases x <;> simp only [Oper.upon] at h1
              case panic => exact absurd h1.1 (by simp)
          · obtain ⟨_, _, h3, _⟩ := h2
            exact absurd h3 (by simp)
        rw [ha]
        exact ord_sound hQ hs rest fuel _ _ _ (by omega) hrest hS hk
    · refine wpAnyH_take (v := undef) ho hs hf hr (fun c a w h => (hQ _ _ _ h).elim) (.inr ⟨by rw [gdOk_eq]; exact hg, rfl⟩) hS ?_
      exact ord_sound hQ hs rest fuel _ _ _ (by omega) hrest hS hk
  | Ord.cons i false rest, fuel + 1, listed, a, w, hl, hok, hS, h => by
    simp only [okOrd, Bool.and_eq_true, beq_iff_eq] at hok
    obtain ⟨hr, hrest⟩ := hok
    simp only [Ord.depth] at hl
    obtain ⟨o, ho, h⟩ := h
    rw [nth_eq, Array.getElem?_toList] at ho
    refine wpAnyH_all hr (by simp) fun j hj => ?_
    obtain rfl : j = i := by simpa using hj
    unfold wpOp
    simp only [ho]
    rw [gdOk_eq]
    rcases h with ⟨hg, hw⟩ | ⟨hg, hk⟩
    · rw [if_pos hg]
      have hmono : ∀ a' w', SegQ Q S (wpOrd P ops.toList Q S rest) .normal a' w' → S w' ∧ wpAnyH P .any ops Q S fuel (listed.setIfInBounds j true) a' w' :=
        fun a' w' h => ⟨h.1, ord_sound hQ hs rest fuel _ _ _ (by omega) hrest h.1 h.2⟩
      have hlets : LetsOut (SegQ Q S (wpOrd P ops.toList Q S rest)) → LetsOut Q := fun ⟨a, w, h⟩ => ⟨a, w, h⟩
      rcases wp_bare hw with h1 | ⟨h1, h2⟩
      · left
        unfold Oper.wp at h1 ⊢
        rw [execOp_bare] at h1
        generalize (execOp a.eval o).run P w = r at *
        cases r with
        | ok n w' =>
          cases n <;> simp only [Oper.upon] at h1 ⊢
          case value => exact hmono _ _ h1
          case skip => exact hmono _ _ h1
          case defer => exact hmono _ _ h1
          case enter =>
            refine Calls.mono h1 fun e w'' he => ?_
            cases e with
            | returned v => exact hmono _ _ he
            | panicked c => exact he.elim
            | outgrown => exact hlets he
          case row => exact Rows.mono h1 fun v w'' he => hmono _ _ he
        | halt x w' =>
          cases x <;> simp only [Oper.upon] at h1 ⊢
          case panic => exact h1.elim
      · exact .inr ⟨h1, hlets h2⟩
    · rw [if_neg (by rw [hg]; simp)]
      exact ⟨hS, ord_sound hQ hs rest fuel _ _ _ (by omega) hrest hS hk⟩
  | .fork i j ri rj, 0, _, _, _, hl, _, _, _ => by simp [Ord.depth] at hl
  | .fork i j ri rj, fuel + 1, listed, a, w, hl, hok, hS, h => by
    simp only [okOrd, Bool.and_eq_true, beq_iff_eq] at hok
    obtain ⟨⟨hr, hok1⟩, hok2⟩ := hok
    simp only [Ord.depth] at hl
    refine wpAnyH_all hr (by simp) fun k hk => ?_
    rcases (by simpa using hk : k = i ∨ k = j) with rfl | rfl
    · exact loud_sound hS (fun a w hS h => ord_sound hQ hs ri fuel _ a w (by omega) hok1 hS h) h.1
    · exact loud_sound hS (fun a w hS h => ord_sound hQ hs rj fuel _ a w (by omega) hok2 hS h) h.2

/-- THE BEGINNING. -/
theorem wp_region_ord {P : Program} {ops : List Oper} {Q : Exit → Act → World → Prop} {id : Nat} {a : Act} {w : World} (S : World → Prop) (l : Ord) (hm : P.follows .mixedOrders = true)
    (hok : (okOrd ops.toArray l (Array.replicate ops.length false) && Region.noSelect ops.toArray && decide (l.depth ≤ ops.length)) = true) (hS : S w.drew)
    (h : wpOrd P ops (NoPanic Q) S l a w.drew) : (Code.region id ops.toArray true).wp P Q a w := by
  simp only [Bool.and_eq_true, decide_eq_true_eq] at hok
  obtain ⟨⟨hok, hn⟩, hl⟩ := hok
  refine wp_region_noPanic (wp_region_held (S := S) hm ?_)
  refine ord_sound (S := S) (fun c a w h => h) hn l _ _ a _ ?_ ?_ hS ?_
  · simpa using hl
  · simpa using hok
  · simpa using h

section
variable {P : Program} {ops : List Oper} {Q : Exit → Act → World → Prop} {S : World → Prop} {i : Nat} {rest : Ord} {a : Act} {w : World} {d : Tmp} {op : Op} {t : TypeId} {p : String} {af : Array Edge} {g : Option (Nat × Bool)}

/-- A pure operation. -/
theorem ord_pure (hi : nth ops i = some ⟨some d, op, t, p, af, g⟩) (hg : gdOk ops g a = true) (hd : Nat.ble (d + 1) a.tmps.size = true) {a' : Act} (hp : ∀ w', S w' → wpList P #[] (PureQ a' w') [⟨some d, op, t, p, #[], none⟩] a w')
    (h : wpOrd P ops Q S rest a' w) : wpOrd P ops Q S (.cons i true rest) a w :=
  ⟨_, hi, .inl ⟨hg, d, rfl, Nat.le_of_ble_eq_true hd, a', hp, h⟩⟩

/-- An operation whose guard does not want it. -/
theorem ord_skip {b : Bool} {dst : Option Tmp} (hi : nth ops i = some ⟨dst, op, t, p, af, g⟩) (hg : gdOk ops g a = false) (h : wpOrd P ops Q S rest (a.put dst undef) w) : wpOrd P ops Q S (.cons i b rest) a w := by
  cases b
  · exact ⟨_, hi, .inr ⟨hg, h⟩⟩
  · exact ⟨_, hi, .inr ⟨hg, h⟩⟩

/-- Any other operation. -/
theorem ord_loud {dst : Option Tmp} (hi : nth ops i = some ⟨dst, op, t, p, af, g⟩) (hg : gdOk ops g a = true) (h : wpList P #[] (SegQ Q S (wpOrd P ops Q S rest)) [⟨dst, op, t, p, #[], none⟩] a w) : wpOrd P ops Q S (.cons i false rest) a w :=
  ⟨_, hi, .inl ⟨hg, h⟩⟩

theorem ord_nil (h : Q .normal a w) : wpOrd P ops Q S .nil a w := h

theorem ord_fork {i j : Nat} {ri rj : Ord} {oi oj : Oper} (hi : nth ops i = some oi) (hj : nth ops j = some oj) (gi : gdOk ops oi.guard a = true) (gj : gdOk ops oj.guard a = true)
    (h1 : wpList P #[] (SegQ Q S (wpOrd P ops Q S ri)) [⟨oi.dst, oi.op, oi.type, oi.pos, #[], none⟩] a w) (h2 : wpList P #[] (SegQ Q S (wpOrd P ops Q S rj)) [⟨oj.dst, oj.op, oj.type, oj.pos, #[], none⟩] a w) :
    wpOrd P ops Q S (.fork i j ri rj) a w :=
  ⟨⟨_, hi, .inl ⟨gi, h1⟩⟩, ⟨_, hj, .inl ⟨gj, h2⟩⟩⟩

theorem ord_fork_skip {i j : Nat} {ri rj : Ord} {oi oj : Oper} (hi : nth ops i = some oi) (hj : nth ops j = some oj) (gi : gdOk ops oi.guard a = false) (gj : gdOk ops oj.guard a = false)
    (h1 : wpOrd P ops Q S ri (a.put oi.dst undef) w) (h2 : wpOrd P ops Q S rj (a.put oj.dst undef) w) :
    wpOrd P ops Q S (.fork i j ri rj) a w :=
  ⟨⟨_, hi, .inr ⟨gi, h1⟩⟩, ⟨_, hj, .inr ⟨gj, h2⟩⟩⟩
end
end Go.Proofs.Ytpknafidbmnjpaa
