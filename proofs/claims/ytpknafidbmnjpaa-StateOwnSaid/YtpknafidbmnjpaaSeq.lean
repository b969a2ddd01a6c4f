/-
  A region that draws its order, walked in ONE order: what yields its value in every world that meets S is taken as soon as it may come up; else only one operation may come up. No condition.
-/
import Derived.Test.YtpknafidbmnjpaaBase
import Derived.OrdersHeld
import Derived.Deep.RegionHeld3
namespace Go.Proofs.Ytpknafidbmnjpaa
open Go.RowKit

/-- The element at a place, by structure. -/
def nth {α : Type} : List α → Nat → Option α
  | [], _ => none
  | x :: _, 0 => some x
  | _ :: l, n + 1 => nth l n

theorem nth_eq {α : Type} : ∀ (l : List α) (n : Nat), nth l n = l[n]?
  | [], _ => by simp [nth]
  | x :: l, 0 => by simp [nth]
  | x :: l, n + 1 => by simp [nth, nth_eq l n]

/-- Kinds of operations that yield a value or halt, and nothing else. -/
def isVal : Op → Bool
  | .move _ | .assign _ | .pick .. | .binOp .. | .unOp .. | .convert .. | .slice .. | .fieldAddr .. | .field .. | .indexAddr .. | .index .. | .extract .. | .load .. | .makeInterface .. | .nilCheck _ | .build .. => true
  | .call { callee := .builtin .len, .. } => true
  | _ => false

theorem isVal_run {P : Program} {ρ : Operand → Value} {o : Oper} (h : isVal o.op = true) (w : World) :
    (∃ v w', (execOp ρ o).run P w = .ok (.value v) w') ∨ (∃ x w', (execOp ρ o).run P w = .halt x w') := by
  have key : ∀ s : Sem Value, (∃ v w', (do pure (Next.value (← s)) : Sem Next).run P w = .ok (.value v) w') ∨ (∃ x w', (do pure (Next.value (← s)) : Sem Next).run P w = .halt x w') := by
    intro s
    rw [Sem.run_bind]
    cases hs : s.run P w with
    | ok v w' => exact .inl ⟨v, w', by simp [Sem.run_pure]⟩
    | halt x w' => exact .inr ⟨x, w', by simp⟩
  obtain ⟨dst, op, type, pos, after, guard⟩ := o
  cases op <;> simp only [isVal, Bool.false_eq_true] at h <;> simp only [execOp]
  all_goals first
    | exact key _
    | exact .inl ⟨_, _, by rw [Sem.run_pure]⟩
    | skip
  case pick c a b =>
    rw [Sem.run_bind]
    cases hs : (asBool (ρ c)).run P w with
    | ok v w' => exact .inl ⟨_, w', by simp only [Result.andThen_ok]; rw [Sem.run_pure]⟩
    | halt x w' => exact .inr ⟨x, w', by simp⟩
  case nilCheck x =>
    have hp : ∃ x w', (runtimePanic .nilDeref : Sem Next).run P w = .halt x w' := ⟨_, w, by simp [runtimePanic, goPanic, go_sem]; rfl⟩
    cases ρ x with
    | pointer a => cases a <;> first | exact .inr hp | exact .inl ⟨_, _, by rw [Sem.run_pure]⟩
    | nilIface => exact .inr hp
    | nilFunc => exact .inr hp
    | func fn first captured =>
      cases fn with
      | method name =>
        dsimp only
        split
        · exact .inr hp
        · rename_i t v _
          rw [Sem.run_bind]
          cases hs : (program : Sem Program).run P w with
          | ok p w1 =>
            simp only [Result.andThen_ok]
            rw [Sem.run_bind]
            cases hs : (nilAhead (p.types.size + Made.depth) t v name).run P w1 with
            | ok r w2 =>
              simp only [Result.andThen_ok]
              split
              · rw [Sem.run_bind]
                exact .inr ⟨_, _, rfl⟩
              · exact .inl ⟨_, _, by simp only [Sem.run_pure]; rfl⟩
            | halt x w2 => exact .inr ⟨x, w2, by simp⟩
          | halt x w1 => exact .inr ⟨x, w1, by simp⟩
        · exact .inl ⟨_, _, by rw [Sem.run_pure]⟩
      | _ => exact .inl ⟨_, _, by rw [Sem.run_pure]⟩
    | _ => exact .inl ⟨_, _, by rw [Sem.run_pure]⟩
  case call c =>
    obtain ⟨callee, args, ats⟩ := c
    cases callee with
    | builtin b =>
      cases b <;> simp only [Bool.false_eq_true] at h
      simp only [resolve, Sem.run_bind, Sem.run_pure, Result.andThen_ok, invoke, builtin]
      cases hs : (Builtin.len_ ats type (args.map ρ)).run P w with
      | ok v w' => exact .inl ⟨v, w', by simp⟩
      | halt x w' => exact .inr ⟨x, w', by simp⟩
    | value f => simp only [Bool.false_eq_true] at h
    | invoke r m => simp only [Bool.false_eq_true] at h

/-- The value in a slot, by structure. -/
def nthV : List Value → Nat → Value
  | [], _ => undef
  | x :: _, 0 => x
  | _ :: l, n + 1 => nthV l n
def slot (a : Act) (i : Nat) : Value := nthV a.tmps.toList i

/-- The wish of a guard, read off the slot of the operation that it names. -/
def gdOk (ops : List Oper) (g : Option (Nat × Bool)) (a : Act) : Bool :=
  match g with
  | none => true
  | some (j, want) => match nth ops j with
    | some o => match o.dst with
      | some d => match nth a.tmps.toList d with
        | some (.bool b) => b == want
        | _ => false
      | none => false
    | none => false

theorem gdOk_eq (ops : Array Oper) (o : Oper) (a : Act) : Region.wanted o (yielded ops a.tmps) = gdOk ops.toList o.guard a := by
  unfold Region.wanted gdOk
  cases o.guard with
  | none => rfl
  | some g =>
    obtain ⟨j, want⟩ := g
    simp only [yielded, nth_eq, Array.getElem?_toList]
    cases ops[j]? with
    | none => rfl
    | some o' =>
      simp only [Option.bind_some]
      cases o'.dst with
      | none => rfl
      | some d =>
        simp only [Option.bind_some]
        cases a.tmps[d]? with
        | none => rfl
        | some v => cases v <;> rfl

/-- One operation, a pure one: the frame is a', the world is as it was. -/
def PureQ (a' : Act) (w' : World) (e : Exit) (a : Act) (w : World) : Prop := e = .normal ∧ a = a' ∧ w = w'

/-- One operation, whatever it does: K behind it. -/
def SegQ (Q : Exit → Act → World → Prop) (S : World → Prop) (K : Act → World → Prop) : Exit → Act → World → Prop
  | .normal, a, w => S w ∧ K a w
  | .panic _, _, _ => False
  | e, a, w => Q e a w

def bare (o : Oper) : Oper := { o with guard := none, after := #[] }

/-- The walk in one order. -/
def wpSegs (P : Program) (ops : List Oper) (Q : Exit → Act → World → Prop) (S : World → Prop) : List (Nat × Bool) → Act → World → Prop
  | [], a, w => Q .normal a w
  | (i, true) :: rest, a, w => ∃ o, nth ops i = some o ∧
      ((gdOk ops o.guard a = true ∧ ∃ d, o.dst = some d ∧ d < a.tmps.size ∧ ∃ a', (∀ w', S w' → wpList P #[] (PureQ a' w') [bare o] a w') ∧ wpSegs P ops Q S rest a' w) ∨
       (gdOk ops o.guard a = false ∧ wpSegs P ops Q S rest (a.put o.dst undef) w))
  | (i, false) :: rest, a, w => ∃ o, nth ops i = some o ∧
      ((gdOk ops o.guard a = true ∧ wpList P #[] (SegQ Q S (wpSegs P ops Q S rest)) [bare o] a w) ∨
       (gdOk ops o.guard a = false ∧ wpSegs P ops Q S rest (a.put o.dst undef) w))

/-- Is this an order in which each pure one may be taken first, and each other one is alone? -/
def okSeq (ops : Array Oper) : List (Nat × Bool) → Array Bool → Bool
  | [], listed => (Region.ready .any ops listed).isEmpty
  | (i, true) :: rest, listed => (ops[i]?.any fun o => isVal o.op) && (Region.ready .any ops listed).contains i && Region.free .any ops listed i && okSeq ops rest (listed.setIfInBounds i true)
  | (i, false) :: rest, listed => (Region.ready .any ops listed == [i]) && okSeq ops rest (listed.setIfInBounds i true)

/-- Such an order, reckoned. -/
def autoSeq (held : Bool) (ops : Array Oper) : Nat → Array Bool → List (Nat × Bool)
  | 0, _ => []
  | fuel + 1, listed =>
    let rs := Region.ready .any ops listed
    match rs.find? (fun i => (ops[i]?.any fun o => isVal o.op && (held || !(match o.op with | .load .. | .convert .. => true | _ => false))) && Region.free .any ops listed i) with
    | some i => (i, true) :: autoSeq held ops fuel (listed.setIfInBounds i true)
    | none => match rs with
      | [i] => (i, false) :: autoSeq held ops fuel (listed.setIfInBounds i true)
      | _ => []

theorem execOp_bare (ρ : Operand → Value) (o : Oper) : execOp ρ (bare o) = execOp ρ o := rfl

theorem wp_bare {P : Program} {Q : Exit → Act → World → Prop} {o : Oper} {a : Act} {w : World} (h : wpList P #[] Q [bare o] a w) :
    (bare o).wp P a w (Q .normal) Q ∨ ((bare o).asks P a w ∧ LetsOut Q) := by
  unfold wpList at h
  rw [if_pos (by simp [Region.wanted, bare])] at h
  exact h

theorem segs_sound {P : Program} {ops : Array Oper} {Q : Exit → Act → World → Prop} {S : World → Prop} (hQ : ∀ c a w, ¬ Q (.panic c) a w) (hs : Region.noSelect ops = true) :
    ∀ (l : List (Nat × Bool)) (fuel : Nat) (listed : Array Bool) (a : Act) (w : World), l.length ≤ fuel → okSeq ops l listed = true → S w →
      wpSegs P ops.toList Q S l a w → wpAnyH P .any ops Q S fuel listed a w
  | [], fuel, listed, a, w, _, hok, _, h => by
    simp only [okSeq, List.isEmpty_iff] at hok
    exact wpAnyH_done hok h fuel
  | (i, true) :: rest, 0, _, _, _, hl, _, _, _ => by simp at hl
  | (i, false) :: rest, 0, _, _, _, hl, _, _, _ => by simp at hl
  | (i, true) :: rest, fuel + 1, listed, a, w, hl, hok, hS, h => by
    simp only [okSeq, Bool.and_eq_true] at hok
    obtain ⟨⟨⟨hv, hr⟩, hf⟩, hrest⟩ := hok
    simp only [List.length_cons] at hl
    obtain ⟨o, ho, h⟩ := h
    rw [nth_eq, Array.getElem?_toList] at ho
    rw [ho] at hv
    simp only [Option.any_some] at hv
    rcases h with ⟨hg, d, hd, hds, a', hp, hk⟩ | ⟨hg, hk⟩
    · refine wpAnyH_take (v := a'.tmps.getD d undef) ho hs hf hr (fun c a w h => (hQ _ _ _ h).elim) (.inl ⟨by rw [gdOk_eq]; exact hg, fun w' hw' => ?_⟩) hS ?_
      · rcases wp_bare (hp w' hw') with h1 | ⟨_, h2⟩
        · unfold Oper.wp at h1
          rw [execOp_bare] at h1
          rcases isVal_run (P := P) (ρ := a.eval) hv w' with ⟨v, w2, hrun⟩ | ⟨x, w2, hrun⟩
          · rw [hrun] at h1 ⊢
            obtain ⟨_, h3, h4⟩ := h1
            subst h4
            subst h3
            have : (bare o).dst = some d := hd
            rw [this]
            simp [Act.put, hds]
          · rw [hrun] at h1
            cases x <;> simp only [Oper.upon] at h1
            case panic => exact absurd h1.1 (by simp)
        · obtain ⟨_, _, h3, _⟩ := h2
          exact absurd h3 (by simp)
      · have ha : a.put o.dst (a'.tmps.getD d undef) = a' := by
          rcases wp_bare (hp w hS) with h1 | ⟨_, h2⟩
          · unfold Oper.wp at h1
            rw [execOp_bare] at h1
            rcases isVal_run (P := P) (ρ := a.eval) hv w with ⟨v, w2, hrun⟩ | ⟨x, w2, hrun⟩
            · rw [hrun] at h1
              obtain ⟨_, h3, h4⟩ := h1
              have hd' : (bare o).dst = some d := hd
              rw [← h3, hd', hd]
              simp [Act.put, hds]
            · rw [hrun] at h1
              cases x <;> simp only [Oper.upon] at h1
              case panic => exact absurd h1.1 (by simp)
          · obtain ⟨_, _, h3, _⟩ := h2
            exact absurd h3 (by simp)
        rw [ha]
        exact segs_sound hQ hs rest fuel _ _ _ (by omega) hrest hS hk
    · refine wpAnyH_take (v := undef) ho hs hf hr (fun c a w h => (hQ _ _ _ h).elim) (.inr ⟨by rw [gdOk_eq]; exact hg, rfl⟩) hS ?_
      exact segs_sound hQ hs rest fuel _ _ _ (by omega) hrest hS hk
  | (i, false) :: rest, fuel + 1, listed, a, w, hl, hok, hS, h => by
    simp only [okSeq, Bool.and_eq_true, beq_iff_eq] at hok
    obtain ⟨hr, hrest⟩ := hok
    simp only [List.length_cons] at hl
    obtain ⟨o, ho, h⟩ := h
    rw [nth_eq, Array.getElem?_toList] at ho
    refine wpAnyH_all hr (by simp) fun j hj => ?_
    obtain rfl : j = i := by simpa using hj
    unfold wpOp
    simp only [ho]
    rw [gdOk_eq]
    rcases h with ⟨hg, hw⟩ | ⟨hg, hk⟩
    · rw [if_pos hg]
      have hmono : ∀ a' w', SegQ Q S (wpSegs P ops.toList Q S rest) .normal a' w' → S w' ∧ wpAnyH P .any ops Q S fuel (listed.setIfInBounds j true) a' w' :=
        fun a' w' h => ⟨h.1, segs_sound hQ hs rest fuel _ _ _ (by omega) hrest h.1 h.2⟩
      have hlets : LetsOut (SegQ Q S (wpSegs P ops.toList Q S rest)) → LetsOut Q := fun ⟨a, w, h⟩ => ⟨a, w, h⟩
      rcases wp_bare hw with h1 | ⟨h1, h2⟩
      · left
        unfold Oper.wp at h1 ⊢
        rw [execOp_bare] at h1
        generalize (execOp a.eval o).run P w = r at *
        cases r with
        | ok n w' =>
          cases n <;> simp only [Oper.upon] at h1 ⊢
          case value => exact hmono _ _ h1
          case skip => exact hmono _ _ h1
          case defer => exact hmono _ _ h1
          case enter =>
            refine Calls.mono h1 fun e w'' he => ?_
            cases e with
            | returned v => exact hmono _ _ he
            | panicked c => exact he.elim
            | outgrown => exact hlets he
          case row => exact Rows.mono h1 fun v w'' he => hmono _ _ he
        | halt x w' =>
          cases x <;> simp only [Oper.upon] at h1 ⊢
          case panic => exact h1.elim
      · exact .inr ⟨h1, hlets h2⟩
    · rw [if_neg (by rw [hg]; simp)]
      exact ⟨hS, segs_sound hQ hs rest fuel _ _ _ (by omega) hrest hS hk⟩

/-- THE BEGINNING. -/
theorem wp_region_seq {P : Program} {ops : List Oper} {Q : Exit → Act → World → Prop} {id : Nat} {a : Act} {w : World} (S : World → Prop) (l : List (Nat × Bool)) (hm : P.follows .mixedOrders = true)
    (hok : (okSeq ops.toArray l (Array.replicate ops.length false) && Region.noSelect ops.toArray && decide (l.length ≤ ops.length)) = true) (hS : S w.drew)
    (h : wpSegs P ops (NoPanic Q) S l a w.drew) : (Code.region id ops.toArray true).wp P Q a w := by
  simp only [Bool.and_eq_true, decide_eq_true_eq] at hok
  obtain ⟨⟨hok, hn⟩, hl⟩ := hok
  refine wp_region_noPanic (wp_region_held (S := S) hm ?_)
  refine segs_sound (S := S) (fun c a w h => h) hn l _ _ a _ ?_ ?_ hS ?_
  · simpa using hl
  · simpa using hok
  · simpa using h

section
variable {P : Program} {ops : List Oper} {Q : Exit → Act → World → Prop} {S : World → Prop} {i : Nat} {rest : List (Nat × Bool)} {a : Act} {w : World} {d : Tmp} {op : Op} {t : TypeId} {p : String} {af : Array Edge} {g : Option (Nat × Bool)}

theorem wp_loop_r {c : Code} (J : Act → World → Prop) (μ : Act → World → Nat) (h0 : J a w)
    (round : ∀ (R : Act → World → Prop) a w, J a w → Hid (∀ a' w', J a' w' → μ a' w' < μ a w → R a' w') → c.wp P (Exit.then R Q) a w) : (Code.loop c).wp P Q a w :=
  wp_loop J μ h0 fun a w hJ => round _ a w hJ (fun _ _ h1 h2 => ⟨h1, h2⟩)

/-- A loop in a block, what holds behind it said once. -/
theorem wp_loop_x {c : Code} {K : Act → World → Prop} {id : Nat} (J : Act → World → Prop) (μ : Act → World → Nat) (X : Act → World → Prop) (h0 : J a w)
    (round : ∀ (R Y : Act → World → Prop) a w, J a w → Hid (∀ a' w', J a' w' → μ a' w' < μ a w → R a' w') → Hid (∀ a w, X a w → Y a w) → c.wp P (Exit.then R (Exit.inBlock id (Exit.then Y Q))) a w)
    (hX : ∀ a w, X a w → K a w) : (Code.loop c).wp P (Exit.inBlock id (Exit.then K Q)) a w :=
  wp_loop_r J μ h0 fun R a w hJ hR => round R K a w hJ hR hX

theorem wp_scope_r {c body : Code} (l : Nat) (J : Act → World → Prop) (μ : Act → World → Nat) (hf : findLabel c l = some (.seq .skip body))
    (pass : ∀ (R : Act → World → Prop) a w, J a w → Hid (∀ a' w', J a' w' → μ a' w' < μ a w → R a' w') → body.wp P (Exit.jump l R Q) a w)
    (first : Hid (∀ a w, J a w → body.wp P (Exit.jump l J Q) a w) → c.wp P (Exit.jump l J Q) a w) : (Code.scope c).wp P Q a w :=
  wp_scope_goto l J μ hf (fun a w hJ => pass _ a w hJ (fun _ _ h1 h2 => ⟨h1, h2⟩)) first

/-- A cut: what holds behind a piece of code is said once. -/
theorem wp_cut {c : Code} (K : Act → World → Prop) (h1 : c.wp P (fun e a w => e = .normal ∧ K a w) a w) (h2 : ∀ a w, K a w → Q .normal a w) : c.wp P Q a w :=
  Code.wp_mono (fun e a w h => by rw [h.1]; exact h2 a w h.2) h1

/-- A pure operation. -/
theorem seg_pure (hi : nth ops i = some ⟨some d, op, t, p, af, g⟩) (hg : gdOk ops g a = true) (hd : Nat.ble (d + 1) a.tmps.size = true) {a' : Act} (hp : ∀ w', S w' → wpList P #[] (PureQ a' w') [⟨some d, op, t, p, #[], none⟩] a w')
    (h : wpSegs P ops Q S rest a' w) : wpSegs P ops Q S ((i, true) :: rest) a w :=
  ⟨_, hi, .inl ⟨hg, d, rfl, Nat.le_of_ble_eq_true hd, a', hp, h⟩⟩

/-- An operation whose guard does not want it. -/
theorem seg_skip {b : Bool} {dst : Option Tmp} (hi : nth ops i = some ⟨dst, op, t, p, af, g⟩) (hg : gdOk ops g a = false) (h : wpSegs P ops Q S rest (a.put dst undef) w) : wpSegs P ops Q S ((i, b) :: rest) a w := by
  cases b
  · exact ⟨_, hi, .inr ⟨hg, h⟩⟩
  · exact ⟨_, hi, .inr ⟨hg, h⟩⟩

/-- Any other operation. -/
theorem seg_loud {dst : Option Tmp} (hi : nth ops i = some ⟨dst, op, t, p, af, g⟩) (hg : gdOk ops g a = true) (h : wpList P #[] (SegQ Q S (wpSegs P ops Q S rest)) [⟨dst, op, t, p, #[], none⟩] a w) : wpSegs P ops Q S ((i, false) :: rest) a w :=
  ⟨_, hi, .inl ⟨hg, h⟩⟩

theorem seg_nil (h : Q .normal a w) : wpSegs P ops Q S [] a w := h
end
end Go.Proofs.Ytpknafidbmnjpaa
