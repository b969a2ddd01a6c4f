/-
  A region that draws its order, and whose last operation (d, a store, for which all others wait) may write what the region's loads read: the condition S on the world is asked ahead of it alone. No condition.
-/
import Derived.Test.YtpknafidbmnjpaaSeqT
namespace Go.Proofs.Ytpknafidbmnjpaa
open Go.RowKit

/-- Whatever order is picked from here on; S holds behind each operation ahead of d. -/
def wpAnyD (P : Program) (ops : Array Oper) (Q : Exit → Act → World → Prop) (S : World → Prop) (d : Nat) : Nat → Array Bool → Act → World → Prop
  | 0, listed, a, w => Region.ready .any ops listed = [] ∧ Q .normal a w
  | fuel + 1, listed, a, w =>
    (Region.ready .any ops listed = [] → Q .normal a w) ∧
    ∀ i ∈ Region.ready .any ops listed, wpOp P ops Q i (fun a' w' => (i = d → wpAny P .any ops Q fuel (listed.setIfInBounds i true) a' w') ∧ (i ≠ d → S w' ∧ wpAnyD P ops Q S d fuel (listed.setIfInBounds i true) a' w')) a w

theorem wpAny_of_D {P : Program} {ops : Array Oper} {Q : Exit → Act → World → Prop} {S : World → Prop} {d : Nat} : ∀ (fuel : Nat) (listed : Array Bool) (a : Act) (w : World), wpAnyD P ops Q S d fuel listed a w → wpAny P .any ops Q fuel listed a w
  | 0, _, _, _, h => h
  | fuel + 1, _, _, _, h => ⟨h.1, fun i hi => wpOp_mono (fun a' w' h' => by
      by_cases hd : i = d
      · exact h'.1 hd
      · exact wpAny_of_D fuel _ a' w' (h'.2 hd).2) (h.2 i hi)⟩

/-- Those that wait for i, straight or through others of K. -/
def blocked (ops : Array Oper) (listed : Array Bool) (i : Nat) (K : List Nat) : Bool :=
  K.all fun k => (listed.getD k true == false) && !(k == i) && (match ops[k]? with | some o => o.after.any (fun e => Region.binds .any e && (e.on == i || K.contains e.on)) | none => false)

def kset (ops : Array Oper) (listed : Array Bool) (i : Nat) : List Nat :=
  Nat.repeat (fun K => K.filter fun k => match ops[k]? with | some o => o.after.any (fun e => Region.binds .any e && (e.on == i || K.contains e.on)) | none => false) ops.size
    ((List.range ops.size).filter fun k => !(k == i) && (listed.getD k true == false))

theorem getD_false {listed : Array Bool} {i : Nat} (h : listed.getD i true = false) : listed.getD i false = false := by
  rcases Nat.lt_or_ge i listed.size with h' | h'
  · simp [h'] at h ⊢; exact h
  · simp [Array.getElem?_eq_none h'] at h

theorem blocked_not {ops : Array Oper} {listed : Array Bool} {i : Nat} {K : List Nat} (hb : blocked ops listed i K = true) (hi : listed.getD i true = false) {k : Nat} (hk : k ∈ K) : k ≠ i ∧ k ∉ Region.ready .any ops listed := by
  simp only [blocked, List.all_eq_true] at hb
  have h1 := hb k hk
  simp only [Bool.and_eq_true, beq_iff_eq, Bool.not_eq_true', beq_eq_false_iff_ne] at h1
  obtain ⟨⟨h2, h3⟩, h4⟩ := h1
  refine ⟨h3, fun hr => ?_⟩
  obtain ⟨_, o, ho, hall⟩ := mem_ready.1 hr
  rw [ho] at h4
  obtain ⟨e, he, hbe⟩ := Array.any_eq_true'.1 h4
  simp only [Bool.and_eq_true, Bool.or_eq_true, beq_iff_eq] at hbe
  have h5 := hall e he hbe.1
  rcases hbe.2 with h6 | h6
  · rw [h6, getD_false hi] at h5
    cases h5
  · have h7 := hb e.on (by simpa using h6)
    simp only [Bool.and_eq_true, beq_iff_eq] at h7
    rw [getD_false h7.1.1] at h5
    cases h5

theorem blocked_set {ops : Array Oper} {listed : Array Bool} {i j : Nat} {K : List Nat} (hb : blocked ops listed i K = true) (hj : j ∉ K) : blocked ops (listed.setIfInBounds j true) i K = true := by
  simp only [blocked, List.all_eq_true] at hb ⊢
  intro k hk
  have h1 := hb k hk
  have hjk : j ≠ k := fun h => hj (by rw [h]; exact hk)
  rw [getD_set_ne true hjk]
  exact h1

theorem wpAnyD_first {P : Program} {ops : Array Oper} {Q : Exit → Act → World → Prop} {S : World → Prop} {d i : Nat} {oi : Oper} {v : Value} {K : List Nat} (hd : d ∈ K) (hi : ops[i]? = some oi) (hsel : ∀ (j : Nat) (o : Oper) cs b, ops[j]? = some o → o.op ≠ .select cs b)
    (hQ : ∀ c a w, ¬ Q (.panic c) a w) :
    ∀ (fuel : Nat) (listed : Array Bool) (a : Act) (w : World),
      (∀ j oj, ops[j]? = some oj → j ≠ i → listed.getD j true = false → (∀ e ∈ oj.after, Region.binds .any e = true → e.on ≠ i) → oi.apart ops oj = true) →
      i ∈ Region.ready .any ops listed → blocked ops listed i K = true → YieldsIf P ops S oi v a → S w →
      wpAnyD P ops Q S d fuel (listed.setIfInBounds i true) (a.put oi.dst v) w → wpAnyD P ops Q S d (fuel + 1) listed a w := by
  intro fuel
  induction fuel with
  | zero =>
    intro listed a w _ hr hb hy hS H
    refine ⟨fun h => (by rw [h] at hr; cases hr), fun j hj => ?_⟩
    have hdi := (blocked_not hb (mem_ready.1 hr).1 hd).1
    by_cases hji : j = i
    · subst hji; exact hy.wpOp hi hS ⟨fun h => absurd h.symm hdi, fun _ => ⟨hS, H⟩⟩
    · have := ready_mono hj hji
      rw [H.1] at this
      cases this
  | succ fuel ih =>
    intro listed a w hfree hr hb hy hS H
    refine ⟨fun h => (by rw [h] at hr; cases hr), fun j hj => ?_⟩
    have hdi := (blocked_not hb (mem_ready.1 hr).1 hd).1
    by_cases hji : j = i
    · subst hji; exact hy.wpOp hi hS ⟨fun h => absurd h.symm hdi, fun _ => ⟨hS, H⟩⟩
    · have hjK : j ∉ K := fun h => (blocked_not hb (mem_ready.1 hr).1 h).2 hj
      have hjd : j ≠ d := fun h => hjK (h ▸ hd)
      have h1 := wpOp_mono (fun a' w' h => h.2 hjd) (H.2 j (ready_mono hj hji))
      obtain ⟨hjun, oj, hoj, hall⟩ := mem_ready.1 hj
      have hnot : ∀ e ∈ oj.after, Region.binds .any e = true → e.on ≠ i := fun e he hb heq => by
        have h1 := hall e he hb
        have h0 := (mem_ready.1 hr).1
        rw [heq, getD_false h0] at h1
        cases h1
      have h2 := wpOp_putIf hoj (hfree j oj hoj hji hjun hnot) (fun cs b => hsel i oi cs b hi) (fun cs b => hsel j oj cs b hoj) (fun c a w h => (hQ _ _ _ h).elim) hy h1
      have hfree' : ∀ k ok, ops[k]? = some ok → k ≠ i → (listed.setIfInBounds j true).getD k true = false →
          (∀ e ∈ ok.after, Region.binds .any e = true → e.on ≠ i) → oi.apart ops ok = true := fun k ok hk hki hun hno => by
        refine hfree k ok hk hki ?_ hno
        by_cases hjk : j = k
        · subst hjk; exact hjun
        · rw [getD_set_ne true hjk] at hun; exact hun
      refine wpOp_mono (fun a' w' h3 => ⟨fun h => absurd h hjd, fun _ => ⟨h3.2.1, ih (listed.setIfInBounds j true) a' w' hfree' (ready_mono hr (Ne.symm hji)) (blocked_set hb hjK) h3.1 h3.2.1 ?_⟩⟩) h2
      rw [Array.setIfInBounds_comm _ _ hji]
      exact h3.2.2

/-- What stands behind all but the last one: that one. -/
def LastQ (P : Program) (ops : List Oper) (Q : Exit → Act → World → Prop) (d : Nat) : Exit → Act → World → Prop
  | .normal, a, w => ∃ o, nth ops d = some o ∧
      ((gdOk ops o.guard a = true ∧ wpList P #[] (SegQ Q (fun _ => True) (Q .normal)) [bare o] a w) ∨ (gdOk ops o.guard a = false ∧ Q .normal (a.put o.dst undef) w))
  | e, a, w => Q e a w

def okSeqL (ops : Array Oper) (d : Nat) : List (Nat × Bool) → Array Bool → Bool
  | [], listed => (Region.ready .any ops listed == [d]) && (Region.ready .any ops (listed.setIfInBounds d true)).isEmpty
  | (i, true) :: rest, listed => (ops[i]?.any fun o => isVal o.op) && (Region.ready .any ops listed).contains i && Region.free .any ops listed i && blocked ops listed i (kset ops listed i) && (kset ops listed i).contains d && okSeqL ops d rest (listed.setIfInBounds i true)
  | (i, false) :: rest, listed => !(i == d) && (Region.ready .any ops listed == [i]) && okSeqL ops d rest (listed.setIfInBounds i true)

theorem wpOp_post {P : Program} {ops : Array Oper} {Q Q' : Exit → Act → World → Prop} {i : Nat} {K : Act → World → Prop} {a : Act} {w : World} (hp : ∀ c a w, Q (.panic c) a w → Q' (.panic c) a w) (hl : LetsOut Q → LetsOut Q') (h : wpOp P ops Q i K a w) : wpOp P ops Q' i K a w := by
  unfold wpOp at *
  split
  · rename_i ho
    simp only [ho] at h
    exact h
  · rename_i o ho
    simp only [ho] at h
    split
    · rename_i hw
      simp only [hw, if_true] at h
      rcases h with h | ⟨h1, h2⟩
      · left
        unfold Oper.wp at *
        generalize (execOp a.eval o).run P w = r at *
        cases r with
        | ok n w' =>
          cases n <;> simp only [Oper.upon] at h ⊢
          case value => exact h
          case skip => exact h
          case defer => exact h
          case enter =>
            refine Calls.mono h fun e w'' he => ?_
            cases e with
            | returned v => exact he
            | panicked c => exact hp _ _ _ he
            | outgrown => exact hl he
          case row => exact Rows.mono h fun _ _ he => he
        | halt x w' =>
          cases x <;> simp only [Oper.upon] at h ⊢
          case panic => exact hp _ _ _ h
      · exact .inr ⟨h1, hl h2⟩
    · rename_i hw
      simp only [hw] at h
      exact h

theorem segsL_sound {P : Program} {ops : Array Oper} {Q : Exit → Act → World → Prop} {S : World → Prop} {d : Nat} (hQ : ∀ c a w, ¬ Q (.panic c) a w) (hs : Region.noSelect ops = true) :
    ∀ (l : List (Nat × Bool)) (fuel : Nat) (listed : Array Bool) (a : Act) (w : World), l.length + 1 ≤ fuel → okSeqL ops d l listed = true → S w →
      wpSegs P ops.toList (LastQ P ops.toList Q d) S l a w → wpAnyD P ops Q S d fuel listed a w
  | l, 0, _, _, _, hl, _, _, _ => by omega
  | [], fuel + 1, listed, a, w, _, hok, _, h => by
    simp only [okSeqL, Bool.and_eq_true, beq_iff_eq, List.isEmpty_iff] at hok
    refine ⟨fun h0 => (by rw [hok.1] at h0; cases h0), fun j hj => ?_⟩
    rw [hok.1] at hj
    obtain rfl : j = d := by simpa using hj
    have h2 := loud_sound (S := fun _ => True) (K := Q .normal) (K' := Q .normal) (Q := Q) (ops := ops) (j := j) trivial (fun a w _ h => h) h
    refine wpOp_mono (fun a' w' h3 => ⟨fun _ => ?_, fun h => absurd rfl h⟩) h2
    cases fuel with
    | zero => exact ⟨hok.2, h3.2⟩
    | succ f => exact ⟨fun _ => h3.2, by rw [hok.2]; simp⟩
  | (i, true) :: rest, fuel + 1, listed, a, w, hl, hok, hS, h => by
    simp only [okSeqL, Bool.and_eq_true] at hok
    obtain ⟨⟨⟨⟨⟨hv, hr⟩, hf⟩, hbl⟩, hkd⟩, hrest⟩ := hok
    have hkd : d ∈ kset ops listed i := by simpa using hkd
    simp only [List.length_cons] at hl
    obtain ⟨o, ho, h⟩ := h
    rw [nth_eq, Array.getElem?_toList] at ho
    rw [ho] at hv
    simp only [Option.any_some] at hv
    rcases h with ⟨hg, d', hd, hds, a', hp, hk⟩ | ⟨hg, hk⟩
    · refine wpAnyD_first (v := a'.tmps.getD d' undef) hkd ho (Region.noSelect_spec hs) hQ fuel listed a w (Region.free_spec ho hf) (by simpa using hr) hbl (.inl ⟨by rw [gdOk_eq]; exact hg, fun w' hw' => ?_⟩) hS ?_
      · rcases wp_bare (hp w' hw') with h1 | ⟨_, h2⟩
        · unfold Oper.wp at h1
          rw [execOp_bare] at h1
          rcases isVal_run (P := P) (ρ := a.eval) hv w' with ⟨v, w2, hrun⟩ | ⟨x, w2, hrun⟩
          · rw [hrun] at h1 ⊢
            obtain ⟨_, h3, h4⟩ := h1
            subst h4
            subst h3
            have : (bare o).dst = some d' := hd
            rw [this]
            simp [Act.put, hds]
          · rw [hrun] at h1
            cases x <;> simp only [Oper.upon] at h1
            case panic => exact absurd h1.1 (by simp)
        · obtain ⟨_, _, h3, _⟩ := h2
          exact absurd h3 (by simp)
      · have ha : a.put o.dst (a'.tmps.getD d' undef) = a' := by
          rcases wp_bare (hp w hS) with h1 | ⟨_, h2⟩
          · unfold Oper.wp at h1
            rw [execOp_bare] at h1
            rcases isVal_run (P := P) (ρ := a.eval) hv w with ⟨v, w2, hrun⟩ | ⟨x, w2, hrun⟩
            · rw [hrun] at h1
              obtain ⟨_, h3, h4⟩ := h1
              have hd' : (bare o).dst = some d' := hd
              rw [← h3, hd', hd]
              simp [Act.put, hds]
            · rw [hrun] at h1
              cases x <;> simp only [Oper.upon] at h1
              case panic => exact absurd h1.1 (by simp)
          · obtain ⟨_, _, h3, _⟩ := h2
            exact absurd h3 (by simp)
        rw [ha]
        exact segsL_sound hQ hs rest fuel _ _ _ (by omega) hrest hS hk
    · refine wpAnyD_first (v := undef) hkd ho (Region.noSelect_spec hs) hQ fuel listed a w (Region.free_spec ho hf) (by simpa using hr) hbl (.inr ⟨by rw [gdOk_eq]; exact hg, rfl⟩) hS ?_
      exact segsL_sound hQ hs rest fuel _ _ _ (by omega) hrest hS hk
  | (i, false) :: rest, fuel + 1, listed, a, w, hl, hok, hS, h => by
    simp only [okSeqL, Bool.and_eq_true, beq_iff_eq, Bool.not_eq_true', beq_eq_false_iff_ne] at hok
    obtain ⟨⟨hid, hr⟩, hrest⟩ := hok
    simp only [List.length_cons] at hl
    refine ⟨fun h0 => (by rw [hr] at h0; cases h0), fun j hj => ?_⟩
    rw [hr] at hj
    obtain rfl : j = i := by simpa using hj
    have hlq : LetsOut (LastQ P ops.toList Q d) → LetsOut Q := fun ⟨a, w, h⟩ => ⟨a, w, h⟩
    have h2 := loud_sound (S := S) (Q := LastQ P ops.toList Q d) (K' := wpAnyD P ops Q S d fuel (listed.setIfInBounds j true)) (ops := ops) (j := j) hS (fun a w hS h => segsL_sound hQ hs rest fuel _ a w (by omega) hrest hS h) h
    exact wpOp_post (fun c a w h => h) hlq (wpOp_mono (fun a' w' h3 => ⟨fun h => absurd h hid, fun _ => h3⟩) h2)

/-- THE BEGINNING. -/
theorem wp_region_last {P : Program} {ops : List Oper} {Q : Exit → Act → World → Prop} {id : Nat} {a : Act} {w : World} (S : World → Prop) (d : Nat) (l : List (Nat × Bool)) (hm : P.follows .mixedOrders = true)
    (hok : (okSeqL ops.toArray d l (Array.replicate ops.length false) && Region.noSelect ops.toArray && decide (l.length + 1 ≤ ops.length)) = true) (hS : S w.drew)
    (h : wpSegs P ops (LastQ P ops (NoPanic Q) d) S l a w.drew) : (Code.region id ops.toArray true).wp P Q a w := by
  simp only [Bool.and_eq_true, decide_eq_true_eq] at hok
  obtain ⟨⟨hok, hn⟩, hl⟩ := hok
  refine wp_region_noPanic (wp_region_any hm (wpAny_of_D (S := S) (d := d) _ _ _ _ ?_))
  refine segsL_sound (S := S) (fun c a w h => h) hn l _ _ a _ ?_ ?_ hS ?_
  · simpa using hl
  · simpa using hok
  · simpa using h

/-- The last one. -/
theorem seg_last {P : Program} {ops : List Oper} {Q : Exit → Act → World → Prop} {S : World → Prop} {d : Nat} {a : Act} {w : World} {op : Op} {t : TypeId} {p : String} {af : Array Edge} {g : Option (Nat × Bool)} {dst : Option Tmp}
    (hi : nth ops d = some ⟨dst, op, t, p, af, g⟩) (hg : gdOk ops g a = true) (h : wpList P #[] (SegQ Q (fun _ => True) (Q .normal)) [⟨dst, op, t, p, #[], none⟩] a w) : wpSegs P ops (LastQ P ops Q d) S [] a w :=
  ⟨_, hi, .inl ⟨hg, h⟩⟩
end Go.Proofs.Ytpknafidbmnjpaa
