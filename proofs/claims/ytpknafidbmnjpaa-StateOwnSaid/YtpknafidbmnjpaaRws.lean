/-
  Rows of structs, whatever the struct: reading, rows of the call's own, append of one. No condition.
-/
import Derived.Test.YtpknafidbmnjpaaBlk
namespace Go.Proofs.Ytpknafidbmnjpaa
open Go.RowKit

section
variable {α : Type} {k : Nat} {enc : α → List Value}

/-- A slice that reads as these structs, k cells each. -/
def IsRws (k : Nat) (enc : α → List Value) (w : World) (v : Value) (l : List α) : Prop :=
  ∃ a cap, v = .slice a l.length cap ∧ l.length ≤ cap ∧ cap ≤ maxLen ∧ ∀ i x, l[i]? = some x → ∃ b off, a = some ⟨b, off, none⟩ ∧ b < w.heap.size ∧ ∀ j u, (enc x)[j]? = some u → w.cell? ⟨b, off + i * k + j, none⟩ = some u

theorem IsRws.below {w w' : World} {v : Value} {l : List α} (h : IsRws k enc w v l) (hb : Below w.heap.size w w') : IsRws k enc w' v l := by
  obtain ⟨a, cap, hv, h1, h2, h3⟩ := h
  refine ⟨a, cap, hv, h1, h2, fun i x hx => ?_⟩
  obtain ⟨b, off, ha, hlt, hc⟩ := h3 i x hx
  exact ⟨b, off, ha, Nat.lt_of_lt_of_le hlt hb.size, fun j u hu => by rw [hb.cell hlt]; exact hc j u hu⟩

theorem IsRws.nil (w : World) : IsRws k enc w (.slice none 0 0) [] := ⟨none, 0, rfl, Nat.le_refl _, by simp [maxLen], by simp⟩

theorem flat_len' (hk : ∀ x, (enc x).length = k) (l : List α) : (l.flatMap enc).length = l.length * k := by
  induction l with
  | nil => simp
  | cons e l ih => simp only [List.flatMap_cons, List.length_append, List.length_cons, ih, hk]; rw [Nat.add_mul, Nat.one_mul, Nat.add_comm]

theorem flat_get (hk : ∀ x, (enc x).length = k) : ∀ (l : List α) (i : Nat) (x : α) (j : Nat), l[i]? = some x → j < k → (l.flatMap enc)[i * k + j]? = (enc x)[j]?
  | [], i, x, j, h, _ => by simp at h
  | d :: l, 0, x, j, h, hj => by
    simp at h
    subst h
    rw [List.flatMap_cons, List.getElem?_append_left (by rw [hk]; omega)]
    simp
  | d :: l, i + 1, x, j, h, hj => by
    rw [List.flatMap_cons, List.getElem?_append_right (by rw [hk, Nat.add_mul]; omega)]
    rw [show (i + 1) * k + j - (enc d).length = i * k + j from by rw [hk, Nat.add_mul]; omega]
    exact flat_get hk l i x j (by simpa using h) hj

/-- Structs of the call's own. -/
def OwnRws (t : TypeId) (k : Nat) (enc : α → List Value) (w : World) (B : Nat) (v : Value) (l : List α) : Prop := w.ownsRow B t k v l.length (l.flatMap enc)

variable {t : TypeId}

theorem OwnRws.nil (w : World) (B : Nat) : OwnRws t k enc w B (.slice none 0 0) [] := World.ownsRow_nil w B _ _

theorem OwnRws.keeps {w w' : World} {S : Nat → Prop} {B : Nat} {v : Value} {l : List α} (h : OwnRws t k enc w B v l) (hk : Keeps S w w') (hs : ∀ k, OwnB v k → ¬ S k) : OwnRws t k enc w' B v l := own_keeps h hk hs

theorem OwnRws.below {w w' : World} {B : Nat} {v : Value} {l : List α} (h : OwnRws t k enc w B v l) (hk : Below w.heap.size w w') : OwnRws t k enc w' B v l :=
  own_keeps h (Keeps.ofBelow (S := fun _ => False) hk) (fun _ _ h => h)

theorem OwnRws.isRws {w : World} {B : Nat} {v : Value} {l : List α} (hk : ∀ x, (enc x).length = k) (h : OwnRws t k enc w B v l) : IsRws k enc w v l := by
  obtain ⟨hl, hv | ⟨g, cap, cur, hv, hb, hg, hn, hm, hs, ht⟩⟩ := h
  · obtain ⟨rfl, h0⟩ := hv
    obtain rfl : l = [] := List.eq_nil_of_length_eq_zero h0
    exact IsRws.nil w
  · refine ⟨_, cap, hv, hn, hm, fun i x hx => ⟨g, 0, rfl, (Array.getElem?_eq_some_iff.1 hg).1, fun j u hu => ?_⟩⟩
    have hj : j < k := by rw [← hk x]; exact (List.getElem?_eq_some_iff.1 hu).1
    have hi : i < l.length := (List.getElem?_eq_some_iff.1 hx).1
    rw [cell_of_row w g _ cur _ _ hg, Nat.zero_add]
    have h1 := flat_get hk l i x j hx hj
    rw [← ht, List.getElem?_take] at h1
    have h2 : i * k + j < l.length * k := by
      have : (i + 1) * k ≤ l.length * k := Nat.mul_le_mul_right _ hi
      rw [Nat.add_mul] at this
      omega
    rw [if_pos h2] at h1
    rw [← hu, ← h1]
    simp

/-- append of one struct, in the walk. -/
theorem wpList_row1 {P : Program} (w : World) {ops : Array Oper} {rest : List Oper} {o : Oper} {a : Act} {Q : Exit → Act → World → Prop} (hgd : o.guard = none) (s x : Operand) (ts : TypeId)
    (ho : o.op = .call { callee := .builtin .append, args := #[s, x], argTypes := #[ts, ts] })
    (z : Value) (bytes : Nat) (ht : P.underlying ts = some (.slice t)) (hi : (P.info? t).map (fun i => (i.zero, i.size, i.bytes)) = some (some z, k, bytes)) (hzs : z.cells.size = k) (h0 : 0 < k) (hby : bytes ≤ 100000000)
    (B : Nat) (v : Value) (l : List α) (hs : a.eval s = v) (hown : OwnRws t k enc w B v l)
    (y : α) (cs : Array Value) (hcs : cs = (enc y).toArray) (hk : (enc y).length = k) (h1 : ∀ u ∈ enc y, u.oneCell' = true) (hx : a.eval x = .slice (some ⟨w.heap.size, 0, none⟩) 1 1)
    (h63 : l.length ≤ 1000000) (hbase : B ≤ w.heap.size)
    (h : ∀ v' w', OwnRws t k enc w' B v' (l ++ [y]) → Keeps (OwnB v) w w' → SameOrNew w v v' → wpList P ops Q rest (a.put o.dst v') w') :
    wpList P ops Q (o :: rest) a (w.alloc (.cells cs t)) := by
  subst hcs
  obtain ⟨i0, hi, hz0, hz1, hz2⟩ := info_parts hi
  refine wpList_app1 (P := P) w hgd s x ts ho B t i0 z k bytes ht hi hz0 hz1 hz2 hzs h0 v l.length (l.flatMap enc) hs hown (enc y) hx (by omega) h1 (by simp only [maxLen]; omega) ?_ hbase ?_
  · have : (l.length + 1) * bytes ≤ 1000001 * 100000000 := Nat.mul_le_mul (by omega) hby
    omega
  · intro v' w' h2 h3 h4
    refine h v' w' ?_ h3 h4
    simpa [OwnRws] using h2
end
end Go.Proofs.Ytpknafidbmnjpaa
