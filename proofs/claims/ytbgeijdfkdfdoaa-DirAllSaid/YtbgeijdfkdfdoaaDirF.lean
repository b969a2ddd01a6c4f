/-
  Rows of entries of the call's own: append of one entry.
-/
import Derived.Test.YtbgeijdfkdfdoaaDirE
namespace Go.Proofs.Ytbgeijdfkdfdoaa
open Go.RowKit

theorem info_ent : (Try.prog.info? 52).map (fun i => (i.zero, i.size, i.bytes)) = some (some (.agg #[.string (bs []), .int .i64 0, .int .i64 0, .int .i64 0]), 4, 40) := by kernel_rfl

theorem encE_one (e : DEnt) : ∀ u ∈ encE e, u.oneCell' = true := by
  intro u hu
  simp only [encE, List.mem_cons, List.not_mem_nil, or_false] at hu
  rcases hu with rfl | rfl | rfl | rfl <;> rfl

theorem encE_flat_len (l : List DEnt) : (l.flatMap encE).length = l.length * 4 := by
  induction l with
  | nil => rfl
  | cons e l ih => simp only [List.flatMap_cons, List.length_append, List.length_cons, ih]; simp [encE]; omega

theorem encE_flat_get : ∀ (l : List DEnt) (i : Nat) (e : DEnt) (j : Nat), l[i]? = some e → j < 4 → (l.flatMap encE)[i * 4 + j]? = (encE e)[j]?
  | [], i, e, j, h, _ => by simp at h
  | d :: l, 0, e, j, h, hj => by
    simp at h
    subst h
    rw [List.flatMap_cons, List.getElem?_append_left (by simp [encE]; omega)]
    simp
  | d :: l, i + 1, e, j, h, hj => by
    rw [List.flatMap_cons, List.getElem?_append_right (by simp [encE]; omega)]
    rw [show (i + 1) * 4 + j - (encE d).length = i * 4 + j from by simp [encE]; omega]
    exact encE_flat_get l i e j (by simpa using h) hj

/-- Entries of the call's own. -/
def OwnEnts (w : World) (B : Nat) (v : Value) (l : List DEnt) : Prop := w.ownsRow B 52 4 v l.length (l.flatMap encE)

theorem OwnEnts.nil (w : World) (B : Nat) : OwnEnts w B (.slice none 0 0) [] := World.ownsRow_nil w B _ _

theorem OwnEnts.keeps {w w' : World} {S : Nat → Prop} {B : Nat} {v : Value} {l : List DEnt} (h : OwnEnts w B v l) (hk : Keeps S w w') (hs : ∀ k, OwnB v k → ¬ S k) : OwnEnts w' B v l := own_keeps h hk hs

theorem OwnEnts.below {w w' : World} {B : Nat} {v : Value} {l : List DEnt} (h : OwnEnts w B v l) (hk : Below w.heap.size w w') : OwnEnts w' B v l :=
  own_keeps h (Keeps.ofBelow (S := fun _ => False) hk) (fun _ _ h => h)

theorem OwnEnts.isEnts {w : World} {B : Nat} {v : Value} {l : List DEnt} (h : OwnEnts w B v l) (hok : ∀ e ∈ l, e.ok) : IsEnts w v l := by
  obtain ⟨hl, hv | ⟨g, cap, cur, hv, hb, hg, hn, hm, hs, ht⟩⟩ := h
  · obtain ⟨rfl, h0⟩ := hv
    obtain rfl : l = [] := List.eq_nil_of_length_eq_zero h0
    exact ⟨none, 0, rfl, Nat.le_refl _, by simp [maxLen], by simp⟩
  · refine ⟨_, cap, hv, hn, hm, fun i e he => ⟨hok e (List.mem_of_getElem? he), g, 0, rfl, ?_⟩⟩
    have key : ∀ j, j < 4 → w.cell? ⟨g, i * 4 + j, none⟩ = (encE e)[j]? := by
      intro j hj
      rw [cell_of_row w g _ cur _ _ hg]
      have h1 := encE_flat_get l i e j he hj
      rw [← ht, List.getElem?_take] at h1
      rw [← h1, if_pos]
      · simp
      · have := (List.getElem?_eq_some_iff.1 he).1
        omega
    refine ⟨?_, ?_, ?_, ?_⟩
    · rw [Nat.zero_add]; exact key 0 (by omega)
    · rw [Nat.zero_add]; exact key 1 (by omega)
    · rw [Nat.zero_add]; exact key 2 (by omega)
    · rw [Nat.zero_add]; exact key 3 (by omega)

/-- append of one entry, in the walk. -/
theorem wpList_ent {P : Program} (w : World) {ops : Array Oper} {rest : List Oper} {o : Oper} {a : Act} {Q : Exit → Act → World → Prop} (hgd : o.guard = none) (s x : Operand)
    (hP : P = Try.prog) (ho : o.op = .call { callee := .builtin .append, args := #[s, x], argTypes := #[44, 44] })
    (B : Nat) (v : Value) (l : List DEnt) (hs : a.eval s = v) (hown : OwnEnts w B v l)
    (y : DEnt) (hx : a.eval x = .slice (some ⟨w.heap.size, 0, none⟩) 1 1)
    (h63 : l.length ≤ 1000000) (hbase : B ≤ w.heap.size)
    (h : ∀ v' w', OwnEnts w' B v' (l ++ [y]) → Keeps (OwnB v) w w' → SameOrNew w v v' → wpList P ops Q rest (a.put o.dst v') w') :
    wpList P ops Q (o :: rest) a (w.alloc (.cells #[.string (bs y.name), .int .i64 y.len, .int .i64 y.pos, .int .i64 y.sp] 52)) := by
  subst hP
  obtain ⟨i0, hi, hz0, hz1, hz2⟩ := info_parts info_ent
  refine wpList_app1 (P := Try.prog) w hgd s x 44 ho B 52 i0 _ 4 40 (by kernel_rfl) hi hz0 hz1 hz2 rfl (by decide) v l.length (l.flatMap encE) hs hown (encE y) hx rfl (encE_one y) (by simp only [maxLen]; omega) (by omega) hbase ?_
  intro v' w' h2 h3 h4
  refine h v' w' ?_ h3 h4
  simpa [OwnEnts] using h2
end Go.Proofs.Ytbgeijdfkdfdoaa
