/-
  What StateOwn asks of a copy: its rows lie by themselves; numbers set in them leave the rows rows. No condition.
-/
import Derived.Test.YtpknafidbmnjpaaStR
import Derived.Test.YtpknafidbmnjpaaSeqI
namespace Go.Proofs.Ytpknafidbmnjpaa
open Go.RowKit

/-- A copy whose rows lie in the blocks from L on, below H. -/
def CopyIn (w : World) (L H : Nat) (uv uf : Value) (t : SEnt) : Prop :=
  (OwnRws 39 2 encV w L uv t.vals ∧ ∀ g, OwnB uv g → g < H) ∧ ∃ us : List (Value × Value), us.length = t.frames.length ∧ (OwnRws 42 5 encF w L uf (t.frames.zip us) ∧ ∀ g, OwnB uf g → g < H) ∧
    ∀ (i : Nat) (f : FEnt) (u : Value × Value), t.frames[i]? = some f → us[i]? = some u → (OwnRws 39 2 encV w L u.1 f.locals ∧ ∀ g, OwnB u.1 g → g < H) ∧ OwnRws 44 2 encL w L u.2 f.labels ∧ ∀ g, OwnB u.2 g → g < H

theorem CopyIn.keeps {w w' : World} {L H : Nat} {uv uf : Value} {t : SEnt} {S : Nat → Prop} (h : CopyIn w L H uv uf t) (hk : Keeps S w w') (hs : ∀ i, S i → i < L ∨ H ≤ i) : CopyIn w' L H uv uf t := by
  obtain ⟨h1, us, h2, h3, h4⟩ := h
  have key : ∀ {α : Type} {t : TypeId} {k : Nat} {enc : α → List Value} {u : Value} {l : List α}, (OwnRws t k enc w L u l ∧ ∀ g, OwnB u g → g < H) → OwnRws t k enc w' L u l ∧ ∀ g, OwnB u g → g < H := fun h =>
    ⟨h.1.keeps hk (fun i hi hj => by have := (own_lt h.1 hi).1; have := h.2 i hi; have := hs i hj; omega), h.2⟩
  exact ⟨key h1, us, h2, key h3, fun i f u hf hu => ⟨key (h4 i f u hf hu).1, key (h4 i f u hf hu).2⟩⟩

theorem CopyIn.below {w w' : World} {L H : Nat} {uv uf : Value} {t : SEnt} (h : CopyIn w L H uv uf t) (hk : Below w.heap.size w w') : CopyIn w' L H uv uf t := h.keeps (Keeps.ofBelow (S := fun _ => False) hk) (fun _ h => h.elim)

theorem CopyIn.isState {w : World} {L H : Nat} {uv uf : Value} {t : SEnt} (h : CopyIn w L H uv uf t) (ho : t.ok) : IsState w uv uf t := by
  obtain ⟨h1, us, h2, h3, h4⟩ := h
  exact ⟨h1.1.isRws encV_len, ⟨us, h2, h3.1.isRws encF_len, fun i f u hf hu => ⟨(h4 i f u hf hu).1.1.isRws encV_len, (h4 i f u hf hu).2.1.isRws encL_len⟩, ho.2.2⟩, ho⟩

theorem copyIn_of {w w' : World} {uv uf : Value} {t : SEnt} {M : Nat} (hM : w.heap.size ≤ M) (hov : OwnRws 39 2 encV w' w.heap.size uv t.vals) (hcf : CopyFrames w' M uf t.frames) : CopyIn w' w.heap.size w'.heap.size uv uf t := by
  obtain ⟨us, h1, h2, h3, h4⟩ := hcf
  have key : ∀ {α : Type} {t : TypeId} {k : Nat} {enc : α → List Value} {u : Value} {l : List α}, OwnRws t k enc w' M u l → OwnRws t k enc w' w.heap.size u l ∧ ∀ g, OwnB u g → g < w'.heap.size := fun h =>
    ⟨own_base h (fun g hg => Nat.le_trans hM (own_lt h hg).1), fun g hg => (own_lt h hg).2⟩
  exact ⟨⟨hov, fun g hg => (own_lt hov hg).2⟩, us, h1, key h2, fun i f u hf hu => ⟨key (h4 i f u hf hu).1, key (h4 i f u hf hu).2⟩⟩

/-- A row of pairs of numbers, whatever they are. -/
def IntRow (t : TypeId) (w : World) (L H : Nat) (v : Value) : Prop :=
  v = .slice none 0 0 ∨ ∃ g n cap cur, v = .slice (some ⟨g, 0, none⟩) n cap ∧ (L ≤ g ∧ g < H) ∧ Blk w g cur t ∧ n ≤ cap ∧ cap ≤ maxLen ∧ ∀ j, j < n * 2 → ∃ z, cur[j]? = some (.int .i64 z)

theorem IntRow.of {α : Type} {t : TypeId} {enc : α → List Value} {w : World} {L H : Nat} {v : Value} {l : List α} (h : OwnRws t 2 enc w L v l) (hH : ∀ g, OwnB v g → g < H) (he : ∀ x, ∀ u ∈ enc x, ∃ z, u = .int .i64 z) : IntRow t w L H v := by
  obtain ⟨hl, hv | ⟨g, cap, cur, hv, hb, hg, hn, hm, hs, ht⟩⟩ := h
  · exact .inl hv.1
  · refine .inr ⟨g, l.length, cap, cur, hv, ⟨hb, hH g (by rw [hv]; rfl)⟩, hg, hn, hm, fun j hj => ?_⟩
    have h1 : (l.flatMap enc)[j]? = some ((l.flatMap enc)[j]'(by rw [hl]; exact hj)) := List.getElem?_eq_getElem _
    obtain ⟨x, hx, hu⟩ := List.mem_flatMap.1 (List.mem_of_getElem? h1)
    obtain ⟨z, hz⟩ := he x _ hu
    rw [hz, ← ht, List.getElem?_take, if_pos hj] at h1
    exact ⟨z, by simpa using h1⟩

theorem IntRow.slice {t : TypeId} {w : World} {L H : Nat} {v : Value} (h : IntRow t w L H v) : ∃ a n cap, v = .slice a n cap ∧ n ≤ cap ∧ cap ≤ 9223372036854775807 := by
  rcases h with h | ⟨g, n, cap, cur, hv, _, _, hn, hm, _⟩
  · exact ⟨_, _, _, h, Nat.le_refl _, by omega⟩
  · exact ⟨_, _, _, hv, hn, hm⟩

theorem IntRow.get {t : TypeId} {w : World} {L H : Nat} {a : Option Addr} {n cap : Nat} (h : IntRow t w L H (.slice a n cap)) {k : Nat} (hk : k < n) : ∃ g cur z0 z1, a = some ⟨g, 0, none⟩ ∧ (L ≤ g ∧ g < H) ∧ Blk w g cur t ∧
    w.cell? ⟨g, k * 2, none⟩ = some (.int .i64 z0) ∧ w.cell? ⟨g, k * 2 + 1, none⟩ = some (.int .i64 z1) := by
  rcases h with h | ⟨g, n', cap', cur, hv, hg, hb, hn, hm, hc⟩
  · injection h with _ h _
    omega
  · injection hv with e1 e2 e3
    subst e2
    obtain ⟨z0, h0⟩ := hc (k * 2) (by omega)
    obtain ⟨z1, h1⟩ := hc (k * 2 + 1) (by omega)
    exact ⟨g, cur, z0, z1, e1, hg, hb, (hb.cell _).trans h0, (hb.cell _).trans h1⟩

theorem Blk.setAny {w : World} {X : Nat} {xs : Array Value} {t : TypeId} (h : Blk w X xs t) (g j : Nat) (v : Value) : Blk (w.setCell ⟨g, j, none⟩ v) X (if g = X then xs.setIfInBounds j v else xs) t := by
  by_cases hg : g = X
  · rw [if_pos hg]
    subst hg
    exact h.set j v
  · rw [if_neg hg]
    exact h.other _ _ (fun h => hg h.symm)

theorem IntRow.set {t : TypeId} {w : World} {L H : Nat} {v : Value} (h : IntRow t w L H v) (g j : Nat) (z : Int) : IntRow t (w.setCell ⟨g, j, none⟩ (.int .i64 z)) L H v := by
  rcases h with h | ⟨g', n, cap, cur, hv, hg, hb, hn, hm, hc⟩
  · exact .inl h
  · refine .inr ⟨g', n, cap, _, hv, hg, hb.setAny g j _, hn, hm, fun k hk => ?_⟩
    obtain ⟨y, hy⟩ := hc k hk
    split
    · rw [Array.getElem?_setIfInBounds]
      split
      · rename_i h1
        subst h1
        rw [if_pos (Array.getElem?_eq_some_iff.1 hy).1]
        exact ⟨z, rfl⟩
      · exact ⟨y, hy⟩
    · exact ⟨y, hy⟩

/-- Frames, whatever their numbers are. -/
def FShape (w : World) (L H : Nat) (uf : Value) (us : List (Value × Value)) : Prop :=
  (uf = .slice none 0 0 ∧ us = []) ∨ ∃ g cap cur, uf = .slice (some ⟨g, 0, none⟩) us.length cap ∧ (L ≤ g ∧ g < H) ∧ Blk w g cur 42 ∧
    ∀ (i : Nat) (u : Value × Value), us[i]? = some u → (∃ z, cur[i * 5 + 1]? = some (.int .i64 z)) ∧ (cur[i * 5 + 2]? = some u.1 ∧ cur[i * 5 + 4]? = some u.2) ∧ IntRow 39 w L H u.1 ∧ IntRow 44 w L H u.2

def OwnShape (w : World) (L H : Nat) (uv uf : Value) (us : List (Value × Value)) : Prop := IntRow 39 w L H uv ∧ FShape w L H uf us

theorem Blk.ne {w : World} {X Y : Nat} {xs ys : Array Value} {t t' : TypeId} (h : Blk w X xs t) (h' : Blk w Y ys t') (hne : t ≠ t') : X ≠ Y := by
  intro e
  subst e
  have := (show w.heap[X]? = some (.cells xs t) from h).symm.trans h'
  injection this with this
  injection this with _ this
  exact hne this

theorem OwnShape.set {w : World} {L H : Nat} {uv uf : Value} {us : List (Value × Value)} (h : OwnShape w L H uv uf us) {g : Nat} {xs : Array Value} {t : TypeId} (hg : Blk w g xs t) (ht : t ≠ 42) (j : Nat) (z : Int) :
    OwnShape (w.setCell ⟨g, j, none⟩ (.int .i64 z)) L H uv uf us := by
  refine ⟨h.1.set g j z, ?_⟩
  rcases h.2 with h | ⟨g', cap, cur, hv, hb, hk, hc⟩
  · exact .inl h
  · refine .inr ⟨g', cap, cur, hv, hb, hk.other _ _ (fun e => hg.ne hk ht e.symm), fun i u hu => ?_⟩
    obtain ⟨h1, h2, h3, h4⟩ := hc i u hu
    exact ⟨h1, h2, h3.set g j z, h4.set g j z⟩

theorem FShape.get {w : World} {L H : Nat} {a : Option Addr} {n cap : Nat} {us : List (Value × Value)} (h : FShape w L H (.slice a n cap) us) {i : Nat} {u1 u2 : Value} (hu : us[i]? = some (u1, u2)) :
    ∃ g cur z, a = some ⟨g, 0, none⟩ ∧ n = us.length ∧ (L ≤ g ∧ g < H) ∧ Blk w g cur 42 ∧ w.cell? ⟨g, i * 5 + 1, none⟩ = some (.int .i64 z) ∧ w.cell? ⟨g, i * 5 + 2, none⟩ = some u1 ∧ w.cell? ⟨g, i * 5 + 4, none⟩ = some u2 ∧
      IntRow 39 w L H u1 ∧ IntRow 44 w L H u2 := by
  rcases h with ⟨_, h⟩ | ⟨g, cap', cur, hv, hb, hk, hc⟩
  · rw [h] at hu
    simp at hu
  · injection hv with e1 e2 e3
    obtain ⟨⟨z, h1⟩, ⟨h2, h3⟩, h4, h5⟩ := hc i _ hu
    exact ⟨g, cur, z, e1, e2, hb, hk, (hk.cell _).trans h1, (hk.cell _).trans h2, (hk.cell _).trans h3, h4, h5⟩

theorem FShape.len {w : World} {L H : Nat} {a : Option Addr} {n cap : Nat} {us : List (Value × Value)} (h : FShape w L H (.slice a n cap) us) : us.length = n := by
  rcases h with ⟨h, h'⟩ | ⟨g, cap', cur, hv, _⟩
  · injection h with _ h _
    rw [h', h]
    rfl
  · injection hv with _ e _
    exact e.symm

theorem OwnShape.setPc {w : World} {L H g n cap : Nat} {uv : Value} {us : List (Value × Value)} (h : OwnShape w L H uv (.slice (some ⟨g, 0, none⟩) n cap) us) (i : Nat) (z : Int) :
    OwnShape (w.setCell ⟨g, i * 5 + 1, none⟩ (.int .i64 z)) L H uv (.slice (some ⟨g, 0, none⟩) n cap) us := by
  refine ⟨h.1.set g _ z, ?_⟩
  rcases h.2 with h | ⟨g', cap', cur, hv, hb, hk, hc⟩
  · exact .inl h
  · injection hv with e1 e2 e3
    injection e1 with e1
    injection e1 with e1 _
    subst e1 e2 e3
    refine .inr ⟨g, cap, _, rfl, hb, hk.set (i * 5 + 1) (.int .i64 z), fun k u hu => ?_⟩
    obtain ⟨⟨y, h1⟩, ⟨h2, h3⟩, h4, h5⟩ := hc k u hu
    refine ⟨?_, ⟨?_, ?_⟩, h4.set g _ z, h5.set g _ z⟩
    · rw [Array.getElem?_setIfInBounds]
      split
      · rename_i h6
        rw [h6, if_pos (Array.getElem?_eq_some_iff.1 h1).1]
        exact ⟨z, rfl⟩
      · exact ⟨y, h1⟩
    · rw [Array.getElem?_setIfInBounds, if_neg (by omega)]
      exact h2
    · rw [Array.getElem?_setIfInBounds, if_neg (by omega)]
      exact h3

theorem encV_int (x : VEnt) : ∀ u ∈ encV x, ∃ z, u = .int .i64 z := by
  intro u hu
  simp only [encV, List.mem_cons, List.not_mem_nil, or_false] at hu
  rcases hu with rfl | rfl <;> exact ⟨_, rfl⟩
theorem encL_int (x : LEnt) : ∀ u ∈ encL x, ∃ z, u = .int .i64 z := by
  intro u hu
  simp only [encL, List.mem_cons, List.not_mem_nil, or_false] at hu
  rcases hu with rfl | rfl <;> exact ⟨_, rfl⟩

theorem CopyIn.shape {w : World} {L H : Nat} {uv uf : Value} {t : SEnt} (h : CopyIn w L H uv uf t) : ∃ us, us.length = t.frames.length ∧ OwnShape w L H uv uf us := by
  obtain ⟨h1, us, h2, h3, h4⟩ := h
  refine ⟨us, h2, IntRow.of h1.1 h1.2 encV_int, ?_⟩
  have hz : (t.frames.zip us).length = us.length := by rw [List.length_zip, h2, Nat.min_self]
  obtain ⟨hl, hv | ⟨g, cap, cur, hv, hb, hg, hn, hm, hs, ht⟩⟩ := id h3.1
  · refine .inl ⟨hv.1, List.eq_nil_of_length_eq_zero (by rw [← hz]; exact hv.2)⟩
  · refine .inr ⟨g, cap, cur, by rw [hv, hz], ⟨hb, h3.2 g (by rw [hv]; rfl)⟩, hg, fun i u hu => ?_⟩
    obtain ⟨f, hf⟩ : ∃ f, t.frames[i]? = some f := ⟨_, List.getElem?_eq_getElem (by rw [← h2]; exact (List.getElem?_eq_some_iff.1 hu).1)⟩
    have hzz : (t.frames.zip us)[i]? = some (f, u) := (List.getElem?_zip_eq_some (z := (f, u))).2 ⟨hf, hu⟩
    have ho := h3.1
    rw [hv] at ho
    have hbk : Blk w g cur 42 := hg
    have c1 := (hbk.cell _).symm.trans (ho.cell encF_len (j := 1) hzz rfl)
    have c2 := (hbk.cell _).symm.trans (ho.cell encF_len (j := 2) hzz rfl)
    have c4 := (hbk.cell _).symm.trans (ho.cell encF_len (j := 4) hzz rfl)
    obtain ⟨g1, g2⟩ := h4 i f u hf hu
    exact ⟨⟨_, c1⟩, ⟨c2, c4⟩, IntRow.of g1.1 g1.2 encV_int, IntRow.of g2.1 g2.2 encL_int⟩
end Go.Proofs.Ytpknafidbmnjpaa
