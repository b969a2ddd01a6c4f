/-
  What the claim's form tells of a state that came in, in this seat's words. No condition.
-/
import Derived.Test.YtpknafidbmnjpaaStA
import Derived.Test.YtpknafidbmnjpaaRow
import Derived.Deep.Slices
import Derived.ProofKit
import Derived.Lib.SmallJoins
namespace Go.Proofs.Ytpknafidbmnjpaa
open Go.RowKit Go.ChangeShapes Go.WideShapes Go.ChangeAt
open Go.Deep (open_slice choose_lt)

theorem lt_of_len {α : Type} {xs : List α} {n i : Nat} (h : xs.length = n) (hi : i < n) : ∃ x, xs[i]? = some x := ⟨_, List.getElem?_eq_getElem (by omega)⟩

section
variable {H : Type} {enc : TypeId × Value → H} {w : World} {base : Nat} {spare : Nat → Bool} {held : Bool}

/-- A slice of structs, whatever the struct. -/
theorem rows_open {α : Type} [Inhabited α] {t e : TypeId} {k : Nat} {en : α → List Value} {Q : α → Prop} (ht : Try.prog.underlying t = some (.slice e)) (hk : Try.prog.cellsOf e = k) (h0 : 0 < k) (hen : ∀ y, (en y).length = k)
    (hel : ∀ n cs x, DataW.trod enc Try.prog w base spare held n e cs = some x → ∃ y, cs = en y ∧ Q y)
    {fuel : Nat} {cs : List Value} {x : DataW H × List MemPlace} (h : DataW.trod enc Try.prog w base spare held fuel t cs = some x) : ∃ v l, cs = [v] ∧ IsRws k en w v l ∧ ∀ y ∈ l, Q y := by
  rcases open_slice ht h with ⟨hcs, _⟩ | ⟨ad, len, cap, m, n, D, Pl, hcs, _, hl, hm, hmm, _, hx⟩
  · exact ⟨_, [], hcs, IsRws.nil w, by simp⟩
  · rw [hk] at hx
    have hlm : len ≤ m := by rw [hmm]; split <;> omega
    have hex : ∀ i, i < len → ∃ y : α, Q y ∧ ∀ j, j < k → w.cell? ((ad.add (i * k)).add j) = (en y)[j]? := by
      intro i hi
      obtain ⟨cs', h1, h2⟩ := hx i (by omega)
      obtain ⟨y, rfl, hy⟩ := hel _ _ _ h2
      obtain ⟨_, _, h3⟩ := World.cells?_some h1
      exact ⟨y, hy, h3⟩
    obtain ⟨f, hf⟩ := choose_lt hex
    have hget : ∀ (i : Nat) (y : α), ((List.range len).map f)[i]? = some y → i < len ∧ y = f i := by
      intro i y hy
      rw [List.getElem?_map] at hy
      have hi : i < len := by
        rcases Nat.lt_or_ge i len with g | g
        · exact g
        · rw [List.getElem?_eq_none (by simpa using g)] at hy
          cases hy
      rw [List.getElem?_eq_getElem (by simpa using hi)] at hy
      simp at hy
      exact ⟨hi, hy.symm⟩
    refine ⟨_, (List.range len).map f, hcs, ⟨some ad, cap, by simp, by simpa using hl, hm, fun i y hy => ?_⟩, fun y hy => ?_⟩
    · obtain ⟨hi, rfl⟩ := hget i y hy
      obtain ⟨b, off, spot⟩ := ad
      have hs : spot = none := by
        have g := (hf 0 (by omega)).2 0 h0
        obtain ⟨x, hx⟩ := lt_of_len (hen (f 0)) h0
        rw [hx] at g
        have := World.cell?_spot g
        simpa [Addr.add] using this
      subst hs
      have hc := (hf i hi).2
      have ha : ∀ j, ((⟨b, off, none⟩ : Addr).add (i * k)).add j = ⟨b, off + i * k + j, none⟩ := fun j => by rw [Addr.add_lit, Addr.add_lit]
      refine ⟨b, off, rfl, ?_, fun j u hu => ?_⟩
      · obtain ⟨x, hx⟩ := lt_of_len (hen (f i)) h0
        have g := hc 0 h0
        rw [hx, ha] at g
        exact World.block_lt_of_cell? w _ g
      · have hj : j < k := by rw [← hen (f i)]; exact (List.getElem?_eq_some_iff.1 hu).1
        have := hc j hj
        rw [ha, hu] at this
        exact this
    · obtain ⟨i, hi⟩ := List.mem_iff_getElem?.1 hy
      obtain ⟨h1, rfl⟩ := hget i y hi
      exact (hf i h1).1

instance : Inhabited VEnt := ⟨⟨0, 0⟩⟩
instance : Inhabited LEnt := ⟨⟨0, 0⟩⟩
instance : Inhabited FEnt := ⟨⟨0, 0, [], 0, []⟩⟩

theorem val_open {fuel : Nat} {cs : List Value} {x : DataW H × List MemPlace} (h : DataW.trod enc Try.prog w base spare held fuel 39 cs = some x) : ∃ v : VEnt, cs = encV v ∧ v.ok := by
  obtain ⟨xs, n, rfl, rfl, hlen, hxs, hf⟩ := DataW.trod_struct Try.underlying39 h
  rw [show Try.prog.cellsOf 39 = 2 from by kernel_rfl] at hlen
  have f0 : DataW.trod enc Try.prog w base spare held n 3 ((cs.drop 0).take (Try.prog.cellsOf 3)) = xs[0]? := hf 0 _ rfl
  have f1 : DataW.trod enc Try.prog w base spare held n 2 ((cs.drop 1).take (Try.prog.cellsOf 2)) = xs[1]? := hf 1 _ rfl
  obtain ⟨x0, h0⟩ := lt_of_len (i := 0) hxs (by decide)
  obtain ⟨x1, h1⟩ := lt_of_len (i := 1) hxs (by decide)
  rw [h0] at f0
  rw [h1] at f1
  match cs, hlen with
  | [c0, c1], _ =>
    simp only [show Try.prog.cellsOf 3 = 1 from by kernel_rfl, show Try.prog.cellsOf 2 = 1 from by kernel_rfl, List.drop_succ_cons, List.drop_zero, List.take_succ_cons, List.take_zero] at f0 f1
    obtain ⟨a, e0, _, w0⟩ := DataW.trod_int Try.underlying3 f0
    obtain ⟨b, e1, _, w1⟩ := DataW.trod_int Try.underlying2 f1
    injection e0 with e0
    injection e1 with e1
    subst e0 e1
    exact ⟨⟨a, b⟩, rfl, bounds_i64 w0, bounds_i64 w1⟩

theorem vals_open {fuel : Nat} {cs : List Value} {x : DataW H × List MemPlace} (h : DataW.trod enc Try.prog w base spare held fuel 22 cs = some x) : ∃ v l, cs = [v] ∧ IsRws 2 encV w v l ∧ ∀ y ∈ l, y.ok :=
  rows_open Try.underlying22 (by kernel_rfl) (by decide) encV_len (fun _ _ _ h => val_open h) h

theorem lab_open {fuel : Nat} {cs : List Value} {x : DataW H × List MemPlace} (h : DataW.trod enc Try.prog w base spare held fuel 44 cs = some x) : ∃ v : LEnt, cs = encL v ∧ v.ok := by
  obtain ⟨xs, n, rfl, rfl, hlen, hxs, hf⟩ := DataW.trod_struct Try.underlying44 h
  rw [show Try.prog.cellsOf 44 = 2 from by kernel_rfl] at hlen
  have f0 : DataW.trod enc Try.prog w base spare held n 3 ((cs.drop 0).take (Try.prog.cellsOf 3)) = xs[0]? := hf 0 _ rfl
  have f1 : DataW.trod enc Try.prog w base spare held n 3 ((cs.drop 1).take (Try.prog.cellsOf 3)) = xs[1]? := hf 1 _ rfl
  obtain ⟨x0, h0⟩ := lt_of_len (i := 0) hxs (by decide)
  obtain ⟨x1, h1⟩ := lt_of_len (i := 1) hxs (by decide)
  rw [h0] at f0
  rw [h1] at f1
  match cs, hlen with
  | [c0, c1], _ =>
    simp only [show Try.prog.cellsOf 3 = 1 from by kernel_rfl, List.drop_succ_cons, List.drop_zero, List.take_succ_cons, List.take_zero] at f0 f1
    obtain ⟨a, e0, _, w0⟩ := DataW.trod_int Try.underlying3 f0
    obtain ⟨b, e1, _, w1⟩ := DataW.trod_int Try.underlying3 f1
    injection e0 with e0
    injection e1 with e1
    subst e0 e1
    exact ⟨⟨a, b⟩, rfl, bounds_i64 w0, bounds_i64 w1⟩

theorem labs_open {fuel : Nat} {cs : List Value} {x : DataW H × List MemPlace} (h : DataW.trod enc Try.prog w base spare held fuel 40 cs = some x) : ∃ v l, cs = [v] ∧ IsRws 2 encL w v l ∧ ∀ y ∈ l, y.ok :=
  rows_open Try.underlying40 (by kernel_rfl) (by decide) encL_len (fun _ _ _ h => lab_open h) h

theorem frame_open {fuel : Nat} {cs : List Value} {x : DataW H × List MemPlace} (h : DataW.trod enc Try.prog w base spare held fuel 42 cs = some x) :
    ∃ y : FEnt × Value × Value, cs = encF y ∧ ((IsRws 2 encV w y.2.1 y.1.locals ∧ IsRws 2 encL w y.2.2 y.1.labels) ∧ y.1.ok) := by
  obtain ⟨xs, n, rfl, rfl, hlen, hxs, hf⟩ := DataW.trod_struct Try.underlying42 h
  rw [show Try.prog.cellsOf 42 = 5 from by kernel_rfl] at hlen
  have f0 : DataW.trod enc Try.prog w base spare held n 3 ((cs.drop 0).take (Try.prog.cellsOf 3)) = xs[0]? := hf 0 _ rfl
  have f1 : DataW.trod enc Try.prog w base spare held n 3 ((cs.drop 1).take (Try.prog.cellsOf 3)) = xs[1]? := hf 1 _ rfl
  have f2 : DataW.trod enc Try.prog w base spare held n 22 ((cs.drop 2).take (Try.prog.cellsOf 22)) = xs[2]? := hf 2 _ rfl
  have f3 : DataW.trod enc Try.prog w base spare held n 3 ((cs.drop 3).take (Try.prog.cellsOf 3)) = xs[3]? := hf 3 _ rfl
  have f4 : DataW.trod enc Try.prog w base spare held n 40 ((cs.drop 4).take (Try.prog.cellsOf 40)) = xs[4]? := hf 4 _ rfl
  obtain ⟨x0, h0⟩ := lt_of_len (i := 0) hxs (by decide)
  obtain ⟨x1, h1⟩ := lt_of_len (i := 1) hxs (by decide)
  obtain ⟨x2, h2⟩ := lt_of_len (i := 2) hxs (by decide)
  obtain ⟨x3, h3⟩ := lt_of_len (i := 3) hxs (by decide)
  obtain ⟨x4, h4⟩ := lt_of_len (i := 4) hxs (by decide)
  rw [h0] at f0
  rw [h1] at f1
  rw [h2] at f2
  rw [h3] at f3
  rw [h4] at f4
  match cs, hlen with
  | [c0, c1, c2, c3, c4], _ =>
    simp only [show Try.prog.cellsOf 3 = 1 from by kernel_rfl, show Try.prog.cellsOf 22 = 1 from by kernel_rfl, show Try.prog.cellsOf 40 = 1 from by kernel_rfl,
      List.drop_succ_cons, List.drop_zero, List.take_succ_cons, List.take_zero] at f0 f1 f2 f3 f4
    obtain ⟨n0, e0, _, w0⟩ := DataW.trod_int Try.underlying3 f0
    obtain ⟨n1, e1, _, w1⟩ := DataW.trod_int Try.underlying3 f1
    obtain ⟨u, l, e2, hl, hv⟩ := vals_open f2
    obtain ⟨n3, e3, _, w3⟩ := DataW.trod_int Try.underlying3 f3
    obtain ⟨u4, l4, e4, hl4, hv4⟩ := labs_open f4
    injection e0 with e0
    injection e1 with e1
    injection e2 with e2
    injection e3 with e3
    injection e4 with e4
    subst e0 e1 e2 e3 e4
    exact ⟨(⟨n0, n1, l, n3, l4⟩, _, _), rfl, ⟨hl, hl4⟩, bounds_i64 w0, bounds_i64 w1, bounds_i64 w3, hv, hv4⟩

/-- A list of frames. -/
theorem frames_open {fuel : Nat} {cs : List Value} {x : DataW H × List MemPlace} (h : DataW.trod enc Try.prog w base spare held fuel 23 cs = some x) : ∃ v l, cs = [v] ∧ IsFrames w v l := by
  obtain ⟨v, l, hcs, hr, hq⟩ := rows_open (Q := fun y : FEnt × Value × Value => (IsRws 2 encV w y.2.1 y.1.locals ∧ IsRws 2 encL w y.2.2 y.1.labels) ∧ y.1.ok) Try.underlying23 (by kernel_rfl) (by decide) encF_len (fun _ _ _ h => frame_open h) h
  refine ⟨v, l.map Prod.fst, hcs, l.map Prod.snd, by simp, ?_, fun i c u hc hu => ?_, fun c hc => ?_⟩
  · have : (l.map Prod.fst).zip (l.map Prod.snd) = l := by
      have := List.zip_unzip l
      rwa [List.unzip_eq_map] at this
    rw [this]
    exact hr
  · rw [List.getElem?_map] at hc hu
    cases hg : l[i]? with
    | none => rw [hg] at hc; cases hc
    | some y =>
      rw [hg] at hc hu
      simp at hc hu
      subst hc hu
      exact (hq y (List.mem_of_getElem? hg)).1
  · obtain ⟨y, hy, rfl⟩ := List.mem_map.1 hc
    exact (hq y hy).2

/-- A state by value. -/
theorem state_open {v : Value} {d : DataW H} {p : List MemPlace} {b0 : Nat} (hv : Value.okWide Try.prog w .any b0 25 v) (h : DataW.Trod enc Try.prog w base spare held 25 v d p) :
    ∃ uv uf s, v = .agg #[uv, uf, .int .i64 s.asks] ∧ IsState w uv uf s := by
  obtain ⟨c0, c1, c2, y0, y1, y2, m, rfl, -, -, h0, h1, h2⟩ := Go.Joins.open_agg3 Try.underlying25 (by kernel_rfl) (show Try.prog.cellsOf 25 = 3 from by kernel_rfl) hv h
  obtain ⟨u, l, e0, hl, ho⟩ := vals_open h0
  obtain ⟨x, f, e1, hf⟩ := frames_open h1
  obtain ⟨n, e2, _, w2⟩ := DataW.trod_int Try.underlying3 h2
  injection e0 with e0
  injection e1 with e1
  injection e2 with e2
  subst e0 e1 e2
  exact ⟨_, _, ⟨l, f, n⟩, rfl, hl, hf, bounds_i64 w2, ho, by obtain ⟨_, _, _, _, h⟩ := hf; exact h⟩

/-- Bytes. -/
theorem bytes_open {fuel : Nat} {v : Value} {x : DataW H × List MemPlace} {a : Option Addr} {len cap : Nat} (hv : v = .slice a len cap)
    (h : DataW.trod enc Try.prog w base (fun _ => true) held fuel 28 v.cells.toList = some x) : ∃ l : List UInt8, IsBytes w v l := by
  subst hv
  have hr : ∃ zs, RowIs .u8 w a len cap zs := by
    rcases open_ints Try.underlying28 Try.underlying5 (by kernel_rfl) h with ⟨hcs, _⟩ | ⟨x, l, c, zs, hcs, _, hl, hm, hz, _, hcell, hwz⟩
    · simp [Value.cells] at hcs
      obtain ⟨rfl, rfl, rfl⟩ := hcs
      exact ⟨[], .inl ⟨rfl, rfl, rfl, rfl⟩⟩
    · simp [Value.cells] at hcs
      obtain ⟨rfl, rfl, rfl⟩ := hcs
      exact ⟨zs, .inr ⟨_, rfl, hl, hm, by simpa using hz, hcell, hwz⟩⟩
  obtain ⟨zs, hz⟩ := hr
  obtain ⟨l, _, h⟩ := row_bytes hz
  exact ⟨l, h⟩
end
end Go.Proofs.Ytpknafidbmnjpaa
