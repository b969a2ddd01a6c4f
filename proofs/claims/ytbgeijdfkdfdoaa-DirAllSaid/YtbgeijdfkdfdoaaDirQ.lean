/-
  What the claim's form tells of a list of entries that came in, in this seat's words. No condition.
-/
import Derived.Test.YtbgeijdfkdfdoaaDirM
import Derived.Test.YtbgeijdfkdfdoaaRow
import Derived.Deep.Slices
import Derived.ProofKit
namespace Go.Proofs.Ytbgeijdfkdfdoaa
open Go.RowKit Go.ChangeShapes Go.WideShapes Go.ChangeAt
open Go.Deep (open_slice choose_lt)

theorem lt_of_len {α : Type} {xs : List α} {n i : Nat} (h : xs.length = n) (hi : i < n) : ∃ x, xs[i]? = some x := ⟨_, List.getElem?_eq_getElem (by omega)⟩

theorem bs_data (s : ByteArray) : bs s.data.toList = s := by
  apply ByteArray.ext
  simp [bs]

section
variable {H : Type} {enc : TypeId × Value → H} {w : World} {base : Nat} {spare : Nat → Bool} {held : Bool}

theorem span_open {fuel : Nat} {cs : List Value} {x : DataW H × List MemPlace} (h : DataW.trod enc Try.prog w base spare held fuel 50 cs = some x) :
    ∃ a b : Int, cs = [.int .i64 a, .int .i64 b] ∧ (Lit.int .i64 a).wf = true ∧ (Lit.int .i64 b).wf = true := by
  obtain ⟨xs, n, rfl, rfl, hlen, hxs, hf⟩ := DataW.trod_struct Try.underlying50 h
  rw [show Try.prog.cellsOf 50 = 2 from by kernel_rfl] at hlen
  have f0 : DataW.trod enc Try.prog w base spare held n 3 ((cs.drop 0).take (Try.prog.cellsOf 3)) = xs[0]? := hf 0 _ rfl
  have f1 : DataW.trod enc Try.prog w base spare held n 3 ((cs.drop 1).take (Try.prog.cellsOf 3)) = xs[1]? := hf 1 _ rfl
  obtain ⟨x0, h0⟩ := lt_of_len (i := 0) hxs (by decide)
  obtain ⟨x1, h1⟩ := lt_of_len (i := 1) hxs (by decide)
  rw [h0] at f0
  rw [h1] at f1
  match cs, hlen with
  | [c0, c1], _ =>
    simp only [show Try.prog.cellsOf 3 = 1 from by kernel_rfl, List.drop_succ_cons, List.drop_zero, List.take_succ_cons, List.take_zero] at f0 f1
    obtain ⟨a, e0, _, w0⟩ := DataW.trod_int Try.underlying3 f0
    obtain ⟨b, e1, _, w1⟩ := DataW.trod_int Try.underlying3 f1
    exact ⟨a, b, by simp_all, w0, w1⟩

theorem ent_open {fuel : Nat} {cs : List Value} {x : DataW H × List MemPlace} (h : DataW.trod enc Try.prog w base spare held fuel 52 cs = some x) : ∃ e : DEnt, e.ok ∧ cs = encE e := by
  obtain ⟨xs, n, rfl, rfl, hlen, hxs, hf⟩ := DataW.trod_struct Try.underlying52 h
  rw [show Try.prog.cellsOf 52 = 4 from by kernel_rfl] at hlen
  have f0 : DataW.trod enc Try.prog w base spare held n 9 ((cs.drop 0).take (Try.prog.cellsOf 9)) = xs[0]? := hf 0 _ rfl
  have f1 : DataW.trod enc Try.prog w base spare held n 3 ((cs.drop 1).take (Try.prog.cellsOf 3)) = xs[1]? := hf 1 _ rfl
  have f2 : DataW.trod enc Try.prog w base spare held n 50 ((cs.drop 2).take (Try.prog.cellsOf 50)) = xs[2]? := hf 2 _ rfl
  obtain ⟨x0, h0⟩ := lt_of_len (i := 0) hxs (by decide)
  obtain ⟨x1, h1⟩ := lt_of_len (i := 1) hxs (by decide)
  obtain ⟨x2, h2⟩ := lt_of_len (i := 2) hxs (by decide)
  rw [h0] at f0
  rw [h1] at f1
  rw [h2] at f2
  match cs, hlen with
  | [c0, c1, c2, c3], _ =>
    simp only [show Try.prog.cellsOf 9 = 1 from by kernel_rfl, show Try.prog.cellsOf 3 = 1 from by kernel_rfl, show Try.prog.cellsOf 50 = 2 from by kernel_rfl,
      List.drop_succ_cons, List.drop_zero, List.take_succ_cons, List.take_zero] at f0 f1 f2
    obtain ⟨s, e0, _, hs⟩ := DataW.trod_string Try.underlying9 f0
    obtain ⟨a, e1, _, w1⟩ := DataW.trod_int Try.underlying3 f1
    obtain ⟨b, c, e2, w2, w3⟩ := span_open f2
    injection e0 with e0
    injection e1 with e1
    injection e2 with e2 e3
    injection e3 with e3
    subst e0 e1 e2 e3
    refine ⟨⟨s.data.toList, a, b, c⟩, ⟨?_, bounds_i64 w1, bounds_i64 w2, bounds_i64 w3⟩, ?_⟩
    · show s.data.toList.length ≤ 9223372036854775807
      have : s.data.toList.length = s.size := by rw [Array.length_toList]; rfl
      unfold maxLen at hs
      omega
    · simp only [encE, bs_data]

/-- A list of entries. -/
theorem ents_open {fuel : Nat} {v : Value} {x : DataW H × List MemPlace} {a : Option Addr} {len cap : Nat} (hv : v = .slice a len cap)
    (h : DataW.trod enc Try.prog w base (fun _ => true) held fuel 44 v.cells.toList = some x) : ∃ l : List DEnt, IsEnts w v l := by
  subst hv
  rcases open_slice Try.underlying44 h with ⟨hcs, _⟩ | ⟨ad, len', cap', m, n, D, Pl, hcs, _, hl, hm, hmm, _, hx⟩
  · simp [Value.cells] at hcs
    obtain ⟨rfl, rfl, rfl⟩ := hcs
    exact ⟨[], none, 0, rfl, Nat.le_refl _, by simp [maxLen], by simp⟩
  · simp [Value.cells] at hcs
    obtain ⟨rfl, rfl, rfl⟩ := hcs
    simp only [if_true] at hmm
    subst hmm
    rw [show Try.prog.cellsOf 52 = 4 from by kernel_rfl] at hx
    have hex : ∀ i, i < len → ∃ e : DEnt, e.ok ∧ ∀ j, j < 4 → w.cell? ((ad.add (i * 4)).add j) = (encE e)[j]? := by
      intro i hi
      obtain ⟨cs, h1, h2⟩ := hx i (by omega)
      obtain ⟨e, ho, rfl⟩ := ent_open h2
      obtain ⟨_, _, h3⟩ := World.cells?_some h1
      exact ⟨e, ho, h3⟩
    haveI : Inhabited DEnt := ⟨⟨[], 0, 0, 0⟩⟩
    obtain ⟨f, hf⟩ := choose_lt hex
    refine ⟨(List.range len).map f, some ad, m, by simp, by simpa using hl, hm, fun i e he => ?_⟩
    rw [List.getElem?_map] at he
    have hi : i < len := by
      rcases Nat.lt_or_ge i len with g | g
      · exact g
      · rw [List.getElem?_eq_none (by simpa using g)] at he
        cases he
    rw [List.getElem?_eq_getElem (by simpa using hi)] at he
    simp at he
    subst he
    obtain ⟨ho, hc⟩ := hf i hi
    obtain ⟨b, off, spot⟩ := ad
    have hs : spot = none := by
      have h0 := (hf 0 (by omega)).2 0 (by omega)
      rw [show (encE (f 0))[0]? = some (.string (bs (f 0).name)) from rfl] at h0
      have := World.cell?_spot h0
      simpa [Addr.add] using this
    subst hs
    have ha : ∀ j, ((⟨b, off, none⟩ : Addr).add (i * 4)).add j = ⟨b, off + i * 4 + j, none⟩ := fun j => by rw [Addr.add_lit, Addr.add_lit]
    refine ⟨ho, b, off, rfl, ?_, ?_, ?_, ?_⟩
    · have := hc 0 (by omega); rw [ha] at this; exact this
    · have := hc 1 (by omega); rw [ha] at this; exact this
    · have := hc 2 (by omega); rw [ha] at this; exact this
    · have := hc 3 (by omega); rw [ha] at this; exact this

/-- Bytes. -/
theorem bytes_open {fuel : Nat} {v : Value} {x : DataW H × List MemPlace} {a : Option Addr} {len cap : Nat} (hv : v = .slice a len cap)
    (h : DataW.trod enc Try.prog w base (fun _ => true) held fuel 22 v.cells.toList = some x) : ∃ l : List UInt8, IsBytes w v l := by
  subst hv
  have hr : ∃ zs, RowIs .u8 w a len cap zs := by
    rcases open_ints Try.underlying22 Try.underlying5 (by kernel_rfl) h with ⟨hcs, _⟩ | ⟨x, l, c, zs, hcs, _, hl, hm, hz, _, hcell, hwz⟩
    · simp [Value.cells] at hcs
      obtain ⟨rfl, rfl, rfl⟩ := hcs
      exact ⟨[], .inl ⟨rfl, rfl, rfl, rfl⟩⟩
    · simp [Value.cells] at hcs
      obtain ⟨rfl, rfl, rfl⟩ := hcs
      exact ⟨zs, .inr ⟨_, rfl, hl, hm, by simpa using hz, hcell, hwz⟩⟩
  obtain ⟨zs, hz⟩ := hr
  obtain ⟨l, _, h⟩ := row_bytes hz
  exact ⟨l, h⟩
end
end Go.Proofs.Ytbgeijdfkdfdoaa
