/-
  Walks of the statements' own functions cut, begun, tells (calls).
-/
import Derived.Test.YtbgeijdfkdfdoaaCallC
import Derived.Test.YtbgeijdfkdfdoaaCallD
import Derived.Test.YtbgeijdfkdfdoaaCallF
namespace Go.Proofs.Ytbgeijdfkdfdoaa
open Go.RowKit

/-- A call with not too many values. -/
def CEnt.cut (c : CEnt) : CEnt := { c with args := c.args.take 34 }
def cutC (l : List CEnt) : List CEnt := (l.take 10).map CEnt.cut

theorem CEnt.ok.cut {c : CEnt} (h : c.ok) : c.cut.ok := ⟨h.1, h.2.1, h.2.2.1, h.2.2.2.1, fun v hv => h.2.2.2.2 v (List.mem_of_mem_take hv)⟩

def CutCEnd (l : List CEnt) (w : World) (e : Ending) (w' : World) : Prop := ∃ v, e = .returned v ∧ IsCalls w' v (cutC l) ∧ Below w.heap.size w w'

def CutCJ (l : List CEnt) (w w' : World) (v : Value) (k : Nat) : Prop :=
  k ≤ l.length ∧ k ≤ 10 ∧ OwnCalls w' w.heap.size (w.heap.size - 1) v ((l.take k).map CEnt.cut) ∧ Below w.heap.size w w'

def CutCI (args : List VEnt) (B X : Nat) (cs : Array Value) (w w' : World) (v : Value) (m : Nat) : Prop :=
  m ≤ args.length ∧ m ≤ 34 ∧ OwnRws 79 2 encV w' B v (args.take m) ∧ Blk w' X cs 82 ∧ Below B w w' ∧ ¬ OwnB v X

set_option maxRecDepth 100000 in
set_option maxHeartbeats 4000000 in
theorem cutCalls_any (v : Value) (l : List CEnt) (w : World) (hl : IsCalls w v l) : Calls Try.prog 37 #[v] w (CutCEnd l w) := by
  have HI := Lib.hid hl
  obtain ⟨a, cap, rfl, h1, h2⟩ := hl.slice
  have hoks : ∀ c ∈ l, c.ok := by obtain ⟨_, _, _, _, h⟩ := hl; exact h
  have HOKS := Lib.hid hoks
  clear hl hoks
  go_enter Try.func37, Try.ntmps37
  go_wp2_with fail
  refine wp_loop_r (fun a' w' => ∃ (v : Value) (k : Nat), a' = { tmps := #[.slice a l.length cap, slot a' 1, slot a' 2, v, .int .i64 k, slot a' 5, slot a' 6, slot a' 7, slot a' 8, slot a' 9, slot a' 10, slot a' 11, slot a' 12, slot a' 13, slot a' 14, slot a' 15, slot a' 16, slot a' 17, slot a' 18, slot a' 19, slot a' 20, slot a' 21, slot a' 22, slot a' 23, slot a' 24, slot a' 25, slot a' 26, slot a' 27, slot a' 28, slot a' 29, slot a' 30, slot a' 31, slot a' 32, slot a' 33, slot a' 34, slot a' 35, slot a' 36, slot a' 37, slot a' 38, slot a' 39, slot a' 40, slot a' 41, slot a' 42, slot a' 43, slot a' 44, slot a' 45, slot a' 46, slot a' 47], defers := [] } ∧ CutCJ l w w' v k) (fun a' _ => (11 - (intOf (a'.tmps.getD 4 undef)).toNat)) ?_ ?_
  · exact ⟨_, 0, rfl, by omega, by omega, ⟨[], rfl, OwnRws.nil _ _, by simp, by simp⟩, Below.refl _ _⟩
  · skip
    rintro R a' w1 ⟨v, k, hfr, hJ⟩ HR
    obtain ⟨f, hf⟩ : ∃ f, f = slot a' := ⟨_, rfl⟩
    rw [← hf] at hfr
    clear hf
    subst hfr
    obtain ⟨hk, hk10, ho, hb⟩ := hJ
    by_cases hkl : k < l.length
    rotate_left
    · obtain rfl : k = l.length := by omega
      go_wp2_with fail
      go_ret
      refine ⟨v, rfl, ?_, hb⟩
      rw [cutC, List.take_of_length_le (by omega)]
      rw [List.take_of_length_le (by omega)] at ho
      exact ho.isCalls
    by_cases hk3 : k < 10
    rotate_left
    · obtain rfl : k = 10 := by omega
      go_wp2_with fail
      go_ret
      exact ⟨v, rfl, ho.isCalls, hb⟩
    obtain ⟨c, he⟩ : ∃ e, l[k]? = some e := ⟨_, List.getElem?_eq_getElem hkl⟩
    obtain ⟨b, off, u, rfl, hlt, ⟨c0, c1, c2, c3, c4, c5⟩, hu, hok⟩ := (HI.out.below (hb.mono (Nat.le_refl _))).get he
    obtain ⟨_, _, _, -, hpos, -⟩ := HI.out.get he
    have hpos' : 0 < w.heap.size := Nat.lt_of_le_of_lt (Nat.zero_le _) hpos
    clear hpos
    have HU := Lib.hid hu
    obtain ⟨au, capu, rfl, hu1, hu2, _⟩ := hu
    unfold maxLen at hu2
    have HE := Lib.hid he
    have HOK := Lib.hid hok
    have HO := Lib.hid ho
    clear he hok ho
    go_wp2_with fail
    have hbx := Blk.new w1 #[.int .i64 c.n, .int .i64 c.fn, .int .i64 c.pos, .slice au c.args.length capu, .bool c.has, .int .i64 c.ans] 82
    obtain ⟨X, hX⟩ : ∃ X, X = w1.heap.size := ⟨_, rfl⟩
    rw [← hX] at hbx ⊢
    have hXa : w1.heap.size ≤ X := by omega
    have hXb : X < w1.heap.size + 1 := by omega
    have hb0 : Below w1.heap.size w1 (w1.alloc (.cells #[.int .i64 c.n, .int .i64 c.fn, .int .i64 c.pos, .slice au c.args.length capu, .bool c.has, .int .i64 c.ans] 82)) := (Below.refl _ _).alloc (Nat.le_refl _) _
    clear hX
    have HRO := HR
    clear HR c0 c1 c2 c3 c4 c5
    have hsz1 := hb.size
    refine wp_loop_x (fun a' w' => ∃ (g : Value) (m : Nat), a' = { tmps := #[.slice (some ⟨b, off, none⟩) l.length cap, slot a' 1, slot a' 2, v, .int .i64 k, .pointer (some ⟨X, 0, none⟩), g, .int .i64 m, slot a' 8, slot a' 9, slot a' 10, slot a' 11, slot a' 12, slot a' 13, slot a' 14, slot a' 15, slot a' 16, slot a' 17, slot a' 18, slot a' 19, slot a' 20, slot a' 21, slot a' 22, slot a' 23, slot a' 24, slot a' 25, slot a' 26, slot a' 27, slot a' 28, slot a' 29, slot a' 30, slot a' 31, slot a' 32, slot a' 33, slot a' 34, slot a' 35, slot a' 36, slot a' 37, slot a' 38, slot a' 39, slot a' 40, slot a' 41, slot a' 42, slot a' 43, slot a' 44, slot a' 45, slot a' 46, slot a' 47], defers := [] } ∧ CutCI c.args w1.heap.size X #[.int .i64 c.n, .int .i64 c.fn, .int .i64 c.pos, .slice au c.args.length capu, .bool c.has, .int .i64 c.ans] w1 w' g m) (fun a' _ => (35 - (intOf (a'.tmps.getD 7 undef)).toNat))
      (fun a' w' => ∃ (g : Value), a' = { tmps := #[.slice (some ⟨b, off, none⟩) l.length cap, slot a' 1, slot a' 2, v, .int .i64 k, .pointer (some ⟨X, 0, none⟩), g, slot a' 7, slot a' 8, slot a' 9, slot a' 10, slot a' 11, slot a' 12, slot a' 13, slot a' 14, slot a' 15, slot a' 16, slot a' 17, slot a' 18, slot a' 19, slot a' 20, slot a' 21, slot a' 22, slot a' 23, slot a' 24, slot a' 25, slot a' 26, slot a' 27, slot a' 28, slot a' 29, slot a' 30, slot a' 31, slot a' 32, slot a' 33, slot a' 34, slot a' 35, slot a' 36, slot a' 37, slot a' 38, slot a' 39, slot a' 40, slot a' 41, slot a' 42, slot a' 43, slot a' 44, slot a' 45, slot a' 46, slot a' 47], defers := [] } ∧ OwnRws 79 2 encV w' w1.heap.size g (c.args.take 34) ∧ Blk w' X #[.int .i64 c.n, .int .i64 c.fn, .int .i64 c.pos, .slice au c.args.length capu, .bool c.has, .int .i64 c.ans] 82 ∧ Below w1.heap.size w1 w' ∧ ¬ OwnB g X) ?_ ?_ ?_
    · exact ⟨_, 0, rfl, by omega, by omega, OwnRws.nil _ _, hbx, hb0, by simp [OwnB, Value.ownBlock]⟩
    · clear hbx hb0
      rintro R Y a' w2 ⟨g, m, hfr, hJ⟩ HR HY
      obtain ⟨f, hf⟩ : ∃ f, f = slot a' := ⟨_, rfl⟩
      rw [← hf] at hfr
      clear hf
      subst hfr
      obtain ⟨hm1, hm2, hog, hbx, hb2, hgx⟩ := hJ
      obtain ⟨⟨x0, x1, x2, x3, x4, x5⟩, -⟩ := hbx.six
      by_cases hml : m < c.args.length
      · by_cases hm34 : m < 34
        · obtain ⟨e, hv⟩ : ∃ v, c.args[m]? = some v := ⟨_, List.getElem?_eq_getElem hml⟩
          obtain ⟨a', cap', hva, _, _, hcells⟩ := HU.out.below hb2
          injection hva with e1 e2 e3
          subst e1 e3
          obtain ⟨bv', offv, rfl, hltv, hcv⟩ := hcells m e hv
          have y0 := hcv 0 _ rfl
          have y1 := hcv 1 _ rfl
          rw [Nat.add_zero] at y0
          have HV := Lib.hid hv
          have hgl : (c.args.take m).length ≤ 34 := by rw [List.length_take]; omega
          have hsz2 := hb2.size
          clear hcells hcv e2 hv
          go_wp2_with (first | (at_builtin; refine Stop.out ?_))
          change wpList _ _ _ _ _ _
          refine wpList_row1 w2 rfl _ _ 80 rfl _ 16 (by kernel_rfl) info_val rfl (by decide) (by decide) w1.heap.size g (c.args.take m) rfl hog e _ rfl rfl (encV_one _) rfl (by omega) (by omega) ?_
          intro g3 w3 ho3 hk3 hs3
          have hbx3 := hbx.keeps hk3 hgx
          have hgx3 : ¬ OwnB g3 X := fun h => (hs3 X h).elim hgx (fun q => by have := hbx.lt; omega)
          have hb3 := hb2.trans (hk3.below hsz2 (fun i hi => (own_lt hog hi).1))
          clear hog hk3 hs3 hb2 hbx x0 x1 x2 x3 x4 x5 y0 y1 hgx
          go_wp2_with fail
          refine HR.out _ _ ⟨g3, m + 1, rfl, by omega, by omega, ?_, hbx3, hb3, hgx3⟩ ?_
          · rw [List.take_add_one, HV.out]
            exact ho3
          · simp [intOf]
            omega
        · obtain rfl : m = 34 := by omega
          go_wp2_with fail
          exact HY.out _ _ ⟨g, rfl, hog, hbx, hb2, hgx⟩
      · obtain rfl : m = c.args.length := by omega
        go_wp2_with fail
        refine HY.out _ _ ⟨g, rfl, ?_, hbx, hb2, hgx⟩
        rw [List.take_of_length_le (by omega)]
        rw [List.take_of_length_le (by omega)] at hog
        exact hog
    · clear hbx hb0
      rintro a' w2 ⟨g, hfr, hJ⟩
      obtain ⟨f, hf⟩ : ∃ f, f = slot a' := ⟨_, rfl⟩
      rw [← hf] at hfr
      clear hf
      subst hfr
      obtain ⟨hog, hbx, hb2, hgx⟩ := hJ
      obtain ⟨A, hA⟩ : ∃ A, A = c.args.take 34 := ⟨_, rfl⟩
      rw [← hA] at hog
      have HAE := Lib.hid hA
      have HCU := Lib.hid (show ({ c with args := A } : CEnt) = c.cut by rw [hA]; rfl)
      clear hA
      have hsz2 := hb2.size
      have hgi := hog.isRws encV_len
      have hgb := hog.block
      have HGI := Lib.hid hgi
      have HGB := Lib.hid hgb
      have HNG := Lib.hid hgx
      have hxs := hbx.six
      obtain ⟨ag, capg, rfl, -, -, -⟩ := hgi
      obtain ⟨⟨x0, x1, x2, x3, x4, x5⟩, -, -, -, z3, -, -⟩ := hxs
      have HBX := Lib.hid hbx
      clear hgb hgx hbx hog
      go_wp2_with (first | (at_builtin; refine Stop.out ?_))
      change wpList _ _ _ _ _ (World.alloc _ (.cells #[.int .i64 c.n, .int .i64 c.fn, .int .i64 c.pos, .slice ag A.length capg, .bool c.has, .int .i64 c.ans] 82))
      have hkx : Keeps (fun i => i = X) w2 (w2.setCell ⟨X, 3, none⟩ (.slice ag A.length capg)) := setR 3 _
      have hsz23 : (w2.setCell ⟨X, 3, none⟩ (.slice ag A.length capg)).heap.size = w2.heap.size := by simp
      clear x0 x1 x2 x3 x4 x5 z3
      generalize w2.setCell ⟨X, 3, none⟩ (.slice ag A.length capg) = w3 at hkx hsz23 ⊢
      have hoc3 : OwnCalls w3 w.heap.size (w.heap.size - 1) v ((l.take k).map CEnt.cut) := by
        obtain ⟨us, k1, k2, k3, k4⟩ := HO.out
        have hk13' : Keeps (fun _ => False) w1 w3 := ((Keeps.ofBelow (S := fun _ => False) hb2).trans hkx (fun i h => .inr (by omega)))
        refine ⟨us, k1, k2.keeps hk13' (fun _ _ h => h), k3, fun i c u hc hu => ?_⟩
        obtain ⟨g1, g2⟩ := k4 i c u hc hu
        refine ⟨g1.keeps hk13' (fun _ _ _ _ h => h), fun a n cp h => ?_⟩
        obtain ⟨f1, f2, f3, f4⟩ := g2 a n cp h
        exact ⟨f1, by omega, f3, f4⟩
      have hu3 : IsRws 2 encV w3 (.slice ag A.length capg) A := HGI.out.keeps hkx (fun a n cp h hj => by
        injection h with h _ _
        subst h
        exact HNG.out (by simp [OwnB, Value.ownBlock, hj]))
      obtain ⟨us, k1, k2, k3, k4⟩ := hoc3
      have hvlt : ∀ i, OwnB v i → i < w1.heap.size := by obtain ⟨_, _, k, _⟩ := HO.out; exact fun i hi => (own_lt k hi).2
      have hzl : (((l.take k).map CEnt.cut).zip us).length ≤ 10 := by rw [List.length_zip, List.length_map, List.length_take]; omega
      refine wpList_row1 w3 rfl _ _ 62 rfl _ 64 (by kernel_rfl) info_call rfl (by decide) (by decide) w.heap.size v (((l.take k).map CEnt.cut).zip us) rfl k2 (({ c with args := A }, .slice ag A.length capg) : CEnt × Value) _ rfl rfl (by intro q hq; simp only [encC, List.mem_cons, List.not_mem_nil, or_false] at hq; rcases hq with rfl | rfl | rfl | rfl | rfl | rfl <;> rfl) (by rw [hsz23]; rfl) (by omega) (by omega) ?_
      intro v10 w10 ho10 hk10 hs10
      have hocf := OwnCalls.app (B := w.heap.size) (R := w.heap.size - 1) k1 k3 k4 hk10 hs10 (by rw [HCU.out]; exact HOK.out.cut) hu3 (fun a n cp h => by
        obtain ⟨f1, f2⟩ := HGB.out a n cp h
        exact ⟨by omega, by omega, by omega, fun h => by have := hvlt _ h; omega⟩) ho10
      have hb10 : Below w.heap.size w w10 := ((hb.trans (hb2.mono hb.size)).trans (hkx.below (by omega) (fun i h => by omega))).trans (hk10.below (by omega) (fun i hi => (own_lt k2 hi).1))
      clear hk10 hs10 ho10 k1 k2 k3 k4 hu3 hkx hb2
      go_wp2_with fail
      refine HRO.out _ _ ⟨v10, k + 1, rfl, by omega, by omega, ?_, hb10⟩ ?_
      · rw [List.take_add_one, HE.out]
        rw [HCU.out] at hocf
        simpa using hocf
      · simp [intOf]
        omega
end Go.Proofs.Ytbgeijdfkdfdoaa
