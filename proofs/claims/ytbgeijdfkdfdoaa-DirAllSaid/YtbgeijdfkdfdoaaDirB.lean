/-
  Walk of dir.May: which lists may be.
-/
import Derived.Test.YtbgeijdfkdfdoaaDirA
namespace Go.Proofs.Ytbgeijdfkdfdoaa
open Go.RowKit

/-- A slice that reads as these entries. -/
def IsEnts (w : World) (v : Value) (l : List DEnt) : Prop :=
  ∃ a cap, v = .slice a l.length cap ∧ l.length ≤ cap ∧ cap ≤ maxLen ∧ ∀ i e, l[i]? = some e → e.ok ∧ ∃ b off, a = some ⟨b, off, none⟩ ∧
    w.cell? ⟨b, off + i * 4, none⟩ = some (.string (bs e.name)) ∧ w.cell? ⟨b, off + i * 4 + 1, none⟩ = some (.int .i64 e.len) ∧ w.cell? ⟨b, off + i * 4 + 2, none⟩ = some (.int .i64 e.pos) ∧ w.cell? ⟨b, off + i * 4 + 3, none⟩ = some (.int .i64 e.sp)

theorem IsEnts.below {w w' : World} {v : Value} {l : List DEnt} (h : IsEnts w v l) (hb : Below w.heap.size w w') : IsEnts w' v l := by
  obtain ⟨a, cap, hv, h1, h2, h3⟩ := h
  refine ⟨a, cap, hv, h1, h2, fun i x hx => ?_⟩
  obtain ⟨ho, b, off, ha, c0, c1, c2, c3⟩ := h3 i x hx
  have hlt : b < w.heap.size := World.block_lt_of_cell? w _ c0
  exact ⟨ho, b, off, ha, by rw [hb.cell hlt]; exact c0, by rw [hb.cell hlt]; exact c1, by rw [hb.cell hlt]; exact c2, by rw [hb.cell hlt]; exact c3⟩

/-- May the first k of a list be? -/
def mayUpTo (l : List DEnt) (k : Nat) : Prop :=
  ∀ i, i < k → ∀ e, l[i]? = some e → e.may ∧ ∀ d, 0 < i → l[i - 1]? = some d → Op.bytesLess d.name e.name = true

def MayJ (l : List DEnt) (w w' : World) (k : Nat) : Prop := k ≤ l.length ∧ mayUpTo l k ∧ Below w.heap.size w w'

theorem cell_alloc_old {w : World} {o : Obj} {a : Addr} {v : Value} (h : w.cell? a = some v) : (w.alloc o).drew.cell? a = some v := by
  rw [World.cell?_drew]
  exact (((Below.refl w.heap.size w).alloc (Nat.le_refl _) o).cell (World.block_lt_of_cell? w _ h)).trans h

/-- May a list be? -/
def mayL (l : List DEnt) : Prop := mayUpTo l l.length ∧ l.length ≤ 32

def MayEnd (l : List DEnt) (w : World) (e : Ending) (w' : World) : Prop := ∃ r : Bool, e = .returned (.bool r) ∧ (r = true ↔ mayL l) ∧ Below w.heap.size w w'


set_option maxRecDepth 100000 in
set_option maxHeartbeats 2000000 in
theorem mayList_any (v : Value) (l : List DEnt) (w : World) (hl : IsEnts w v l) : Calls Try.prog 29 #[v] w (MayEnd l w) := by
  have HI := Lib.hid hl
  obtain ⟨a, cap, rfl, h1, h2, _⟩ := hl
  unfold maxLen at h2
  go_enter Try.func29, Try.ntmps29
  go_wp2_with fail
  refine wp_loop_r (fun a' w' => ∃ (k : Nat), a' = { tmps := #[.slice a l.length cap, undef, .bool false, slot a' 3, slot a' 4, .slice a l.length cap, .int .i64 l.length, .int .i64 k, slot a' 8, slot a' 9, slot a' 10, slot a' 11, slot a' 12, slot a' 13, slot a' 14, slot a' 15, slot a' 16, slot a' 17, slot a' 18, slot a' 19, slot a' 20, slot a' 21, slot a' 22, slot a' 23, slot a' 24, slot a' 25, slot a' 26, slot a' 27, slot a' 28, slot a' 29, slot a' 30, slot a' 31, slot a' 32, slot a' 33], defers := [] } ∧ MayJ l w w' k) (fun a' _ => (l.length - (intOf (a'.tmps.getD 7 undef)).toNat)) ?_ ?_
  · exact ⟨0, rfl, by omega, fun i hi => by omega, Below.refl _ _⟩
  · skip
    rintro R a' w1 ⟨k, hfr, hJ⟩ HR
    obtain ⟨f, hf⟩ : ∃ f, f = slot a' := ⟨_, rfl⟩
    rw [← hf] at hfr
    clear hf
    subst hfr
    obtain ⟨hk, hm, hb⟩ := hJ
    have HMM := Lib.hid hm
    clear hm
    by_cases hkl : k < l.length
    · obtain ⟨e, he⟩ : ∃ e, l[k]? = some e := ⟨_, List.getElem?_eq_getElem hkl⟩
      obtain ⟨d, hd0⟩ : ∃ d, l[k - 1]? = some d := ⟨_, List.getElem?_eq_getElem (by omega)⟩
      obtain ⟨a', cap', hv, _, _, hcells⟩ := HI.out.below (hb.mono (Nat.le_refl _))
      injection hv with e1 e2 e3
      subst e1 e3
      obtain ⟨ho, b, off, rfl, c0, c1, c2, c3⟩ := hcells k e he
      obtain ⟨_, b', off', hbo, hd, _⟩ := hcells (k - 1) d hd0
      injection hbo with hbo
      injection hbo with hbo1 hbo2
      subst hbo1 hbo2
      have hbl : b < w1.heap.size := World.block_lt_of_cell? w1 _ c0
      clear hcells e2
      have HE := Lib.hid he
      have HD0 := Lib.hid hd0
      have HOK := Lib.hid ho
      clear he hd0
      by_cases hem : e.may
      · have hr : decide e.may = true := decide_eq_true hem
        have HR0 := Lib.hid hr
        have HEM := Lib.hid hem
        clear hr hem
        rcases Nat.eq_zero_or_pos k with hk0 | hk0
        · subst hk0
          simp only [Nat.zero_mul, Nat.add_zero] at c0 c1 c2 c3
          obtain rfl : e = d := by
            have g1 : l[0]? = some d := HD0.out
            have g2 := HE.out
            rw [g1] at g2
            injection g2 with g2
            exact g2.symm
          have f0 : decide ((0 : Int) < ((0 : Nat) : Int)) = false := rfl
          go_wp2_with fail
          refine wp_region_seq (fun w' => w'.cell? ⟨w1.heap.size, 0, none⟩ = some (.string (bs e.name)) ∧ w'.cell? ⟨w1.heap.size, 1, none⟩ = some (.int .i64 e.len) ∧ w'.cell? ⟨w1.heap.size, 2, none⟩ = some (.int .i64 e.pos) ∧ w'.cell? ⟨w1.heap.size, 3, none⟩ = some (.int .i64 e.sp) ∧ w'.cell? ⟨b, off + (0 - 1) * 4, none⟩ = some (.string (bs e.name)))
            [(0, true), (1, false), (2, true), (3, true), (4, true), (5, true), (6, true), (7, true), (8, true), (9, true), (10, true), (11, true), (12, true), (13, true), (14, true), (15, true), (16, true), (17, true)] (by kernel_rfl) (by kernel_rfl) ?_ ?_
          · exact ⟨by simp, by simp, by simp, by simp, cell_alloc_old hd⟩
          iterate 1 (first | (apply seg_skip rfl rfl; simp only [Act.put, List.setIfInBounds_toArray, List.set_cons_succ, List.set_cons_zero]) | (apply seg_pure rfl rfl rfl; · (rintro w' ⟨t0, t1, t2, t3, t4⟩; go_wp2; exact ⟨rfl, rfl, rfl⟩)))
          refine seg_loud rfl rfl ?_
          go_wp2_with fail
          refine (may_any e ho _).mono ?_
          rintro x w2 ⟨rfl, hb2⟩
          rw [HR0.out]
          have hb2' := hb2.size
          simp only [World.size_drew, World.size_alloc] at hb2'
          go_wp2_with fail
          refine ⟨⟨by rw [hb2.cell (by simp)]; simp, by rw [hb2.cell (by simp)]; simp, by rw [hb2.cell (by simp)]; simp, by rw [hb2.cell (by simp)]; simp, by rw [hb2.cell (by simp; omega)]; exact cell_alloc_old hd⟩, ?_⟩
          have hb3 : Below w1.heap.size w1 w2 := ((Below.refl _ _).alloc (Nat.le_refl _) _).trans (below_undrew (hb2.mono (by simp)))
          replace hb := below_next hb hb3
          iterate 16 (first | (apply seg_skip rfl rfl; simp only [Act.put, List.setIfInBounds_toArray, List.set_cons_succ, List.set_cons_zero]) | (apply seg_pure rfl rfl rfl; · (rintro w' ⟨t0, t1, t2, t3, t4⟩; go_wp2; exact ⟨rfl, rfl, rfl⟩)))
          refine seg_nil ?_
          refine NoPanic.normal ?_
          go_wp2_with fail
          refine HR.out _ _ ⟨1, rfl, by omega, ?_, hb⟩ ?_
          · intro i hi x hx
            obtain rfl : i = 0 := by omega
            have hxe := HE.out
            rw [hx] at hxe
            injection hxe with hxe
            subst hxe
            exact ⟨HEM.out, fun d h => by omega⟩
          · simp [intOf]
            omega
        · have f0 : decide ((0 : Int) < (k : Int)) = true := decide_eq_true (by omega)
          have tl1 := bs_toList d.name
          have tl2 := bs_toList e.name
          obtain ⟨j, rfl⟩ : ∃ j, k = j + 1 := ⟨k - 1, by omega⟩
          rw [Nat.add_sub_cancel] at hd HD0
          cases hbl' : Op.bytesLess d.name e.name
          · skip
            have HBL := Lib.hid hbl'
            have tl3 : Op.bytesLess (bs d.name).toList (bs e.name).toList = Op.bytesLess d.name e.name := by rw [tl1, tl2]
            rw [hbl'] at tl3
            clear tl1 tl2 hbl'
            go_wp2_with fail
            refine wp_region_seq (fun w' => w'.cell? ⟨w1.heap.size, 0, none⟩ = some (.string (bs e.name)) ∧ w'.cell? ⟨w1.heap.size, 1, none⟩ = some (.int .i64 e.len) ∧ w'.cell? ⟨w1.heap.size, 2, none⟩ = some (.int .i64 e.pos) ∧ w'.cell? ⟨w1.heap.size, 3, none⟩ = some (.int .i64 e.sp) ∧ w'.cell? ⟨b, off + j * 4, none⟩ = some (.string (bs d.name)))
              [(0, true), (1, false), (2, true), (3, true), (4, true), (5, true), (6, true), (7, true), (8, true), (9, true), (10, true), (11, true), (12, true), (13, true), (14, true), (15, true), (16, true), (17, true)] (by kernel_rfl) (by kernel_rfl) ?_ ?_
            · exact ⟨by simp, by simp, by simp, by simp, cell_alloc_old hd⟩
            iterate 1 (first | (apply seg_skip rfl rfl; simp only [Act.put, List.setIfInBounds_toArray, List.set_cons_succ, List.set_cons_zero]) | (apply seg_pure rfl rfl rfl; · (rintro w' ⟨t0, t1, t2, t3, t4⟩; go_wp2; exact ⟨rfl, rfl, rfl⟩)))
            refine seg_loud rfl rfl ?_
            go_wp2_with fail
            refine (may_any e ho _).mono ?_
            rintro x w2 ⟨rfl, hb2⟩
            rw [HR0.out]
            have hb2' := hb2.size
            simp only [World.size_drew, World.size_alloc] at hb2'
            go_wp2_with fail
            refine ⟨⟨by rw [hb2.cell (by simp)]; simp, by rw [hb2.cell (by simp)]; simp, by rw [hb2.cell (by simp)]; simp, by rw [hb2.cell (by simp)]; simp, by rw [hb2.cell (by simp; omega)]; exact cell_alloc_old hd⟩, ?_⟩
            have hb3 : Below w1.heap.size w1 w2 := ((Below.refl _ _).alloc (Nat.le_refl _) _).trans (below_undrew (hb2.mono (by simp)))
            replace hb := below_next hb hb3
            iterate 16 (first | (apply seg_skip rfl rfl; simp only [Act.put, List.setIfInBounds_toArray, List.set_cons_succ, List.set_cons_zero]) | (apply seg_pure rfl rfl rfl; · (rintro w' ⟨t0, t1, t2, t3, t4⟩; go_wp2; exact ⟨rfl, rfl, rfl⟩)))
            refine seg_nil ?_
            refine NoPanic.normal ?_
            go_wp2_with fail
            go_ret
            refine ⟨false, rfl, ⟨fun h => (by cases h), fun h => ?_⟩, hb⟩
            have := (h.1 (j + 1) hkl e HE.out).2 d (by omega) HD0.out
            rw [HBL.out] at this
            cases this
          · skip
            have HBL := Lib.hid hbl'
            have tl3 : Op.bytesLess (bs d.name).toList (bs e.name).toList = Op.bytesLess d.name e.name := by rw [tl1, tl2]
            rw [hbl'] at tl3
            clear tl1 tl2 hbl'
            go_wp2_with fail
            refine wp_region_seq (fun w' => w'.cell? ⟨w1.heap.size, 0, none⟩ = some (.string (bs e.name)) ∧ w'.cell? ⟨w1.heap.size, 1, none⟩ = some (.int .i64 e.len) ∧ w'.cell? ⟨w1.heap.size, 2, none⟩ = some (.int .i64 e.pos) ∧ w'.cell? ⟨w1.heap.size, 3, none⟩ = some (.int .i64 e.sp) ∧ w'.cell? ⟨b, off + j * 4, none⟩ = some (.string (bs d.name)))
              [(0, true), (1, false), (2, true), (3, true), (4, true), (5, true), (6, true), (7, true), (8, true), (9, true), (10, true), (11, true), (12, true), (13, true), (14, true), (15, true), (16, true), (17, true)] (by kernel_rfl) (by kernel_rfl) ?_ ?_
            · exact ⟨by simp, by simp, by simp, by simp, cell_alloc_old hd⟩
            iterate 1 (first | (apply seg_skip rfl rfl; simp only [Act.put, List.setIfInBounds_toArray, List.set_cons_succ, List.set_cons_zero]) | (apply seg_pure rfl rfl rfl; · (rintro w' ⟨t0, t1, t2, t3, t4⟩; go_wp2; exact ⟨rfl, rfl, rfl⟩)))
            refine seg_loud rfl rfl ?_
            go_wp2_with fail
            refine (may_any e ho _).mono ?_
            rintro x w2 ⟨rfl, hb2⟩
            rw [HR0.out]
            have hb2' := hb2.size
            simp only [World.size_drew, World.size_alloc] at hb2'
            go_wp2_with fail
            refine ⟨⟨by rw [hb2.cell (by simp)]; simp, by rw [hb2.cell (by simp)]; simp, by rw [hb2.cell (by simp)]; simp, by rw [hb2.cell (by simp)]; simp, by rw [hb2.cell (by simp; omega)]; exact cell_alloc_old hd⟩, ?_⟩
            have hb3 : Below w1.heap.size w1 w2 := ((Below.refl _ _).alloc (Nat.le_refl _) _).trans (below_undrew (hb2.mono (by simp)))
            replace hb := below_next hb hb3
            iterate 16 (first | (apply seg_skip rfl rfl; simp only [Act.put, List.setIfInBounds_toArray, List.set_cons_succ, List.set_cons_zero]) | (apply seg_pure rfl rfl rfl; · (rintro w' ⟨t0, t1, t2, t3, t4⟩; go_wp2; exact ⟨rfl, rfl, rfl⟩)))
            refine seg_nil ?_
            refine NoPanic.normal ?_
            go_wp2_with fail
            refine HR.out _ _ ⟨j + 1 + 1, rfl, by omega, ?_, hb⟩ ?_
            · intro i hi x hx
              rcases Nat.lt_or_ge i (j + 1) with h | h
              · exact HMM.out i h x hx
              · obtain rfl : i = j + 1 := by omega
                have hxe := HE.out
                rw [hx] at hxe
                injection hxe with hxe
                subst hxe
                refine ⟨HEM.out, fun d' _ hd' => ?_⟩
                have hde := HD0.out
                rw [Nat.add_sub_cancel, hde] at hd'
                injection hd' with hd'
                rw [← hd']
                exact HBL.out
            · simp [intOf]
              omega
      · have hr : decide e.may = false := decide_eq_false hem
        have HR0 := Lib.hid hr
        have HEM := Lib.hid hem
        clear hr hem
        go_wp2_with fail
        refine wp_region_seq (fun w' => w'.cell? ⟨w1.heap.size, 0, none⟩ = some (.string (bs e.name)) ∧ w'.cell? ⟨w1.heap.size, 1, none⟩ = some (.int .i64 e.len) ∧ w'.cell? ⟨w1.heap.size, 2, none⟩ = some (.int .i64 e.pos) ∧ w'.cell? ⟨w1.heap.size, 3, none⟩ = some (.int .i64 e.sp) ∧ w'.cell? ⟨b, off + (k - 1) * 4, none⟩ = some (.string (bs d.name)))
          [(0, true), (1, false), (2, true), (3, true), (4, true), (5, true), (6, true), (7, true), (8, true), (9, true), (10, true), (11, true), (12, true), (13, true), (14, true), (15, true), (16, true), (17, true)] (by kernel_rfl) (by kernel_rfl) ?_ ?_
        · exact ⟨by simp, by simp, by simp, by simp, cell_alloc_old hd⟩
        iterate 1 (first | (apply seg_skip rfl rfl; simp only [Act.put, List.setIfInBounds_toArray, List.set_cons_succ, List.set_cons_zero]) | (apply seg_pure rfl rfl rfl; · (rintro w' ⟨t0, t1, t2, t3, t4⟩; go_wp2; exact ⟨rfl, rfl, rfl⟩)))
        refine seg_loud rfl rfl ?_
        go_wp2_with fail
        refine (may_any e ho _).mono ?_
        rintro x w2 ⟨rfl, hb2⟩
        rw [HR0.out]
        have hb2' := hb2.size
        simp only [World.size_drew, World.size_alloc] at hb2'
        go_wp2_with fail
        refine ⟨⟨by rw [hb2.cell (by simp)]; simp, by rw [hb2.cell (by simp)]; simp, by rw [hb2.cell (by simp)]; simp, by rw [hb2.cell (by simp)]; simp, by rw [hb2.cell (by simp; omega)]; exact cell_alloc_old hd⟩, ?_⟩
        have hb3 : Below w1.heap.size w1 w2 := ((Below.refl _ _).alloc (Nat.le_refl _) _).trans (below_undrew (hb2.mono (by simp)))
        replace hb := below_next hb hb3
        iterate 16 (first | (apply seg_skip rfl rfl; simp only [Act.put, List.setIfInBounds_toArray, List.set_cons_succ, List.set_cons_zero]) | (apply seg_pure rfl rfl rfl; · (rintro w' ⟨t0, t1, t2, t3, t4⟩; go_wp2; exact ⟨rfl, rfl, rfl⟩)))
        refine seg_nil ?_
        refine NoPanic.normal ?_
        go_wp2_with fail
        go_ret
        exact ⟨false, rfl, ⟨fun h => (by cases h), fun h => absurd ((h.1 k hkl e HE.out).1) HEM.out⟩, hb⟩
    · obtain rfl : k = l.length := by omega
      by_cases h32 : l.length ≤ 32
      · have f3 : decide ((l.length : Int) ≤ 32) = true := decide_eq_true (by omega)
        go_wp2_with fail
        go_ret
        exact ⟨true, rfl, ⟨fun _ => ⟨HMM.out, h32⟩, fun _ => rfl⟩, hb⟩
      · have f3 : decide ((l.length : Int) ≤ 32) = false := decide_eq_false (by omega)
        go_wp2_with fail
        go_ret
        exact ⟨false, rfl, ⟨fun h => (by cases h), fun h => absurd h.2 h32⟩, hb⟩
end Go.Proofs.Ytbgeijdfkdfdoaa
