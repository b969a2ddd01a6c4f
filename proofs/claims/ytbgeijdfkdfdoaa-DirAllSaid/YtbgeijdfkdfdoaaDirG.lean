/-
  Walk of dir.one: an entry is read.
-/
import Derived.Test.YtbgeijdfkdfdoaaDirF
namespace Go.Proofs.Ytbgeijdfkdfdoaa
open Go.RowKit

/-- Its numbers have 32 bits. -/
def DEnt.fits (e : DEnt) : Prop := e.name.length < 4294967296 ∧ (0 ≤ e.len ∧ e.len < 4294967296) ∧ (0 ≤ e.pos ∧ e.pos < 4294967296) ∧ (0 ≤ e.sp ∧ e.sp < 4294967296)

theorem DEnt.fits.ok {e : DEnt} (h : e.fits) : e.ok := by
  obtain ⟨h1, ⟨h2, h3⟩, ⟨h4, h5⟩, ⟨h6, h7⟩⟩ := h
  exact ⟨by omega, ⟨by omega, by omega⟩, ⟨by omega, by omega⟩, ⟨by omega, by omega⟩⟩

def OneEnd (l : List UInt8) (w : World) (e : Ending) (w' : World) : Prop :=
  Below w.heap.size w w' ∧ ∃ (x : DEnt) (k : Nat), e = .returned (.tuple #[.agg #[.string (bs x.name), .int .i64 x.len, .int .i64 x.pos, .int .i64 x.sp], .int .i64 k]) ∧
    ((x.fits ∧ k = (entB x).length ∧ 0 < k ∧ ∃ r, l = entB x ++ r) ∨ (k = 0 ∧ ∀ (y : DEnt) r, y.fits → l ≠ entB y ++ r))

/-- The numbers of an entry, so many of them. -/
def numsB (n : Nat) (nm : List UInt8) (ns : List Nat) : List UInt8 := putU n ++ nm ++ (ns.map putU).flatten

def OneJ (l nm : List UInt8) (X0 X : Nat) (w w' : World) (ns : List Nat) (j : Nat) (at' : Nat) : Prop :=
  ns.length = j ∧ (∀ x ∈ ns, x < 4294967296) ∧ (∃ r, l = numsB nm.length nm ns ++ r) ∧ at' = (numsB nm.length nm ns).length ∧ Below w.heap.size w w' ∧
  Blk w' X #[.string (bs nm), .int .i64 (ns.getD 0 0), .int .i64 (ns.getD 1 0), .int .i64 (ns.getD 2 0)] 52 ∧ Blk w' X0 #[.string (bs []), .int .i64 0, .int .i64 0, .int .i64 0] 52

theorem entB_nums (e : DEnt) : entB e = numsB e.name.length e.name [e.len.toNat, e.pos.toNat, e.sp.toNat] := by simp [entB, numsB]

theorem DEnt.fits.lt {e : DEnt} (h : e.fits) : e.name.length < 4294967296 ∧ e.len.toNat < 4294967296 ∧ e.pos.toNat < 4294967296 ∧ e.sp.toNat < 4294967296 := by
  obtain ⟨h1, ⟨h2, h3⟩, ⟨h4, h5⟩, ⟨h6, h7⟩⟩ := h
  omega

/-- What stands in front of an entry is told. -/
theorem name_front {y : DEnt} {n : Nat} {r s : List UInt8} (hy : y.fits) (hn : n < 4294967296) (h : putU n ++ r = entB y ++ s) : n = y.name.length ∧ ∃ t, r = y.name ++ t := by
  rw [entB] at h
  simp only [List.append_assoc] at h
  obtain ⟨h1, h2⟩ := putU_front hn hy.lt.1 h
  exact ⟨h1, _, h2⟩

theorem nums_front {y : DEnt} {nm r s : List UInt8} {ns : List Nat} (hy : y.fits) (hn : nm.length < 4294967296) (hns : ∀ x ∈ ns, x < 4294967296) (hl : ns.length < 3) (h : numsB nm.length nm ns ++ r = entB y ++ s) :
    ∃ u t, u < 4294967296 ∧ r = putU u ++ t := by
  obtain ⟨g1, g2, g3, g4⟩ := hy.lt
  rw [entB_nums, numsB, numsB] at h
  simp only [List.append_assoc, List.map_cons, List.map_nil, List.flatten_cons, List.flatten_nil, List.append_nil] at h
  obtain ⟨h1, h2⟩ := putU_front hn g1 h
  obtain ⟨h3, h4⟩ := List.append_inj h2 h1
  match ns, hns, hl, h4 with
  | [], _, _, h4 =>
    simp only [List.map_nil, List.flatten_nil, List.nil_append] at h4
    exact ⟨_, _, g2, h4⟩
  | [a], hns, _, h4 =>
    simp only [List.map_cons, List.map_nil, List.flatten_cons, List.flatten_nil, List.append_nil] at h4
    exact ⟨_, _, g3, (putU_front (hns a (by simp)) g2 h4).2⟩
  | [a, b], hns, _, h4 =>
    simp only [List.map_cons, List.map_nil, List.flatten_cons, List.flatten_nil, List.append_nil, List.append_assoc] at h4
    have h5 := (putU_front (hns a (by simp)) g2 h4).2
    exact ⟨_, _, g4, (putU_front (hns b (by simp)) g3 h5).2⟩

theorem Blk.loadE {w : World} {X : Nat} {s : ByteArray} {a b c : Int} {t : TypeId} (h : Blk w X #[.string s, .int .i64 a, .int .i64 b, .int .i64 c] t) :
    (loadVar 52 ⟨X, 0, none⟩).run Try.prog w = .ok (.agg #[.string s, .int .i64 a, .int .i64 b, .int .i64 c]) w := by
  have hu : (Try.prog.underlying 52).map (fun d => match d with | .struct _ | .array _ _ => true | _ => false) = some true := by kernel_rfl
  obtain ⟨d, h1, h2⟩ := Option.map_eq_some_iff.1 hu
  exact run_loadVar_row w X t 52 _ _ d h h1 (by cases d <;> first | rfl | (exfalso; simp at h2)) (by kernel_rfl)


set_option maxRecDepth 100000 in
set_option maxHeartbeats 4000000 in
theorem one_any (b : Value) (l : List UInt8) (w : World) (hb : IsBytes w b l) : Calls Try.prog 49 #[b] w (OneEnd l w) := by
  obtain ⟨a, cap, rfl, hcap, hmax, _⟩ := id hb
  have HB := Lib.hid hb
  clear hb
  unfold maxLen at hmax
  go_enter Try.func49, Try.ntmps49
  go_wp2_with fail
  have hx0 := Blk.new w #[.string (bs []), .int .i64 0, .int .i64 0, .int .i64 0] 52
  refine (U_any _ l 32 _ (HB.out.alloc _) (by omega) (by omega)).mono ?_
  rintro x w1 ⟨rfl, hb1⟩
  replace hx0 := hx0.below hb1 (by simp)
  have hb : Below w.heap.size w w1 := ((Below.refl w.heap.size w).alloc (Nat.le_refl _) _).trans (hb1.mono (by simp))
  clear hb1
  by_cases hu : (uRes 32 l).2.2 = 0
  · obtain ⟨n, r0, hn, hl, hr⟩ := uRes32_ok hu
    rw [hr]
    have hll := congrArg List.length hl
    rw [List.length_append] at hll
    have HL := Lib.hid hl
    have hkl : (putU n).length ≤ l.length := by omega
    clear hu hr hl
    by_cases hnr : r0.length < n
    · obtain ⟨⟨x0, x1, x2, x3⟩, z0, z1, z2, z3⟩ := hx0.four
      have f1 : decide ((l.length : Int) - ((putU n).length : Int) < (n : Int)) = true := decide_eq_true (by omega)
      have HLL := Lib.hid hll
      clear hll
      go_wp2_with fail
      have hx := hx0.set4 (.string (bs [])) (.int .i64 0) (.int .i64 0) (.int .i64 0)
      refine bodyPost_ret (results_cell2 rfl _ _ rfl hx.loadE) rfl ?_
      refine ⟨?_, ⟨[], 0, 0, 0⟩, 0, rfl, .inr ⟨rfl, fun y r hy h => ?_⟩⟩
      · exact (((hb.setCell (Nat.le_refl _) _).setCell (Nat.le_refl _) _).setCell (Nat.le_refl _) _).setCell (Nat.le_refl _) _
      · rw [HL.out] at h
        obtain ⟨h1, t, h2⟩ := name_front hy hn h
        rw [h2, List.length_append] at hnr
        omega
    · have f1 : decide ((l.length : Int) - ((putU n).length : Int) < (n : Int)) = false := decide_eq_false (by omega)
      obtain ⟨nm, r1, hr0, hnl⟩ : ∃ nm r1, r0 = nm ++ r1 ∧ nm.length = n := ⟨r0.take n, r0.drop n, (List.take_append_drop n r0).symm, by rw [List.length_take]; omega⟩
      subst hnl
      have hL := HL.out
      rw [hr0] at hL
      obtain ⟨a2, cap2, hr2, hi2⟩ := slice_mid hL a cap hcap
      have hcv := run_str (hi2 w1 (HB.out.below hb))
      have HI2 := Lib.hid hi2
      have hL' : l = numsB nm.length nm [] ++ r1 := by simp [numsB, hL]
      have HL' := Lib.hid hL'
      have HLL := Lib.hid hll
      have hsum : (putU nm.length).length + nm.length ≤ l.length := by rw [hL]; simp
      have hkk : (putU nm.length).length + nm.length = (numsB nm.length nm []).length := by simp [numsB]
      have HKK := Lib.hid hkk
      clear hll hL hL' HL hi2 hr0 HI2 hkk hnr hkl
      go_wp2_with fail
      have hXB := hx0.lt
      have hx1 := Blk.new w1 #[.string (bs nm), .int .i64 0, .int .i64 0, .int .i64 0] 52
      replace hx0 := hx0.alloc (.cells #[.string (bs nm), .int .i64 0, .int .i64 0, .int .i64 0] 52)
      replace hb := hb.alloc hb.size (.cells #[.string (bs nm), .int .i64 0, .int .i64 0, .int .i64 0] 52)
      obtain ⟨X, hX⟩ : ∃ X, X = w1.heap.size := ⟨_, rfl⟩
      rw [← hX] at hXB hx1 ⊢
      have HXB := Lib.hid hXB
      have HN := Lib.hid hn
      clear hX hXB hn hcv f1 hr2
      refine wp_loop_r (fun a' w' => ∃ (ns : List Nat) (j : Nat) (k : Nat), a' = { tmps := #[.slice a l.length cap, slot a' 1, .pointer (some ⟨w.heap.size, 0, none⟩), slot a' 3, slot a' 4, .int .i64 k, slot a' 6, .pointer (some ⟨X, 0, none⟩), slot a' 8, slot a' 9, slot a' 10, slot a' 11, slot a' 12, slot a' 13, slot a' 14, slot a' 15, slot a' 16, slot a' 17, slot a' 18, slot a' 19, slot a' 20, slot a' 21, slot a' 22, slot a' 23, slot a' 24, slot a' 25, slot a' 26, slot a' 27, slot a' 28, slot a' 29, slot a' 30, slot a' 31, slot a' 32, slot a' 33, slot a' 34, slot a' 35, slot a' 36, slot a' 37, slot a' 38, slot a' 39, slot a' 40, slot a' 41, slot a' 42, slot a' 43, slot a' 44, slot a' 45, slot a' 46, slot a' 47, slot a' 48, .agg #[.pointer (some ⟨X, 1, none⟩), .pointer (some ⟨X, 2, none⟩), .pointer (some ⟨X, 3, none⟩)], .int .i64 j, slot a' 51, slot a' 52, slot a' 53, slot a' 54, slot a' 55, slot a' 56, slot a' 57, slot a' 58, slot a' 59, slot a' 60, slot a' 61, slot a' 62, slot a' 63, slot a' 64, slot a' 65, slot a' 66, slot a' 67, slot a' 68, slot a' 69, slot a' 70, slot a' 71, slot a' 72, slot a' 73], defers := [] } ∧ OneJ l nm w.heap.size X w w' ns j k ∧ j ≤ 3) (fun a' _ => (4 - (intOf (a'.tmps.getD 50 undef)).toNat)) ?_ ?_
      · exact ⟨[], 0, _, rfl, ⟨rfl, by simp, ⟨r1, HL'.out⟩, HKK.out, hb, hx1, hx0⟩, by omega⟩
      · clear hx0 hx1 hb
        rintro R a' w1 ⟨ns, j, k, hfr, hJ⟩ HR
        obtain ⟨f, hf⟩ : ∃ f, f = slot a' := ⟨_, rfl⟩
        rw [← hf] at hfr
        clear hf
        subst hfr
        obtain ⟨⟨hnj, hns, ⟨r, hlr⟩, hk, hb, hx1, hx0⟩, hj⟩ := hJ
        have HNS := Lib.hid hns
        have HLR := Lib.hid hlr
        have HK := Lib.hid hk
        by_cases hj3 : j < 3
        · obtain ⟨a3, cap3, hr3, hi3⟩ := slice_app hlr a cap
          have hi4 := hi3 w1 (HB.out.below (hb.mono (Nat.le_refl _)))
          have hkl : k ≤ l.length := by rw [hk, hlr]; simp
          rw [← hk] at hr3
          have hrr := congrArg List.length hlr
          rw [List.length_append, ← hk] at hrr
          have HRL := Lib.hid hrr
          have HI4 := Lib.hid hi4
          clear hi3 hi4 hrr hlr hk hns
          have i0 : ∀ w, (Instr.index 97 (.agg #[.pointer (some ⟨X, 1, none⟩), .pointer (some ⟨X, 2, none⟩), .pointer (some ⟨X, 3, none⟩)]) (.int .i64 0)).run Try.prog w = .ok (.pointer (some ⟨X, 1, none⟩)) w := fun _ => by kernel_rfl
          have i1 : ∀ w, (Instr.index 97 (.agg #[.pointer (some ⟨X, 1, none⟩), .pointer (some ⟨X, 2, none⟩), .pointer (some ⟨X, 3, none⟩)]) (.int .i64 1)).run Try.prog w = .ok (.pointer (some ⟨X, 2, none⟩)) w := fun _ => by kernel_rfl
          have i2 : ∀ w, (Instr.index 97 (.agg #[.pointer (some ⟨X, 1, none⟩), .pointer (some ⟨X, 2, none⟩), .pointer (some ⟨X, 3, none⟩)]) (.int .i64 2)).run Try.prog w = .ok (.pointer (some ⟨X, 3, none⟩)) w := fun _ => by kernel_rfl
          obtain rfl | rfl | rfl : j = 0 ∨ j = 1 ∨ j = 2 := by omega
          · obtain rfl : ns = [] := List.eq_nil_of_length_eq_zero hnj
            clear hnj
            go_wp2_with fail
            refine (U_any _ r 32 w1 HI4.out (by omega) (by omega)).mono ?_
            rintro x w2 ⟨rfl, hb2⟩
            replace hb := below_next hb hb2
            replace hx0 := hx0.below hb2 hx0.lt
            replace hx1 := hx1.below hb2 hx1.lt
            clear hb2 hr3
            by_cases hu : (uRes 32 r).2.2 = 0
            · obtain ⟨u, r2, hu32, hr, hres⟩ := uRes32_ok hu
              rw [hres]
              have hle : k + (putU u).length ≤ l.length := by rw [HRL.out, hr]; simp
              have HRR := Lib.hid hr
              clear hu hr hres
              obtain ⟨⟨x0, x1, x2, x3⟩, z0, z1, z2, z3⟩ := hx1.four
              go_wp2_with fail
              refine HR.out _ _ ⟨[u], 0 + 1, _, rfl, ⟨⟨rfl, ?_, ⟨r2, ?_⟩, ?_, hb.setCell (Nat.le_of_lt HXB.out) _, ?_, hx0.other _ _ (Nat.ne_of_lt HXB.out)⟩, by omega⟩⟩ ?_
              · simpa using hu32
              · rw [HLR.out, HRR.out]
                simp [numsB]
              · rw [HK.out]
                simp [numsB]
                try omega
              · have := hx1.set (0 + 1) (.int .i64 u)
                simpa using this
              · simp [intOf]
            · have HU := Lib.hid hu
              clear hu
              obtain ⟨x, k2, err, hr⟩ : ∃ x k err, uRes 32 r = (x, k, err) := ⟨_, _, _, rfl⟩
              rw [hr]
              have f1 : (err != 0) = true := ine_true (fun h => HU.out (by rw [hr]; exact h))
              clear hr
              obtain ⟨⟨x0, x1, x2, x3⟩, z0, z1, z2, z3⟩ := hx0.four
              go_wp2_with fail
              have hx := hx0.set4 (.string (bs [])) (.int .i64 0) (.int .i64 0) (.int .i64 0)
              refine bodyPost_ret (results_cell2 rfl _ _ rfl hx.loadE) rfl ?_
              refine ⟨?_, ⟨[], 0, 0, 0⟩, 0, rfl, .inr ⟨rfl, fun y r' hy h => ?_⟩⟩
              · exact (((hb.setCell (Nat.le_refl _) _).setCell (Nat.le_refl _) _).setCell (Nat.le_refl _) _).setCell (Nat.le_refl _) _
              · rw [HLR.out] at h
                obtain ⟨u, t, hu1, hu2⟩ := nums_front hy HN.out HNS.out (by simp) h
                exact uRes32_bad HU.out u t hu1 hu2
          · obtain ⟨y1, rfl⟩ := List.length_eq_one_iff.1 hnj
            clear hnj
            go_wp2_with fail
            refine (U_any _ r 32 w1 HI4.out (by omega) (by omega)).mono ?_
            rintro x w2 ⟨rfl, hb2⟩
            replace hb := below_next hb hb2
            replace hx0 := hx0.below hb2 hx0.lt
            replace hx1 := hx1.below hb2 hx1.lt
            clear hb2 hr3
            by_cases hu : (uRes 32 r).2.2 = 0
            · obtain ⟨u, r2, hu32, hr, hres⟩ := uRes32_ok hu
              rw [hres]
              have hle : k + (putU u).length ≤ l.length := by rw [HRL.out, hr]; simp
              have HRR := Lib.hid hr
              clear hu hr hres
              obtain ⟨⟨x0, x1, x2, x3⟩, z0, z1, z2, z3⟩ := hx1.four
              go_wp2_with fail
              refine HR.out _ _ ⟨[y1, u], 1 + 1, _, rfl, ⟨⟨rfl, ?_, ⟨r2, ?_⟩, ?_, hb.setCell (Nat.le_of_lt HXB.out) _, ?_, hx0.other _ _ (Nat.ne_of_lt HXB.out)⟩, by omega⟩⟩ ?_
              · simpa using (⟨HNS.out y1 (by simp), hu32⟩ : y1 < 4294967296 ∧ u < 4294967296)
              · rw [HLR.out, HRR.out]
                simp [numsB]
              · rw [HK.out]
                simp [numsB]
                try omega
              · have := hx1.set (1 + 1) (.int .i64 u)
                simpa using this
              · simp [intOf]
            · have HU := Lib.hid hu
              clear hu
              obtain ⟨x, k2, err, hr⟩ : ∃ x k err, uRes 32 r = (x, k, err) := ⟨_, _, _, rfl⟩
              rw [hr]
              have f1 : (err != 0) = true := ine_true (fun h => HU.out (by rw [hr]; exact h))
              clear hr
              obtain ⟨⟨x0, x1, x2, x3⟩, z0, z1, z2, z3⟩ := hx0.four
              go_wp2_with fail
              have hx := hx0.set4 (.string (bs [])) (.int .i64 0) (.int .i64 0) (.int .i64 0)
              refine bodyPost_ret (results_cell2 rfl _ _ rfl hx.loadE) rfl ?_
              refine ⟨?_, ⟨[], 0, 0, 0⟩, 0, rfl, .inr ⟨rfl, fun y r' hy h => ?_⟩⟩
              · exact (((hb.setCell (Nat.le_refl _) _).setCell (Nat.le_refl _) _).setCell (Nat.le_refl _) _).setCell (Nat.le_refl _) _
              · rw [HLR.out] at h
                obtain ⟨u, t, hu1, hu2⟩ := nums_front hy HN.out HNS.out (by simp) h
                exact uRes32_bad HU.out u t hu1 hu2
          · obtain ⟨y1, y2, rfl⟩ : ∃ y1 y2, ns = [y1, y2] := by
              match ns, hnj with
              | [a, b], _ => exact ⟨a, b, rfl⟩
            clear hnj
            go_wp2_with fail
            refine (U_any _ r 32 w1 HI4.out (by omega) (by omega)).mono ?_
            rintro x w2 ⟨rfl, hb2⟩
            replace hb := below_next hb hb2
            replace hx0 := hx0.below hb2 hx0.lt
            replace hx1 := hx1.below hb2 hx1.lt
            clear hb2 hr3
            by_cases hu : (uRes 32 r).2.2 = 0
            · obtain ⟨u, r2, hu32, hr, hres⟩ := uRes32_ok hu
              rw [hres]
              have hle : k + (putU u).length ≤ l.length := by rw [HRL.out, hr]; simp
              have HRR := Lib.hid hr
              clear hu hr hres
              obtain ⟨⟨x0, x1, x2, x3⟩, z0, z1, z2, z3⟩ := hx1.four
              go_wp2_with fail
              refine HR.out _ _ ⟨[y1, y2, u], 2 + 1, _, rfl, ⟨⟨rfl, ?_, ⟨r2, ?_⟩, ?_, hb.setCell (Nat.le_of_lt HXB.out) _, ?_, hx0.other _ _ (Nat.ne_of_lt HXB.out)⟩, by omega⟩⟩ ?_
              · simpa using (⟨HNS.out y1 (by simp), HNS.out y2 (by simp), hu32⟩ : y1 < 4294967296 ∧ y2 < 4294967296 ∧ u < 4294967296)
              · rw [HLR.out, HRR.out]
                simp [numsB]
              · rw [HK.out]
                simp [numsB]
                try omega
              · have := hx1.set (2 + 1) (.int .i64 u)
                simpa using this
              · simp [intOf]
            · have HU := Lib.hid hu
              clear hu
              obtain ⟨x, k2, err, hr⟩ : ∃ x k err, uRes 32 r = (x, k, err) := ⟨_, _, _, rfl⟩
              rw [hr]
              have f1 : (err != 0) = true := ine_true (fun h => HU.out (by rw [hr]; exact h))
              clear hr
              obtain ⟨⟨x0, x1, x2, x3⟩, z0, z1, z2, z3⟩ := hx0.four
              go_wp2_with fail
              have hx := hx0.set4 (.string (bs [])) (.int .i64 0) (.int .i64 0) (.int .i64 0)
              refine bodyPost_ret (results_cell2 rfl _ _ rfl hx.loadE) rfl ?_
              refine ⟨?_, ⟨[], 0, 0, 0⟩, 0, rfl, .inr ⟨rfl, fun y r' hy h => ?_⟩⟩
              · exact (((hb.setCell (Nat.le_refl _) _).setCell (Nat.le_refl _) _).setCell (Nat.le_refl _) _).setCell (Nat.le_refl _) _
              · rw [HLR.out] at h
                obtain ⟨u, t, hu1, hu2⟩ := nums_front hy HN.out HNS.out (by simp) h
                exact uRes32_bad HU.out u t hu1 hu2
        · obtain rfl : j = 3 := by omega
          obtain ⟨y1, y2, y3, rfl⟩ : ∃ y1 y2 y3, ns = [y1, y2, y3] := by
            match ns, hnj with
            | [a, b, c], _ => exact ⟨a, b, c, rfl⟩
          clear hk hlr hns hnj
          have g1 := HNS.out y1 (by simp)
          have g2 := HNS.out y2 (by simp)
          have g3 := HNS.out y3 (by simp)
          obtain ⟨⟨x0, x1, x2, x3⟩, z0, z1, z2, z3⟩ := hx0.four
          obtain ⟨⟨t0, t1, t2, t3⟩, -, -, -, -⟩ := hx1.four
          have t0' : w1.cell? ⟨X, 0, none⟩ = some (.string (bs nm)) := t0
          have t1' : w1.cell? ⟨X, 1, none⟩ = some (.int .i64 y1) := t1
          have t2' : w1.cell? ⟨X, 2, none⟩ = some (.int .i64 y2) := t2
          have t3' : w1.cell? ⟨X, 3, none⟩ = some (.int .i64 y3) := t3
          clear t0 t1 t2 t3
          go_wp2_with fail
          have hx := hx0.set4 (.string (bs nm)) (.int .i64 y1) (.int .i64 y2) (.int .i64 y3)
          refine bodyPost_ret (results_cell2 rfl _ _ rfl hx.loadE) rfl ?_
          have hen : entB ⟨nm, y1, y2, y3⟩ = numsB nm.length nm [y1, y2, y3] := by simp [entB, numsB]
          refine ⟨?_, ⟨nm, y1, y2, y3⟩, k, rfl, .inl ⟨?_, by rw [hen]; exact HK.out, ?_, r, by rw [hen]; exact HLR.out⟩⟩
          · exact (((hb.setCell (Nat.le_refl _) _).setCell (Nat.le_refl _) _).setCell (Nat.le_refl _) _).setCell (Nat.le_refl _) _
          · have := HN.out
            exact ⟨this, ⟨by show (0 : Int) ≤ (y1 : Int); omega, by show (y1 : Int) < 4294967296; omega⟩, ⟨by show (0 : Int) ≤ (y2 : Int); omega, by show (y2 : Int) < 4294967296; omega⟩, ⟨by show (0 : Int) ≤ (y3 : Int); omega, by show (y3 : Int) < 4294967296; omega⟩⟩
          · have h1 := HK.out
            have h2 := (putU_len nm.length).1
            rw [numsB, List.length_append, List.length_append] at h1
            omega
  · have HU := Lib.hid hu
    clear hu
    obtain ⟨⟨x0, x1, x2, x3⟩, z0, z1, z2, z3⟩ := hx0.four
    obtain ⟨x, k, err, hr⟩ : ∃ x k err, uRes 32 l = (x, k, err) := ⟨_, _, _, rfl⟩
    rw [hr]
    have f1 : (err != 0) = true := ine_true (fun h => HU.out (by rw [hr]; exact h))
    clear hr
    go_wp2_with fail
    have hx := hx0.set4 (.string (bs [])) (.int .i64 0) (.int .i64 0) (.int .i64 0)
    refine bodyPost_ret (results_cell2 rfl _ _ rfl hx.loadE) rfl ?_
    refine ⟨?_, ⟨[], 0, 0, 0⟩, 0, rfl, .inr ⟨rfl, fun y r hy h => ?_⟩⟩
    · exact (((hb.setCell (Nat.le_refl _) _).setCell (Nat.le_refl _) _).setCell (Nat.le_refl _) _).setCell (Nat.le_refl _) _
    · rw [entB] at h
      simp only [List.append_assoc] at h
      exact uRes32_bad HU.out y.name.length _ hy.lt.1 h
end Go.Proofs.Ytbgeijdfkdfdoaa
