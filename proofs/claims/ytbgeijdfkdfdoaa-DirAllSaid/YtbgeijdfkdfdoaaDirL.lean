/-
  Walk of the statements' own function bytes.
-/
import Derived.Test.YtbgeijdfkdfdoaaDirJ
import Derived.Test.YtbgeijdfkdfdoaaRefU
namespace Go.Proofs.Ytbgeijdfkdfdoaa
open Go.RowKit

def BytJ (l : List DEnt) (w w' : World) (v : Value) (k : Nat) : Prop :=
  k ≤ l.length ∧ OwnBytes w' w.heap.size v (putU l.length ++ flatB (l.take k)) ∧ Below w.heap.size w w'

def Cells4 (b off k : Nat) (nm : List UInt8) (n0 n1 n2 : Int) (w : World) : Prop :=
  w.cell? ⟨b, off + k * 4, none⟩ = some (.string (bs nm)) ∧ w.cell? ⟨b, off + k * 4 + 1, none⟩ = some (.int .i64 n0) ∧ w.cell? ⟨b, off + k * 4 + 2, none⟩ = some (.int .i64 n1) ∧ w.cell? ⟨b, off + k * 4 + 3, none⟩ = some (.int .i64 n2)

theorem Cells4.below {b off k : Nat} {nm : List UInt8} {n0 n1 n2 : Int} {w w' : World} (h : Cells4 b off k nm n0 n1 n2 w) {B : Nat} (hk : Below B w w') (hB : b < B) : Cells4 b off k nm n0 n1 n2 w' := by
  obtain ⟨c0, c1, c2, c3⟩ := h
  exact ⟨by rw [hk.cell hB]; exact c0, by rw [hk.cell hB]; exact c1, by rw [hk.cell hB]; exact c2, by rw [hk.cell hB]; exact c3⟩


set_option maxRecDepth 100000 in
set_option maxHeartbeats 4000000 in
theorem bytes_any (v : Value) (l : List DEnt) (w : World) (hl : IsEnts w v l) (hm : mayL l) : Calls Try.prog 32 #[v] w (RefEnd (dirB l) w) := by
  have HI := Lib.hid hl
  have HM := Lib.hid hm
  have h32 := hm.2
  clear hm
  obtain ⟨a, cap, rfl, h1, h2, _⟩ := hl
  unfold maxLen at h2
  go_enter Try.func32, Try.ntmps32
  go_wp2_with fail
  refine (refU_any l.length (by omega) _).mono ?_
  rintro x w1 ⟨v, rfl, ho, hb⟩
  go_wp2_with fail
  refine wp_loop_r (fun a' w' => ∃ (v : Value) (k : Nat), a' = { tmps := #[.slice a l.length cap, slot a' 1, slot a' 2, v, .int .i64 k, slot a' 5, slot a' 6, slot a' 7, slot a' 8, slot a' 9, slot a' 10, slot a' 11, slot a' 12, slot a' 13, slot a' 14, slot a' 15, slot a' 16, slot a' 17, slot a' 18, slot a' 19, slot a' 20, slot a' 21, slot a' 22, slot a' 23, slot a' 24, slot a' 25, slot a' 26, slot a' 27, slot a' 28, slot a' 29, slot a' 30, slot a' 31, slot a' 32, slot a' 33, slot a' 34, slot a' 35, slot a' 36, slot a' 37, slot a' 38, slot a' 39, slot a' 40, slot a' 41, slot a' 42, slot a' 43, slot a' 44, slot a' 45, slot a' 46, slot a' 47, slot a' 48, slot a' 49, slot a' 50, slot a' 51, slot a' 52, slot a' 53, slot a' 54, slot a' 55, slot a' 56, slot a' 57, slot a' 58], defers := [] } ∧ BytJ l w w' v k) (fun a' _ => (l.length - (intOf (a'.tmps.getD 4 undef)).toNat)) ?_ ?_
  · exact ⟨v, 0, rfl, by omega, by simpa [flatB] using ho, hb⟩
  · clear ho hb
    rintro R a' w1 ⟨v, k, hfr, hJ⟩ HR
    obtain ⟨f, hf⟩ : ∃ f, f = slot a' := ⟨_, rfl⟩
    rw [← hf] at hfr
    clear hf
    subst hfr
    obtain ⟨hk, ho, hb⟩ := hJ
    by_cases hkl : k < l.length
    · obtain ⟨e, he⟩ : ∃ e, l[k]? = some e := ⟨_, List.getElem?_eq_getElem hkl⟩
      obtain ⟨a', cap', hv, _, _, hcells⟩ := HI.out
      injection hv with e1 e2 e3
      subst e1 e3
      obtain ⟨hok, b, off, rfl, c0, c1, c2, c3⟩ := hcells k e he
      have hbw : b < w.heap.size := World.block_lt_of_cell? w _ c0
      obtain ⟨m1, m2, m3, m4, m5, m6, m7, m8⟩ := (HM.out.1 k hkl e he).1
      have hsp : 0 ≤ e.sp ∧ e.sp ≤ 70000 := by omega
      obtain ⟨s1, s2⟩ := hsp
      have hlen : (putU l.length ++ flatB (l.take k)).length ≤ 100000 := by
        have g1 := (putU_len l.length).2
        have g2 := flat_len (l.take k) (fun x hx => by
          obtain ⟨i, hi⟩ := List.mem_iff_getElem?.1 (List.mem_of_mem_take hx)
          exact (HM.out.1 i (List.getElem?_eq_some_iff.1 hi).1 x hi).1.2.1)
        have g3 : (l.take k).length ≤ 32 := by rw [List.length_take]; omega
        rw [List.length_append, flatB]
        omega
      have hnm : (bs e.name).size ≤ 20 := by rw [bs_size]; exact m2
      have hln := bs_size e.name
      have HLN := Lib.hid hln
      have HE := Lib.hid he
      have M5 := Lib.hid m5
      obtain ⟨n0, hn0⟩ : ∃ n : Nat, e.len = n := ⟨e.len.toNat, by omega⟩
      obtain ⟨n1, hn1⟩ : ∃ n : Nat, e.pos = n := ⟨e.pos.toNat, by omega⟩
      obtain ⟨n2, hn2⟩ : ∃ n : Nat, e.sp = n := ⟨e.sp.toNat, by omega⟩
      have HB0 := Lib.hid (show entB e = putU (bs e.name).size ++ e.name ++ putU n0 ++ putU n1 ++ putU n2 by rw [entB, hln, hn0, hn1, hn2]; simp)
      rw [hn0] at c1
      rw [hn1] at c2
      rw [hn2] at c3
      have hcw : Cells4 b off k e.name n0 n1 n2 w := ⟨c0, c1, c2, c3⟩
      have HCW := Lib.hid hcw
      have l0 : n0 ≤ 70000 := by omega
      have l1 : n1 ≤ 70000 := by omega
      have l2 : n2 ≤ 70000 := by omega
      generalize hL : putU l.length ++ flatB (l.take k) = L at ho hlen
      have HL := Lib.hid hL
      clear hL hcells e2 he m5 m8 hln c0 c1 c2 c3 hcw hok m3 m4 m6 m7 hn0 hn1 hn2 s1 s2
      have hn4 : (putU (bs e.name).size).length ≤ 10 := (putU_len _).2
      have hn5 : e.name.length ≤ 20 := m2
      have p0 := (putU_len n0).2
      have p1 := (putU_len n1).2
      have p2 := (putU_len n2).2
      clear m1 m2
      go_wp2_with fail
      refine wp_region_seq (Cells4 b off k e.name n0 n1 n2) [(0, true), (1, true), (2, true), (3, true), (4, true), (5, true), (6, true), (7, true), (9, true), (10, true),
      (11, true), (12, true), (13, true), (8, false), (14, false), (15, false), (16, true)] (by kernel_rfl) (by kernel_rfl) (HCW.out.below hb.drew hbw) ?_
      iterate 13 (first | (apply seg_skip rfl rfl; simp only [Act.put, List.setIfInBounds_toArray, List.set_cons_succ, List.set_cons_zero]) | (apply seg_pure rfl rfl rfl; · (rintro w' ⟨t0, t1, t2, t3⟩; go_wp2; exact ⟨rfl, rfl, rfl⟩)))
      refine seg_loud rfl rfl ?_
      go_wp2_with fail
      refine (refU_any (bs e.name).size (by omega) _).mono ?_
      rintro x w2 ⟨u2, rfl, hou, hbu⟩
      have hb2 : Below w.heap.size w w2 := hb.drew.trans (hbu.mono hb.size)
      have ho2 := OwnBytes.below (w := w1.drew) ho hbu
      go_wp2_with fail
      refine ⟨HCW.out.below hb2 hbw, ?_⟩
      refine seg_loud rfl rfl ?_
      go_wp2_with (first | (at_builtin; refine Stop.out ?_))
      change wpList _ _ _ _ _ _
      refine wpList_str w2 rfl _ _ rfl rfl w1.heap.size u2 _ e.name rfl hou rfl (by omega) hbu.size ?_
      intro u3 w3 hou3 hk3 _
      have ho3 : OwnBytes w3 w.heap.size v L := ho2.keeps hk3 (fun i hi hj => by
        have g1 := (own_lt ho hi).2
        have g2 : w1.heap.size ≤ i := (own_lt hou hj).1
        omega)
      have hb3 : Below w.heap.size w w3 := hb2.trans (hk3.below hb2.size (fun i hi => by
        have g2 : w1.heap.size ≤ i := (own_lt hou hi).1
        have := hb.size
        omega))
      go_wp2_with fail
      refine ⟨HCW.out.below hb3 hbw, ?_⟩
      refine seg_loud rfl rfl ?_
      go_wp2_with (first | (at_builtin; refine Stop.out ?_))
      change wpList _ _ _ _ _ _
      refine wpList_bytes w3 rfl _ _ rfl rfl w.heap.size v L rfl ho3 u3 _ rfl hou3.isBytes (by simp only [List.length_append]; omega) hb3.size ?_
      intro v4 w4 ho4 hk4 _
      have hb4 := hb3.trans (hk4.below hb3.size (fun i hi => (own_lt ho3 hi).1))
      clear ho hb hou hbu hb2 ho2 hou3 hk3 ho3 hb3 hk4
      have hlen4 : (L ++ (putU (bs e.name).size ++ e.name)).length ≤ 200000 := by simp only [List.length_append]; omega
      go_wp2_with fail
      refine ⟨HCW.out.below hb4 hbw, ?_⟩
      iterate 1 (first | (apply seg_skip rfl rfl; simp only [Act.put, List.setIfInBounds_toArray, List.set_cons_succ, List.set_cons_zero]) | (apply seg_pure rfl rfl rfl; · (rintro w' ⟨t0, t1, t2, t3⟩; go_wp2; exact ⟨rfl, rfl, rfl⟩)))
      refine seg_nil ?_
      refine NoPanic.normal ?_
      go_wp2_with fail
      refine wp_region_seq (Cells4 b off k e.name n0 n1 n2) [(0, true), (1, true), (2, true), (3, true), (4, true), (5, true), (6, true), (9, true), (10, true), (11, true),
      (12, true), (13, true), (14, true), (15, true), (18, true), (19, true), (20, true), (21, true), (22, true),
      (23, true), (24, true), (7, false), (8, false), (16, false), (17, false), (25, false), (26, false), (27, true)] (by kernel_rfl) (by kernel_rfl) (HCW.out.below hb4.drew hbw) ?_
      iterate 21 (first | (apply seg_skip rfl rfl; simp only [Act.put, List.setIfInBounds_toArray, List.set_cons_succ, List.set_cons_zero]) | (apply seg_pure rfl rfl rfl; · (rintro w' ⟨t0, t1, t2, t3⟩; go_wp2; exact ⟨rfl, rfl, rfl⟩)))
      refine seg_loud rfl rfl ?_
      go_wp2_with fail
      refine (refU_any n0 (by omega) _).mono ?_
      rintro x wu ⟨u, rfl, hou, hbu⟩
      have hbx : Below w.heap.size w wu := hb4.drew.trans (hbu.mono (by have := hb4.drew.size; exact this))
      have hox := OwnBytes.below (w := w4.drew) ho4 hbu
      go_wp2_with fail
      refine ⟨HCW.out.below hbx hbw, ?_⟩
      refine seg_loud rfl rfl ?_
      go_wp2_with (first | (at_builtin; refine Stop.out ?_))
      change wpList _ _ _ _ _ _
      refine wpList_bytes wu rfl _ _ rfl rfl w.heap.size _ _ rfl hox u _ rfl hou.isBytes (by have := (putU_len n0).2; simp only [List.length_append] at *; omega) hbx.size ?_
      intro v5 w5 ho5 hk5 _
      have hb5 := hbx.trans (hk5.below hbx.size (fun i hi => (own_lt hox hi).1))
      clear hou hbu hox hbx hk5
      go_wp2_with fail
      refine ⟨HCW.out.below hb5 hbw, ?_⟩
      refine seg_loud rfl rfl ?_
      go_wp2_with fail
      refine (refU_any n1 (by omega) _).mono ?_
      rintro x wu ⟨u, rfl, hou, hbu⟩
      have hbx : Below w.heap.size w wu := hb5.trans (hbu.mono (by have := hb5.size; exact this))
      have hox := OwnBytes.below (w := w5) ho5 hbu
      go_wp2_with fail
      refine ⟨HCW.out.below hbx hbw, ?_⟩
      refine seg_loud rfl rfl ?_
      go_wp2_with (first | (at_builtin; refine Stop.out ?_))
      change wpList _ _ _ _ _ _
      refine wpList_bytes wu rfl _ _ rfl rfl w.heap.size _ _ rfl hox u _ rfl hou.isBytes (by have := (putU_len n1).2; simp only [List.length_append] at *; omega) hbx.size ?_
      intro v6 w6 ho6 hk6 _
      have hb6 := hbx.trans (hk6.below hbx.size (fun i hi => (own_lt hox hi).1))
      clear hou hbu hox hbx hk6
      go_wp2_with fail
      refine ⟨HCW.out.below hb6 hbw, ?_⟩
      refine seg_loud rfl rfl ?_
      go_wp2_with fail
      refine (refU_any n2 (by omega) _).mono ?_
      rintro x wu ⟨u, rfl, hou, hbu⟩
      have hbx : Below w.heap.size w wu := hb6.trans (hbu.mono (by have := hb6.size; exact this))
      have hox := OwnBytes.below (w := w6) ho6 hbu
      go_wp2_with fail
      refine ⟨HCW.out.below hbx hbw, ?_⟩
      refine seg_loud rfl rfl ?_
      go_wp2_with (first | (at_builtin; refine Stop.out ?_))
      change wpList _ _ _ _ _ _
      refine wpList_bytes wu rfl _ _ rfl rfl w.heap.size _ _ rfl hox u _ rfl hou.isBytes (by have := (putU_len n2).2; simp only [List.length_append] at *; omega) hbx.size ?_
      intro v7 w7 ho7 hk7 _
      have hb7 := hbx.trans (hk7.below hbx.size (fun i hi => (own_lt hox hi).1))
      clear hou hbu hox hbx hk7
      go_wp2_with fail
      refine ⟨HCW.out.below hb7 hbw, ?_⟩
      iterate 1 (first | (apply seg_skip rfl rfl; simp only [Act.put, List.setIfInBounds_toArray, List.set_cons_succ, List.set_cons_zero]) | (apply seg_pure rfl rfl rfl; · (rintro w' ⟨t0, t1, t2, t3⟩; go_wp2; exact ⟨rfl, rfl, rfl⟩)))
      refine seg_nil ?_
      refine NoPanic.normal ?_
      go_wp2_with fail
      refine HR.out _ _ ⟨v7, k + 1, rfl, by omega, ?_, hb7⟩ ?_
      · have e1 : putU l.length ++ flatB (l.take (k + 1)) = L ++ (putU (bs e.name).size ++ e.name) ++ putU n0 ++ putU n1 ++ putU n2 := by
          rw [← HL.out, List.take_add_one, HE.out, flatB_app]
          simp [flatB, HB0.out]
        rw [e1]
        exact ho7
      · simp [intOf]
        omega
    · obtain rfl : k = l.length := by omega
      go_wp2_with fail
      go_ret
      refine ⟨v, rfl, ?_, hb⟩
      rw [List.take_length] at ho
      exact ho
end Go.Proofs.Ytbgeijdfkdfdoaa
