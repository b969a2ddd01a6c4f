/-
  The law DirSpan: an entry's span is just as long as its bytes need. No condition.
-/
import Derived.Test.YtbgeijdfkdfdoaaDirM
import Derived.Test.YtbgeijdfkdfdoaaRow
namespace Go.Proofs.Ytbgeijdfkdfdoaa
open Go.RowKit


set_option maxRecDepth 100000 in
set_option maxHeartbeats 4000000 in
theorem span_any (size span at' : Int) (w : World) (h0 : (Lit.int .i64 size).wf = true) (h1 : (Lit.int .i64 span).wf = true) (h2 : (Lit.int .i64 at').wf = true) :
    Calls Try.prog 12 #[.int .i64 size, .int .i64 span, .int .i64 at'] w (TrueEnd w) := by
  obtain ⟨a0, a1⟩ := bounds_i64 h0
  obtain ⟨b0, b1⟩ := bounds_i64 h1
  obtain ⟨c0, c1⟩ := bounds_i64 h2
  clear h0 h1 h2
  have hok : DEnt.ok ⟨[97], size, at', span⟩ := ⟨by simp, ⟨a0, a1⟩, ⟨c0, c1⟩, ⟨b0, b1⟩⟩
  go_enter Try.func12, Try.ntmps12
  go_wp2_with fail
  refine (dirBegun_any _).mono ?_
  rintro x w1 ⟨rfl, hb⟩
  by_cases q0 : size < 0
  · have f0 : decide (size < 0) = true := decide_eq_true q0
    go_wp2_with fail
    go_ret
    exact ⟨rfl, hb⟩
  have f0 : decide (size < 0) = false := decide_eq_false q0
  by_cases q1 : 70000 < size
  · have f1 : decide (70000 < size) = true := decide_eq_true q1
    go_wp2_with fail
    go_ret
    exact ⟨rfl, hb⟩
  have f1 : decide (70000 < size) = false := decide_eq_false q1
  by_cases q2 : span < 0
  · have f2 : decide (span < 0) = true := decide_eq_true q2
    go_wp2_with fail
    go_ret
    exact ⟨rfl, hb⟩
  have f2 : decide (span < 0) = false := decide_eq_false q2
  by_cases q3 : 1200 < span
  · have f3 : decide (1200 < span) = true := decide_eq_true q3
    go_wp2_with fail
    go_ret
    exact ⟨rfl, hb⟩
  have f3 : decide (1200 < span) = false := decide_eq_false q3
  by_cases q4 : size ≤ 65536
  rotate_left
  · have f4 : decide (size ≤ 65536) = false := decide_eq_false q4
    have HM := Lib.hid (show ¬ mayL [⟨[97], size, at', span⟩] from fun h => by have := mayL_one.1 h; exact absurd this.2.2.2.1 (by simpa using q4))
    go_wp2_with fail
    have hl := lit_isEnts w1 ⟨[97], size, at', span⟩ hok
    replace hb := below_alloc hb (.cells #[.string (bs [97]), .int .i64 size, .int .i64 at', .int .i64 span] 52)
    refine (mayList_any _ _ _ hl).mono ?_
    rintro x w2 ⟨r, rfl, hr, hb2⟩
    obtain rfl : r = false := by (cases r; rfl; exact absurd (hr.1 rfl) HM.out)
    replace hl := hl.below hb2
    have HL := Lib.hid hl
    replace hb := below_next hb hb2
    clear hl hb2 hr
    go_wp2_with fail
    refine (encode_any _ _ _ HL.out).mono ?_
    rintro x w3 ⟨c, rfl, hb3, hc⟩
    replace hb := below_next hb hb3
    rcases hc with ⟨h, -⟩ | ⟨-, rfl⟩
    · exact absurd h HM.out
    clear hb3 HL
    go_wp2_with fail
    go_ret
    exact ⟨rfl, hb⟩
  have f4 : decide (size ≤ 65536) = true := decide_eq_true q4
  by_cases q5 : span = (size + 63) / 64
  rotate_left
  · have f5 := ieq_false q5
    have HM := Lib.hid (show ¬ mayL [⟨[97], size, at', span⟩] from fun h => by have := mayL_one.1 h; exact absurd this.2.2.2.2.1 (by simpa using q5))
    go_wp2_with fail
    have hl := lit_isEnts w1 ⟨[97], size, at', span⟩ hok
    replace hb := below_alloc hb (.cells #[.string (bs [97]), .int .i64 size, .int .i64 at', .int .i64 span] 52)
    refine (mayList_any _ _ _ hl).mono ?_
    rintro x w2 ⟨r, rfl, hr, hb2⟩
    obtain rfl : r = false := by (cases r; rfl; exact absurd (hr.1 rfl) HM.out)
    replace hl := hl.below hb2
    have HL := Lib.hid hl
    replace hb := below_next hb hb2
    clear hl hb2 hr
    go_wp2_with fail
    refine (encode_any _ _ _ HL.out).mono ?_
    rintro x w3 ⟨c, rfl, hb3, hc⟩
    replace hb := below_next hb hb3
    rcases hc with ⟨h, -⟩ | ⟨-, rfl⟩
    · exact absurd h HM.out
    clear hb3 HL
    go_wp2_with fail
    go_ret
    exact ⟨rfl, hb⟩
  have f5 := ieq_true q5
  have Q5 := Lib.hid q5
  clear q5
  by_cases q6 : 0 ≤ at'
  rotate_left
  · have f6 : decide (0 ≤ at') = false := decide_eq_false q6
    have HM := Lib.hid (show ¬ mayL [⟨[97], size, at', span⟩] from fun h => by have := mayL_one.1 h; exact absurd this.2.2.2.2.2.1 (by simpa using q6))
    go_wp2_with fail
    have hl := lit_isEnts w1 ⟨[97], size, at', span⟩ hok
    replace hb := below_alloc hb (.cells #[.string (bs [97]), .int .i64 size, .int .i64 at', .int .i64 span] 52)
    refine (mayList_any _ _ _ hl).mono ?_
    rintro x w2 ⟨r, rfl, hr, hb2⟩
    obtain rfl : r = false := by (cases r; rfl; exact absurd (hr.1 rfl) HM.out)
    replace hl := hl.below hb2
    have HL := Lib.hid hl
    replace hb := below_next hb hb2
    clear hl hb2 hr
    go_wp2_with fail
    refine (encode_any _ _ _ HL.out).mono ?_
    rintro x w3 ⟨c, rfl, hb3, hc⟩
    replace hb := below_next hb hb3
    rcases hc with ⟨h, -⟩ | ⟨-, rfl⟩
    · exact absurd h HM.out
    clear hb3 HL
    go_wp2_with fail
    go_ret
    exact ⟨rfl, hb⟩
  have f6 : decide (0 ≤ at') = true := decide_eq_true q6
  by_cases q7 : at' ≤ 2048
  rotate_left
  · have f7 : decide (at' ≤ 2048) = false := decide_eq_false q7
    have HM := Lib.hid (show ¬ mayL [⟨[97], size, at', span⟩] from fun h => by have := mayL_one.1 h; exact absurd this.2.2.2.2.2.2.1 (by simpa using q7))
    go_wp2_with fail
    have hl := lit_isEnts w1 ⟨[97], size, at', span⟩ hok
    replace hb := below_alloc hb (.cells #[.string (bs [97]), .int .i64 size, .int .i64 at', .int .i64 span] 52)
    refine (mayList_any _ _ _ hl).mono ?_
    rintro x w2 ⟨r, rfl, hr, hb2⟩
    obtain rfl : r = false := by (cases r; rfl; exact absurd (hr.1 rfl) HM.out)
    replace hl := hl.below hb2
    have HL := Lib.hid hl
    replace hb := below_next hb hb2
    clear hl hb2 hr
    go_wp2_with fail
    refine (encode_any _ _ _ HL.out).mono ?_
    rintro x w3 ⟨c, rfl, hb3, hc⟩
    replace hb := below_next hb hb3
    rcases hc with ⟨h, -⟩ | ⟨-, rfl⟩
    · exact absurd h HM.out
    clear hb3 HL
    go_wp2_with fail
    go_ret
    exact ⟨rfl, hb⟩
  have f7 : decide (at' ≤ 2048) = true := decide_eq_true q7
  by_cases q8 : 0 < span
  · have f8 : decide (0 < span) = true := decide_eq_true q8
    have HM := Lib.hid (show mayL [⟨[97], size, at', span⟩] from mayL_one.2 ⟨by simp, by simp, by simpa using q0, q4, Q5.out, q6, q7, .inl (by have := Q5.out; show 0 < size; omega)⟩)
    go_wp2_with fail
    have hl := lit_isEnts w1 ⟨[97], size, at', span⟩ hok
    replace hb := below_alloc hb (.cells #[.string (bs [97]), .int .i64 size, .int .i64 at', .int .i64 span] 52)
    refine (mayList_any _ _ _ hl).mono ?_
    rintro x w2 ⟨r, rfl, hr, hb2⟩
    obtain rfl : r = true := by exact hr.2 HM.out
    replace hl := hl.below hb2
    have HL := Lib.hid hl
    replace hb := below_next hb hb2
    clear hl hb2 hr
    go_wp2_with fail
    refine (encode_any _ _ _ HL.out).mono ?_
    rintro x w3 ⟨c, rfl, hb3, hc⟩
    replace hb := below_next hb hb3
    rcases hc with ⟨-, hc⟩ | ⟨h, -⟩
    rotate_left
    · exact absurd HM.out h
    obtain ⟨g, cap, rfl, -, -, -, -, -, -⟩ := hc.open (by rw [dirB]; intro h; rw [List.append_eq_nil_iff] at h; have := (putU_len 1).1; rw [show putU 1 = [] from h.1] at this; simp at this)
    have hp : 0 < (dirB [⟨[97], size, at', span⟩]).length := by
      have := (putU_len 1).1
      rw [dirB, List.length_append]
      simp only [List.length_singleton]
      omega
    have hp2 : (dirB [⟨[97], size, at', span⟩]).length ≤ 1000 := by
      have := (putU_len 1).2
      have h2 := flat_len [⟨[97], size, at', span⟩] (by simp)
      rw [dirB, List.length_append]
      simp only [List.length_singleton] at *
      omega
    generalize (dirB [⟨[97], size, at', span⟩]).length = n at hp hp2
    clear hb3 hc HL
    go_wp2_with fail
    go_ret
    exact ⟨rfl, hb⟩
  have f8 : decide (0 < span) = false := decide_eq_false q8
  by_cases q9 : at' = 0
  · have f9 := ieq_true q9
    have HM := Lib.hid (show mayL [⟨[97], size, at', span⟩] from mayL_one.2 ⟨by simp, by simp, by simpa using q0, q4, Q5.out, q6, q7, .inr q9⟩)
    clear q9
    go_wp2_with fail
    have hl := lit_isEnts w1 ⟨[97], size, at', span⟩ hok
    replace hb := below_alloc hb (.cells #[.string (bs [97]), .int .i64 size, .int .i64 at', .int .i64 span] 52)
    refine (mayList_any _ _ _ hl).mono ?_
    rintro x w2 ⟨r, rfl, hr, hb2⟩
    obtain rfl : r = true := by exact hr.2 HM.out
    replace hl := hl.below hb2
    have HL := Lib.hid hl
    replace hb := below_next hb hb2
    clear hl hb2 hr
    go_wp2_with fail
    refine (encode_any _ _ _ HL.out).mono ?_
    rintro x w3 ⟨c, rfl, hb3, hc⟩
    replace hb := below_next hb hb3
    rcases hc with ⟨-, hc⟩ | ⟨h, -⟩
    rotate_left
    · exact absurd HM.out h
    obtain ⟨g, cap, rfl, -, -, -, -, -, -⟩ := hc.open (by rw [dirB]; intro h; rw [List.append_eq_nil_iff] at h; have := (putU_len 1).1; rw [show putU 1 = [] from h.1] at this; simp at this)
    have hp : 0 < (dirB [⟨[97], size, at', span⟩]).length := by
      have := (putU_len 1).1
      rw [dirB, List.length_append]
      simp only [List.length_singleton]
      omega
    have hp2 : (dirB [⟨[97], size, at', span⟩]).length ≤ 1000 := by
      have := (putU_len 1).2
      have h2 := flat_len [⟨[97], size, at', span⟩] (by simp)
      rw [dirB, List.length_append]
      simp only [List.length_singleton] at *
      omega
    generalize (dirB [⟨[97], size, at', span⟩]).length = n at hp hp2
    clear hb3 hc HL
    go_wp2_with fail
    go_ret
    exact ⟨rfl, hb⟩
  · have f9 := ieq_false q9
    have Q9 := Lib.hid q9
    clear q9
    have HM := Lib.hid (show ¬ mayL [⟨[97], size, at', span⟩] from fun h => by have := mayL_one.1 h; exact this.2.2.2.2.2.2.2.elim (fun h => by have := Q5.out; change 0 < size at h; omega) Q9.out)
    go_wp2_with fail
    have hl := lit_isEnts w1 ⟨[97], size, at', span⟩ hok
    replace hb := below_alloc hb (.cells #[.string (bs [97]), .int .i64 size, .int .i64 at', .int .i64 span] 52)
    refine (mayList_any _ _ _ hl).mono ?_
    rintro x w2 ⟨r, rfl, hr, hb2⟩
    obtain rfl : r = false := by (cases r; rfl; exact absurd (hr.1 rfl) HM.out)
    replace hl := hl.below hb2
    have HL := Lib.hid hl
    replace hb := below_next hb hb2
    clear hl hb2 hr
    go_wp2_with fail
    refine (encode_any _ _ _ HL.out).mono ?_
    rintro x w3 ⟨c, rfl, hb3, hc⟩
    replace hb := below_next hb hb3
    rcases hc with ⟨h, -⟩ | ⟨-, rfl⟩
    · exact absurd h HM.out
    clear hb3 HL
    go_wp2_with fail
    go_ret
    exact ⟨rfl, hb⟩
end Go.Proofs.Ytbgeijdfkdfdoaa
