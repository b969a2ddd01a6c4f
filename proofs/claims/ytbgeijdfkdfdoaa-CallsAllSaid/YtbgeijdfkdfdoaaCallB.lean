/-
  Walk of calls.Encode: a list's bytes.
-/
import Derived.Test.YtbgeijdfkdfdoaaCallA
namespace Go.Proofs.Ytbgeijdfkdfdoaa
open Go.RowKit

def hasN (b : Bool) : Nat := if b then 1 else 0

/-- A call's bytes. -/
def callB (c : CEnt) : List UInt8 := putU c.n.toNat ++ putU c.fn.toNat ++ putU c.pos.toNat ++ valsB c.args ++ putU (hasN c.has) ++ putS c.ans
def flatC (l : List CEnt) : List UInt8 := (l.map callB).flatten
/-- A list's bytes. -/
def callsB (l : List CEnt) : List UInt8 := putU l.length ++ flatC l

def EncCEnd (l : List CEnt) (w : World) (e : Ending) (w' : World) : Prop :=
  ∃ v, e = .returned v ∧ Below w.heap.size w w' ∧ ((mayC l ∧ OwnBytes w' w.heap.size v (callsB l)) ∨ (¬ mayC l ∧ v = .slice none 0 0))

theorem callB_len {c : CEnt} (hm : c.may) (ho : c.ok) : (callB c).length ≤ 800 := by
  have h0 := (putU_len c.n.toNat).2
  have h1 := (putU_len c.fn.toNat).2
  have h2 := (putU_len c.pos.toNat).2
  have h3 := (putU_len c.args.length).2
  have h4 := vals_len c.args ho.2.2.2.2
  have h5 := (putU_len (hasN c.has)).2
  have h6 := (putS_len ho.2.2.2.1.1 ho.2.2.2.1.2).2
  have h7 := hm.2.2.2.2.2.2.1
  simp only [callB, valsB, List.length_append]
  omega

theorem flatC_len : ∀ l : List CEnt, (∀ c ∈ l, c.may ∧ c.ok) → (flatC l).length ≤ 800 * l.length
  | [], _ => by simp [flatC]
  | c :: l, h => by
    have h1 := callB_len (h c (by simp)).1 (h c (by simp)).2
    have h2 := flatC_len l (fun x hx => h x (by simp [hx]))
    simp only [flatC, List.map_cons, List.flatten_cons, List.length_append, List.length_cons] at *
    omega

theorem flatC_app (a b : List CEnt) : flatC (a ++ b) = flatC a ++ flatC b := by simp [flatC]

theorem mayC_all {l : List CEnt} (h : mayC l) : ∀ c ∈ l, c.may := by
  intro c hc
  obtain ⟨i, hi⟩ := List.mem_iff_getElem?.1 hc
  exact (h.1 i (List.getElem?_eq_some_iff.1 hi).1 c hi).1

def EncCJ (l : List CEnt) (w w' : World) (v : Value) (k : Nat) : Prop :=
  k ≤ l.length ∧ OwnBytes w' w.heap.size v (putU l.length ++ flatC (l.take k)) ∧ Below w.heap.size w w'

def EncCI (B : Nat) (L : List UInt8) (ns : List Nat) (X : Nat) (cs : Array Value) (w w' : World) (v : Value) (j : Nat) : Prop :=
  j ≤ 3 ∧ OwnBytes w' B v (L ++ ((ns.take j).map putU).flatten) ∧ Below w.heap.size w w' ∧ Blk w' X cs 82 ∧ ¬ OwnB v X


set_option maxRecDepth 100000 in
set_option maxHeartbeats 4000000 in
theorem encCalls_any (v : Value) (l : List CEnt) (w : World) (hl : IsCalls w v l) : Calls Try.prog 38 #[v] w (EncCEnd l w) := by
  have HI := Lib.hid hl
  have hl' := hl
  obtain ⟨a, cap, rfl, h1, h2⟩ := hl.slice
  clear hl
  by_cases hm : mayC l
  · have hl8 := hm.2
    have HM := Lib.hid hm
    clear hm
    go_enter Try.func38, Try.ntmps38
    go_wp2_with fail
    refine (mayCalls_any _ l w hl').mono ?_
    rintro x w1 ⟨r, rfl, hr, hb⟩
    obtain rfl : r = true := hr.2 HM.out
    clear hr hl'
    go_wp2_with fail
    refine (putU_any _ [] l.length (by omega) w.heap.size w1 (OwnBytes.nil _ _) (by simp) hb.size).mono ?_
    rintro x w2 ⟨v0, rfl, ho, hk, _⟩
    replace hb := below_next hb (keeps_nil hk rfl)
    rw [List.nil_append] at ho
    clear hk
    go_wp2_with fail
    refine wp_loop_r (fun a' w' => ∃ (v : Value) (k : Nat), a' = { tmps := #[.slice a l.length cap, slot a' 1, .slice none 0 0, v, slot a' 4, slot a' 5, slot a' 6, slot a' 7, slot a' 8, slot a' 9, slot a' 10, slot a' 11, slot a' 12, slot a' 13, slot a' 14, slot a' 15, .slice a l.length cap, .int .i64 l.length, .int .i64 k, slot a' 19, slot a' 20, slot a' 21, slot a' 22, slot a' 23, slot a' 24, slot a' 25, slot a' 26, slot a' 27, slot a' 28, slot a' 29, slot a' 30, slot a' 31, slot a' 32, slot a' 33, slot a' 34, slot a' 35, slot a' 36, slot a' 37, slot a' 38, slot a' 39, slot a' 40, slot a' 41, slot a' 42, slot a' 43, slot a' 44, slot a' 45, slot a' 46, slot a' 47, slot a' 48, slot a' 49], defers := [] } ∧ EncCJ l w w' v k) (fun a' _ => (l.length - (intOf (a'.tmps.getD 18 undef)).toNat)) ?_ ?_
    · exact ⟨v0, 0, rfl, by omega, by simpa [flatC] using ho, hb⟩
    · clear ho hb
      rintro R a' w1 ⟨v, k, hfr, hJ⟩ HR
      obtain ⟨f, hf⟩ : ∃ f, f = slot a' := ⟨_, rfl⟩
      rw [← hf] at hfr
      clear hf
      subst hfr
      obtain ⟨hk, ho, hb⟩ := hJ
      by_cases hkl : k < l.length
      · obtain ⟨c, he⟩ : ∃ e, l[k]? = some e := ⟨_, List.getElem?_eq_getElem hkl⟩
        have hi := HI.out.below (hb.mono (Nat.le_refl _))
        obtain ⟨b, off, u, rfl, hlt, ⟨c0, c1, c2, c3, c4, c5⟩, hu, hok⟩ := hi.get he
        obtain ⟨b', off', u', hbo, -, ⟨-, -, -, d3, -, -⟩, hu', -⟩ := HI.out.get he
        injection hbo with hbo
        injection hbo with hbo1 hbo2
        subst hbo1 hbo2
        have hblt : b < w.heap.size := World.block_lt_of_cell? w _ d3
        have huu : u' = u := by
          have g := hb.cell (p := ⟨b, off + k * 6 + 3, none⟩) hblt
          rw [c3, d3] at g
          injection g with g
          exact g.symm
        subst huu
        have HU := Lib.hid hu'
        obtain ⟨au, capu, rfl, _, _, hub⟩ := id hu'
        have hub' : c.args ≠ [] → ∀ a, au = some a → a.block < w.heap.size := by
          intro hne a ha
          obtain ⟨x, xs, hxs⟩ := List.exists_cons_of_ne_nil hne
          obtain ⟨b1, off1, g1, g2, _⟩ := hub 0 x (by rw [hxs]; rfl)
          rw [ha] at g1
          injection g1 with g1
          rw [g1]
          exact g2
        have hcm := mayC_all HM.out c (List.mem_of_getElem? he)
        obtain ⟨m1, m2, m3, m4, m5, m6, m7, m8, m9⟩ := hcm
        obtain ⟨-, -, -, ⟨a1, a2⟩, hao⟩ := id hok
        have HAM := Lib.hid m8
        have HAO := Lib.hid hao
        have HUB := Lib.hid hub'
        have hlen : (putU l.length ++ flatC (l.take k)).length ≤ 10000 := by
          have g1 := (putU_len l.length).2
          have g2 := flatC_len (l.take k) (fun x hx => ⟨mayC_all HM.out x (List.mem_of_mem_take hx), by
            obtain ⟨us, _, _, _, h⟩ := HI.out
            exact h x (List.mem_of_mem_take hx)⟩)
          have g3 : (l.take k).length ≤ 8 := by rw [List.length_take]; omega
          rw [List.length_append]
          omega
        obtain ⟨n0, hn0⟩ : ∃ n : Nat, c.n = n := ⟨c.n.toNat, by omega⟩
        obtain ⟨n1, hn1⟩ : ∃ n : Nat, c.fn = n := ⟨c.fn.toNat, by omega⟩
        obtain ⟨n2, hn2⟩ : ∃ n : Nat, c.pos = n := ⟨c.pos.toNat, by omega⟩
        have HE := Lib.hid he
        have hcb : callB c = putU n0 ++ putU n1 ++ putU n2 ++ valsB c.args ++ putU (hasN c.has) ++ putS c.ans := by rw [callB, hn0, hn1, hn2]; rfl
        rw [hn0] at c0 m1 m2
        rw [hn1] at c1 m3 m4
        rw [hn2] at c2 m5 m6
        generalize hL : putU l.length ++ flatC (l.take k) = L at ho hlen
        have HL := Lib.hid hL
        clear hL hi hu hok he m8 m9 hao hn0 hn1 hn2 d3 hu' hub hub'
        have i0 : ∀ w, (Instr.index 73 (.agg #[.int .i64 n0, .int .i64 n1, .int .i64 n2]) (.int .i64 0)).run Try.prog w = .ok (.int .i64 n0) w := fun _ => by kernel_rfl
        have i1 : ∀ w, (Instr.index 73 (.agg #[.int .i64 n0, .int .i64 n1, .int .i64 n2]) (.int .i64 1)).run Try.prog w = .ok (.int .i64 n1) w := fun _ => by kernel_rfl
        have i2 : ∀ w, (Instr.index 73 (.agg #[.int .i64 n0, .int .i64 n1, .int .i64 n2]) (.int .i64 2)).run Try.prog w = .ok (.int .i64 n2) w := fun _ => by kernel_rfl
        cases hh : c.has with
        | true =>
          rw [hh] at c4 hcb
          have HCB := Lib.hid hcb
          clear hh hcb
          go_wp2_with fail
          have HRO := HR
          have HMO := HM
          clear HR HM
          have hbx0 := Blk.new w1 #[.int .i64 n0, .int .i64 n1, .int .i64 n2, .slice au c.args.length capu, .bool true, .int .i64 c.ans] 82
          obtain ⟨X, hX⟩ : ∃ X, X = w1.heap.size := ⟨_, rfl⟩
          rw [← hX] at hbx0 ⊢
          have hnx0 : ¬ OwnB v X := fun h => by have := (own_lt ho h).2; omega
          have ho0 := ho.below ((Below.refl w1.heap.size w1).alloc (Nat.le_refl _) (.cells #[.int .i64 n0, .int .i64 n1, .int .i64 n2, .slice au c.args.length capu, .bool true, .int .i64 c.ans] 82))
          have hb0 := hb.alloc hb.size (.cells #[.int .i64 n0, .int .i64 n1, .int .i64 n2, .slice au c.args.length capu, .bool true, .int .i64 c.ans] 82)
          refine wp_loop_r (fun a' w' => ∃ (v : Value) (j : Nat), a' = { tmps := #[.slice (some ⟨b, off, none⟩) l.length cap, slot a' 1, .slice none 0 0, v, slot a' 4, .pointer (some ⟨X, 0, none⟩), .int .u64 (hasN true), slot a' 7, slot a' 8, slot a' 9, slot a' 10, slot a' 11, slot a' 12, slot a' 13, slot a' 14, slot a' 15, .slice (some ⟨b, off, none⟩) l.length cap, .int .i64 l.length, .int .i64 k, slot a' 19, slot a' 20, slot a' 21, slot a' 22, slot a' 23, slot a' 24, slot a' 25, slot a' 26, slot a' 27, slot a' 28, slot a' 29, .agg #[.int .i64 n0, .int .i64 n1, .int .i64 n2], .int .i64 j, slot a' 32, slot a' 33, slot a' 34, slot a' 35, slot a' 36, slot a' 37, slot a' 38, slot a' 39, slot a' 40, slot a' 41, slot a' 42, slot a' 43, slot a' 44, slot a' 45, slot a' 46, slot a' 47, slot a' 48, slot a' 49], defers := [] } ∧ EncCI w.heap.size L [n0, n1, n2] X #[.int .i64 n0, .int .i64 n1, .int .i64 n2, .slice au c.args.length capu, .bool true, .int .i64 c.ans] w w' v j) (fun a' _ => (4 - (intOf (a'.tmps.getD 31 undef)).toNat)) ?_ ?_
          · exact ⟨v, 0, rfl, by omega, by simpa using ho0, hb0, hbx0, hnx0⟩
          · clear hbx0 hnx0 ho0 hb0 ho hb hX c0 c1 c2 c3 c4 c5
            rintro R a' w1 ⟨v, j, hfr, hJ⟩ HR
            obtain ⟨f, hf⟩ : ∃ f, f = slot a' := ⟨_, rfl⟩
            rw [← hf] at hfr
            clear hf
            subst hfr
            obtain ⟨hj, ho, hb, hbx, hnx⟩ := hJ
            have hlj : (L ++ (([n0, n1, n2].take j).map putU).flatten).length ≤ 20000 := by
              have g0 := (putU_len n0).2
              have g1 := (putU_len n1).2
              have g2 := (putU_len n2).2
              rcases j with _ | _ | _ | _ | j <;> simp <;> omega
            generalize hLJ : L ++ (([n0, n1, n2].take j).map putU).flatten = LJ at ho hlj
            have HLJ := Lib.hid hLJ
            clear hLJ
            by_cases hj3 : j < 3
            · obtain rfl | rfl | rfl : j = 0 ∨ j = 1 ∨ j = 2 := by omega
              · skip
                go_wp2_with fail
                refine (putU_any v LJ n0 (by omega) w.heap.size _ ho (by omega) hb.size).mono ?_
                rintro x w2 ⟨v2, rfl, ho2, hk2, hs2⟩
                have hb2 := hb.trans (hk2.below hb.size (fun i hi => (own_lt ho hi).1))
                have hbx2 := hbx.keeps hk2 hnx
                have hnx2 : ¬ OwnB v2 X := fun h => (hs2 X h).elim hnx (fun g => by have := hbx.lt; omega)
                go_wp2_with fail
                refine HR.out _ _ ⟨v2, 0 + 1, rfl, by omega, ?_, hb2, hbx2, hnx2⟩ ?_
                · rw [← HLJ.out] at ho2
                  simpa using ho2
                · simp [intOf]
              · skip
                go_wp2_with fail
                refine (putU_any v LJ n1 (by omega) w.heap.size _ ho (by omega) hb.size).mono ?_
                rintro x w2 ⟨v2, rfl, ho2, hk2, hs2⟩
                have hb2 := hb.trans (hk2.below hb.size (fun i hi => (own_lt ho hi).1))
                have hbx2 := hbx.keeps hk2 hnx
                have hnx2 : ¬ OwnB v2 X := fun h => (hs2 X h).elim hnx (fun g => by have := hbx.lt; omega)
                go_wp2_with fail
                refine HR.out _ _ ⟨v2, 1 + 1, rfl, by omega, ?_, hb2, hbx2, hnx2⟩ ?_
                · rw [← HLJ.out] at ho2
                  simpa using ho2
                · simp [intOf]
              · skip
                go_wp2_with fail
                refine (putU_any v LJ n2 (by omega) w.heap.size _ ho (by omega) hb.size).mono ?_
                rintro x w2 ⟨v2, rfl, ho2, hk2, hs2⟩
                have hb2 := hb.trans (hk2.below hb.size (fun i hi => (own_lt ho hi).1))
                have hbx2 := hbx.keeps hk2 hnx
                have hnx2 : ¬ OwnB v2 X := fun h => (hs2 X h).elim hnx (fun g => by have := hbx.lt; omega)
                go_wp2_with fail
                refine HR.out _ _ ⟨v2, 2 + 1, rfl, by omega, ?_, hb2, hbx2, hnx2⟩ ?_
                · rw [← HLJ.out] at ho2
                  simpa using ho2
                · simp [intOf]
            · obtain rfl : j = 3 := by omega
              go_wp2_with fail
              have hbxd := hbx.drew
              obtain ⟨⟨x0, x1, x2, x3, x4, x5⟩, -⟩ := hbxd.six
              refine wp_region_seq (fun w' => w'.cell? ⟨X, 3, none⟩ = some (.slice au c.args.length capu) ∧ w'.cell? ⟨X, 5, none⟩ = some (.int .i64 c.ans)) [(0, true), (1, true), (2, true), (4, true), (6, true), (7, true), (3, false), (5, false), (8, false), (9, true)] (by kernel_rfl) (by kernel_rfl) ⟨x3, x5⟩ ?_
              clear x0 x1 x2 x3 x4 x5
              iterate 6 (first | (apply seg_skip rfl rfl; simp only [Act.put, List.setIfInBounds_toArray, List.set_cons_succ, List.set_cons_zero]) | (apply seg_pure rfl rfl rfl; · (rintro w' ⟨t0, t1⟩; go_wp2; exact ⟨rfl, rfl, rfl⟩)))
              refine seg_loud rfl rfl ?_
              go_wp2_with fail
              refine (putVals_any v LJ _ c.args w.heap.size _ (ho.keeps ((Keeps.refl (fun _ => False) w1).drew) (fun _ _ h => h)) (by omega) hb.size (HU.out.below hb.drew) HAM.out HAO.out (by omega) ?_).mono ?_
              · intro hne i hi a n cp he
                have := (own_lt ho hi).1
                injection he with e1 e2 e3
                have := HUB.out hne a e1
                omega
              rintro x w2 ⟨v2, rfl, ho2, hk2, hs2⟩
              have hbx2 := hbxd.keeps hk2 hnx
              have hnx2 : ¬ OwnB v2 X := fun h => (hs2 X h).elim hnx (fun g => by have := hbx.lt; simp at g; omega)
              have hb2 : Below w.heap.size w w2 := hb.drew.trans (hk2.below hb.size (fun i hi => (own_lt ho hi).1))
              have hl2 : (LJ ++ valsB c.args).length ≤ 30000 := by
                have g1 := vals_len c.args HAO.out
                have g2 := (putU_len c.args.length).2
                simp only [valsB, List.length_append]
                omega
              go_wp2_with fail
              refine ⟨⟨hbx2.cell 3, hbx2.cell 5⟩, ?_⟩
              refine seg_loud rfl rfl ?_
              go_wp2_with fail
              refine (putU_any v2 _ (hasN true) (by simp [hasN]) w.heap.size w2 ho2 (by omega) hb2.size).mono ?_
              rintro x w3 ⟨v3, rfl, ho3, hk3, hs3⟩
              have hbx3 := hbx2.keeps hk3 hnx2
              have hnx3 : ¬ OwnB v3 X := fun h => (hs3 X h).elim hnx2 (fun g => by have := hbx2.lt; omega)
              have hb3 : Below w.heap.size w w3 := hb2.trans (hk3.below hb2.size (fun i hi => (own_lt ho2 hi).1))
              have hn3 := (putU_len (hasN true)).2
              go_wp2_with fail
              refine ⟨⟨hbx3.cell 3, hbx3.cell 5⟩, ?_⟩
              refine seg_loud rfl rfl ?_
              go_wp2_with fail
              refine (putS_any v3 _ c.ans a1 a2 w.heap.size w3 ho3 (by simp only [List.length_append] at *; omega) hb3.size).mono ?_
              rintro x w4 ⟨v4, rfl, ho4, hk4, hs4⟩
              have hbx4 := hbx3.keeps hk4 hnx3
              have hb4 : Below w.heap.size w w4 := hb3.trans (hk4.below hb3.size (fun i hi => (own_lt ho3 hi).1))
              clear hk2 hs2 hk3 hs3 hk4 hs4 ho ho2 ho3 hb hb2 hb3 hbx hbx2 hbx3 hnx hnx2 hnx3 hbxd
              go_wp2_with fail
              refine ⟨⟨hbx4.cell 3, hbx4.cell 5⟩, ?_⟩
              iterate 1 (first | (apply seg_skip rfl rfl; simp only [Act.put, List.setIfInBounds_toArray, List.set_cons_succ, List.set_cons_zero]) | (apply seg_pure rfl rfl rfl; · (rintro w' ⟨t0, t1⟩; go_wp2; exact ⟨rfl, rfl, rfl⟩)))
              refine seg_nil ?_
              refine NoPanic.normal ?_
              go_wp2_with fail
              refine HRO.out _ _ ⟨v4, k + 1, rfl, by omega, ?_, hb4⟩ ?_
              · have e1 : putU l.length ++ flatC (l.take (k + 1)) = LJ ++ valsB c.args ++ putU (hasN true) ++ putS c.ans := by
                  rw [← HLJ.out, List.take_add_one, HE.out, flatC_app, ← List.append_assoc, HL.out]
                  rw [show [n0, n1, n2].take 3 = [n0, n1, n2] from rfl]
                  simp [flatC, HCB.out]
                rw [e1]
                exact ho4
              · simp [intOf]
                omega
        | false =>
          rw [hh] at c4 hcb
          have HCB := Lib.hid hcb
          clear hh hcb
          go_wp2_with fail
          have HRO := HR
          have HMO := HM
          clear HR HM
          have hbx0 := Blk.new w1 #[.int .i64 n0, .int .i64 n1, .int .i64 n2, .slice au c.args.length capu, .bool false, .int .i64 c.ans] 82
          obtain ⟨X, hX⟩ : ∃ X, X = w1.heap.size := ⟨_, rfl⟩
          rw [← hX] at hbx0 ⊢
          have hnx0 : ¬ OwnB v X := fun h => by have := (own_lt ho h).2; omega
          have ho0 := ho.below ((Below.refl w1.heap.size w1).alloc (Nat.le_refl _) (.cells #[.int .i64 n0, .int .i64 n1, .int .i64 n2, .slice au c.args.length capu, .bool false, .int .i64 c.ans] 82))
          have hb0 := hb.alloc hb.size (.cells #[.int .i64 n0, .int .i64 n1, .int .i64 n2, .slice au c.args.length capu, .bool false, .int .i64 c.ans] 82)
          refine wp_loop_r (fun a' w' => ∃ (v : Value) (j : Nat), a' = { tmps := #[.slice (some ⟨b, off, none⟩) l.length cap, slot a' 1, .slice none 0 0, v, slot a' 4, .pointer (some ⟨X, 0, none⟩), .int .u64 (hasN false), slot a' 7, slot a' 8, slot a' 9, slot a' 10, slot a' 11, slot a' 12, slot a' 13, slot a' 14, slot a' 15, .slice (some ⟨b, off, none⟩) l.length cap, .int .i64 l.length, .int .i64 k, slot a' 19, slot a' 20, slot a' 21, slot a' 22, slot a' 23, slot a' 24, slot a' 25, slot a' 26, slot a' 27, slot a' 28, slot a' 29, .agg #[.int .i64 n0, .int .i64 n1, .int .i64 n2], .int .i64 j, slot a' 32, slot a' 33, slot a' 34, slot a' 35, slot a' 36, slot a' 37, slot a' 38, slot a' 39, slot a' 40, slot a' 41, slot a' 42, slot a' 43, slot a' 44, slot a' 45, slot a' 46, slot a' 47, slot a' 48, slot a' 49], defers := [] } ∧ EncCI w.heap.size L [n0, n1, n2] X #[.int .i64 n0, .int .i64 n1, .int .i64 n2, .slice au c.args.length capu, .bool false, .int .i64 c.ans] w w' v j) (fun a' _ => (4 - (intOf (a'.tmps.getD 31 undef)).toNat)) ?_ ?_
          · exact ⟨v, 0, rfl, by omega, by simpa using ho0, hb0, hbx0, hnx0⟩
          · clear hbx0 hnx0 ho0 hb0 ho hb hX c0 c1 c2 c3 c4 c5
            rintro R a' w1 ⟨v, j, hfr, hJ⟩ HR
            obtain ⟨f, hf⟩ : ∃ f, f = slot a' := ⟨_, rfl⟩
            rw [← hf] at hfr
            clear hf
            subst hfr
            obtain ⟨hj, ho, hb, hbx, hnx⟩ := hJ
            have hlj : (L ++ (([n0, n1, n2].take j).map putU).flatten).length ≤ 20000 := by
              have g0 := (putU_len n0).2
              have g1 := (putU_len n1).2
              have g2 := (putU_len n2).2
              rcases j with _ | _ | _ | _ | j <;> simp <;> omega
            generalize hLJ : L ++ (([n0, n1, n2].take j).map putU).flatten = LJ at ho hlj
            have HLJ := Lib.hid hLJ
            clear hLJ
            by_cases hj3 : j < 3
            · obtain rfl | rfl | rfl : j = 0 ∨ j = 1 ∨ j = 2 := by omega
              · skip
                go_wp2_with fail
                refine (putU_any v LJ n0 (by omega) w.heap.size _ ho (by omega) hb.size).mono ?_
                rintro x w2 ⟨v2, rfl, ho2, hk2, hs2⟩
                have hb2 := hb.trans (hk2.below hb.size (fun i hi => (own_lt ho hi).1))
                have hbx2 := hbx.keeps hk2 hnx
                have hnx2 : ¬ OwnB v2 X := fun h => (hs2 X h).elim hnx (fun g => by have := hbx.lt; omega)
                go_wp2_with fail
                refine HR.out _ _ ⟨v2, 0 + 1, rfl, by omega, ?_, hb2, hbx2, hnx2⟩ ?_
                · rw [← HLJ.out] at ho2
                  simpa using ho2
                · simp [intOf]
              · skip
                go_wp2_with fail
                refine (putU_any v LJ n1 (by omega) w.heap.size _ ho (by omega) hb.size).mono ?_
                rintro x w2 ⟨v2, rfl, ho2, hk2, hs2⟩
                have hb2 := hb.trans (hk2.below hb.size (fun i hi => (own_lt ho hi).1))
                have hbx2 := hbx.keeps hk2 hnx
                have hnx2 : ¬ OwnB v2 X := fun h => (hs2 X h).elim hnx (fun g => by have := hbx.lt; omega)
                go_wp2_with fail
                refine HR.out _ _ ⟨v2, 1 + 1, rfl, by omega, ?_, hb2, hbx2, hnx2⟩ ?_
                · rw [← HLJ.out] at ho2
                  simpa using ho2
                · simp [intOf]
              · skip
                go_wp2_with fail
                refine (putU_any v LJ n2 (by omega) w.heap.size _ ho (by omega) hb.size).mono ?_
                rintro x w2 ⟨v2, rfl, ho2, hk2, hs2⟩
                have hb2 := hb.trans (hk2.below hb.size (fun i hi => (own_lt ho hi).1))
                have hbx2 := hbx.keeps hk2 hnx
                have hnx2 : ¬ OwnB v2 X := fun h => (hs2 X h).elim hnx (fun g => by have := hbx.lt; omega)
                go_wp2_with fail
                refine HR.out _ _ ⟨v2, 2 + 1, rfl, by omega, ?_, hb2, hbx2, hnx2⟩ ?_
                · rw [← HLJ.out] at ho2
                  simpa using ho2
                · simp [intOf]
            · obtain rfl : j = 3 := by omega
              go_wp2_with fail
              have hbxd := hbx.drew
              obtain ⟨⟨x0, x1, x2, x3, x4, x5⟩, -⟩ := hbxd.six
              refine wp_region_seq (fun w' => w'.cell? ⟨X, 3, none⟩ = some (.slice au c.args.length capu) ∧ w'.cell? ⟨X, 5, none⟩ = some (.int .i64 c.ans)) [(0, true), (1, true), (2, true), (4, true), (6, true), (7, true), (3, false), (5, false), (8, false), (9, true)] (by kernel_rfl) (by kernel_rfl) ⟨x3, x5⟩ ?_
              clear x0 x1 x2 x3 x4 x5
              iterate 6 (first | (apply seg_skip rfl rfl; simp only [Act.put, List.setIfInBounds_toArray, List.set_cons_succ, List.set_cons_zero]) | (apply seg_pure rfl rfl rfl; · (rintro w' ⟨t0, t1⟩; go_wp2; exact ⟨rfl, rfl, rfl⟩)))
              refine seg_loud rfl rfl ?_
              go_wp2_with fail
              refine (putVals_any v LJ _ c.args w.heap.size _ (ho.keeps ((Keeps.refl (fun _ => False) w1).drew) (fun _ _ h => h)) (by omega) hb.size (HU.out.below hb.drew) HAM.out HAO.out (by omega) ?_).mono ?_
              · intro hne i hi a n cp he
                have := (own_lt ho hi).1
                injection he with e1 e2 e3
                have := HUB.out hne a e1
                omega
              rintro x w2 ⟨v2, rfl, ho2, hk2, hs2⟩
              have hbx2 := hbxd.keeps hk2 hnx
              have hnx2 : ¬ OwnB v2 X := fun h => (hs2 X h).elim hnx (fun g => by have := hbx.lt; simp at g; omega)
              have hb2 : Below w.heap.size w w2 := hb.drew.trans (hk2.below hb.size (fun i hi => (own_lt ho hi).1))
              have hl2 : (LJ ++ valsB c.args).length ≤ 30000 := by
                have g1 := vals_len c.args HAO.out
                have g2 := (putU_len c.args.length).2
                simp only [valsB, List.length_append]
                omega
              go_wp2_with fail
              refine ⟨⟨hbx2.cell 3, hbx2.cell 5⟩, ?_⟩
              refine seg_loud rfl rfl ?_
              go_wp2_with fail
              refine (putU_any v2 _ (hasN false) (by simp [hasN]) w.heap.size w2 ho2 (by omega) hb2.size).mono ?_
              rintro x w3 ⟨v3, rfl, ho3, hk3, hs3⟩
              have hbx3 := hbx2.keeps hk3 hnx2
              have hnx3 : ¬ OwnB v3 X := fun h => (hs3 X h).elim hnx2 (fun g => by have := hbx2.lt; omega)
              have hb3 : Below w.heap.size w w3 := hb2.trans (hk3.below hb2.size (fun i hi => (own_lt ho2 hi).1))
              have hn3 := (putU_len (hasN false)).2
              go_wp2_with fail
              refine ⟨⟨hbx3.cell 3, hbx3.cell 5⟩, ?_⟩
              refine seg_loud rfl rfl ?_
              go_wp2_with fail
              refine (putS_any v3 _ c.ans a1 a2 w.heap.size w3 ho3 (by simp only [List.length_append] at *; omega) hb3.size).mono ?_
              rintro x w4 ⟨v4, rfl, ho4, hk4, hs4⟩
              have hbx4 := hbx3.keeps hk4 hnx3
              have hb4 : Below w.heap.size w w4 := hb3.trans (hk4.below hb3.size (fun i hi => (own_lt ho3 hi).1))
              clear hk2 hs2 hk3 hs3 hk4 hs4 ho ho2 ho3 hb hb2 hb3 hbx hbx2 hbx3 hnx hnx2 hnx3 hbxd
              go_wp2_with fail
              refine ⟨⟨hbx4.cell 3, hbx4.cell 5⟩, ?_⟩
              iterate 1 (first | (apply seg_skip rfl rfl; simp only [Act.put, List.setIfInBounds_toArray, List.set_cons_succ, List.set_cons_zero]) | (apply seg_pure rfl rfl rfl; · (rintro w' ⟨t0, t1⟩; go_wp2; exact ⟨rfl, rfl, rfl⟩)))
              refine seg_nil ?_
              refine NoPanic.normal ?_
              go_wp2_with fail
              refine HRO.out _ _ ⟨v4, k + 1, rfl, by omega, ?_, hb4⟩ ?_
              · have e1 : putU l.length ++ flatC (l.take (k + 1)) = LJ ++ valsB c.args ++ putU (hasN false) ++ putS c.ans := by
                  rw [← HLJ.out, List.take_add_one, HE.out, flatC_app, ← List.append_assoc, HL.out]
                  rw [show [n0, n1, n2].take 3 = [n0, n1, n2] from rfl]
                  simp [flatC, HCB.out]
                rw [e1]
                exact ho4
              · simp [intOf]
                omega
      · obtain rfl : k = l.length := by omega
        go_wp2_with fail
        go_ret
        refine ⟨v, rfl, hb, .inl ⟨HM.out, ?_⟩⟩
        rw [List.take_length] at ho
        exact ho
  · have HM := Lib.hid hm
    clear hm
    go_enter Try.func38, Try.ntmps38
    go_wp2_with fail
    refine (mayCalls_any _ l w hl').mono ?_
    rintro x w1 ⟨r, rfl, hr, hb⟩
    have hr' : r = false := by
      cases r
      · rfl
      · exact absurd (hr.1 rfl) HM.out
    subst hr'
    clear hr hl'
    go_wp2_with fail
    go_ret
    exact ⟨_, rfl, hb, .inr ⟨HM.out, rfl⟩⟩
end Go.Proofs.Ytbgeijdfkdfdoaa
