/-
  Walk of dir.Encode: a list's bytes.
-/
import Derived.Test.YtbgeijdfkdfdoaaDirC
namespace Go.Proofs.Ytbgeijdfkdfdoaa
open Go.RowKit

/-- An entry's bytes. -/
def entB (e : DEnt) : List UInt8 := putU e.name.length ++ e.name ++ putU e.len.toNat ++ putU e.pos.toNat ++ putU e.sp.toNat

/-- A list's bytes. -/
def dirB (l : List DEnt) : List UInt8 := putU l.length ++ (l.map entB).flatten

def EncEnd (l : List DEnt) (w : World) (e : Ending) (w' : World) : Prop :=
  ∃ v, e = .returned v ∧ Below w.heap.size w w' ∧ ((mayL l ∧ OwnBytes w' w.heap.size v (dirB l)) ∨ (¬ mayL l ∧ v = .slice none 0 0))

def EncJ (l : List DEnt) (w w' : World) (v : Value) (k : Nat) : Prop :=
  k ≤ l.length ∧ OwnBytes w' w.heap.size v (putU l.length ++ ((l.take k).map entB).flatten) ∧ Below w.heap.size w w'

theorem entB_len (e : DEnt) (h : e.name.length ≤ 20) : (entB e).length ≤ 60 := by
  have h0 := (putU_len e.name.length).2
  have h1 := (putU_len e.len.toNat).2
  have h2 := (putU_len e.pos.toNat).2
  have h3 := (putU_len e.sp.toNat).2
  simp only [entB, List.length_append]
  omega

theorem flat_len : ∀ l : List DEnt, (∀ e ∈ l, e.name.length ≤ 20) → ((l.map entB).flatten).length ≤ 60 * l.length
  | [], _ => by simp
  | e :: l, h => by
    have h1 := entB_len e (h e (by simp))
    have h2 := flat_len l (fun x hx => h x (by simp [hx]))
    simp only [List.map_cons, List.flatten_cons, List.length_append, List.length_cons]
    omega

def EncI (B : Nat) (L : List UInt8) (ns : List Nat) (w w' : World) (v : Value) (j : Nat) : Prop :=
  j ≤ 3 ∧ OwnBytes w' B v (L ++ ((ns.take j).map putU).flatten) ∧ Below w.heap.size w w'

/-- An entry in a block of its own. -/
def Box (w : World) (X : Nat) (e : DEnt) : Prop :=
  w.cell? ⟨X, 0, none⟩ = some (.string (bs e.name)) ∧ w.cell? ⟨X, 1, none⟩ = some (.int .i64 e.len) ∧ w.cell? ⟨X, 2, none⟩ = some (.int .i64 e.pos) ∧ w.cell? ⟨X, 3, none⟩ = some (.int .i64 e.sp)

theorem Box.keeps {w w' : World} {X : Nat} {e : DEnt} {S : Nat → Prop} (h : Box w X e) (hk : Keeps S w w') (hs : ¬ S X) : Box w' X e := by
  have hlt : X < w.heap.size := World.block_lt_of_cell? w _ h.1
  have hc : ∀ i, w'.cell? ⟨X, i, none⟩ = w.cell? ⟨X, i, none⟩ := fun i => World.cell?_of_block (w := w) (a := ⟨X, i, none⟩) (hk.block X hlt hs)
  exact ⟨by rw [hc]; exact h.1, by rw [hc]; exact h.2.1, by rw [hc]; exact h.2.2.1, by rw [hc]; exact h.2.2.2⟩


set_option maxRecDepth 100000 in
set_option maxHeartbeats 2000000 in
theorem encode_any (v : Value) (l : List DEnt) (w : World) (hl : IsEnts w v l) : Calls Try.prog 28 #[v] w (EncEnd l w) := by
  have HI := Lib.hid hl
  have hl' := hl
  obtain ⟨a, cap, rfl, h1, h2, _⟩ := hl
  unfold maxLen at h2
  by_cases hm : mayL l
  · have hl32 := hm.2
    have HM := Lib.hid hm
    clear hm
    go_enter Try.func28, Try.ntmps28
    go_wp2_with fail
    refine (mayList_any _ l w hl').mono ?_
    rintro x w1 ⟨r, rfl, hr, hb⟩
    obtain rfl : r = true := hr.2 HM.out
    clear hr hl'
    go_wp2_with fail
    refine (putU_any _ [] l.length (by omega) w.heap.size w1 (OwnBytes.nil _ _) (by simp) hb.size).mono ?_
    rintro x w2 ⟨v0, rfl, ho, hk, _⟩
    replace hb := below_next hb (keeps_nil hk rfl)
    rw [List.nil_append] at ho
    clear hk
    go_wp2_with fail
    refine wp_loop_r (fun a' w' => ∃ (v : Value) (k : Nat), a' = { tmps := #[.slice a l.length cap, undef, .slice none 0 0, v, slot a' 4, slot a' 5, slot a' 6, slot a' 7, slot a' 8, slot a' 9, slot a' 10, slot a' 11, slot a' 12, slot a' 13, slot a' 14, .slice a l.length cap, .int .i64 l.length, .int .i64 k, slot a' 18, slot a' 19, slot a' 20, slot a' 21, slot a' 22, slot a' 23, slot a' 24, slot a' 25, slot a' 26, slot a' 27, slot a' 28, slot a' 29, slot a' 30, slot a' 31, slot a' 32, slot a' 33, slot a' 34, slot a' 35, slot a' 36, slot a' 37, slot a' 38, slot a' 39, slot a' 40, slot a' 41, slot a' 42, slot a' 43, slot a' 44, slot a' 45, slot a' 46, slot a' 47, slot a' 48], defers := [] } ∧ EncJ l w w' v k) (fun a' _ => (l.length - (intOf (a'.tmps.getD 17 undef)).toNat)) ?_ ?_
    · exact ⟨v0, 0, rfl, by omega, by simpa using ho, hb⟩
    · clear ho hb
      rintro R a' w1 ⟨v, k, hfr, hJ⟩ HR
      obtain ⟨f, hf⟩ : ∃ f, f = slot a' := ⟨_, rfl⟩
      rw [← hf] at hfr
      clear hf
      subst hfr
      obtain ⟨hk, ho, hb⟩ := hJ
      by_cases hkl : k < l.length
      · obtain ⟨e, he⟩ : ∃ e, l[k]? = some e := ⟨_, List.getElem?_eq_getElem hkl⟩
        have hmay := (HM.out.1 k hkl e he).1
        obtain ⟨m1, m2, m3, m4, m5, m6, m7, m8⟩ := hmay
        obtain ⟨a', cap', hv, _, _, hcells⟩ := HI.out.below (hb.mono (Nat.le_refl _))
        injection hv with e1 e2 e3
        subst e1 e3
        obtain ⟨ho', b, off, rfl, c0, c1, c2, c3⟩ := hcells k e he
        have HE := Lib.hid he
        have M5 := Lib.hid m5
        have m8' := m8
        clear hcells e2 he m5 m8
        have hX : ∀ i, OwnB v i → i ≠ w1.heap.size := fun i hi => by have := (own_lt ho hi).2; omega
        have hlen : (putU l.length ++ ((l.take k).map entB).flatten).length ≤ 100000 := by
          have g1 := (putU_len l.length).2
          have g2 := flat_len (l.take k) (fun x hx => by
            obtain ⟨i, hi⟩ := List.mem_iff_getElem?.1 (List.mem_of_mem_take hx)
            exact (HM.out.1 i (List.getElem?_eq_some_iff.1 hi).1 x hi).1.2.1)
          have g3 : (l.take k).length ≤ 32 := by rw [List.length_take]; omega
          rw [List.length_append]
          omega
        generalize hL : putU l.length ++ ((l.take k).map entB).flatten = L at ho hlen
        have HL := Lib.hid hL
        clear hL
        have hnm : (bs e.name).size ≤ 20 := by rw [bs_size]; exact m2
        go_wp2_with fail
        refine wp_region_seq (fun w' => w'.cell? ⟨w1.heap.size, 0, none⟩ = some (.string (bs e.name))) [(0, true), (1, true), (2, true), (3, true), (4, true), (6, true), (7, true), (5, false), (8, false), (9, true)] (by kernel_rfl) (by kernel_rfl) (by simp) ?_
        iterate 7 (first | (apply seg_skip rfl rfl; simp only [Act.put, List.setIfInBounds_toArray, List.set_cons_succ, List.set_cons_zero]) | (apply seg_pure rfl rfl rfl; · (rintro w' t0; go_wp2; exact ⟨rfl, rfl, rfl⟩)))
        have hbx : Box (w1.alloc (.cells #[.string (bs e.name), .int .i64 e.len, .int .i64 e.pos, .int .i64 e.sp] 52)).drew w1.heap.size e := ⟨by simp, by simp, by simp, by simp⟩
        refine seg_loud rfl rfl ?_
        go_wp2_with fail
        refine (putU_any v L (bs e.name).size (by omega) w.heap.size _ ((ho.keeps ((Keeps.refl (fun _ => False) w1).alloc _) (fun _ _ h => h)).keeps ((Keeps.refl (fun _ => False) _).drew) (fun _ _ h => h)) (by omega) (by simp; have := hb.size; omega)).mono ?_
        rintro x w2 ⟨v2, rfl, ho2, hk2, hs2⟩
        have hbx2 := hbx.keeps hk2 (fun h => hX _ h rfl)
        have HBX := Lib.hid hbx2
        clear hbx hbx2
        go_wp2_with fail
        refine ⟨HBX.out.1, ?_⟩
        refine seg_loud rfl rfl ?_
        have hn2 : (putU (bs e.name).size).length ≤ 10 := (putU_len _).2
        have hsz2 := hk2.size
        simp only [World.size_drew, World.size_alloc] at hsz2
        go_wp2_with (first | (at_builtin; refine Stop.out ?_))
        change wpList _ _ _ _ _ _
        refine wpList_str w2 rfl _ _ rfl rfl w.heap.size v2 _ e.name rfl ho2 rfl (by simp; omega) (by have := hb.size; omega) ?_
        intro v3 w3 ho3 hk3 hs3
        have hbx3 := HBX.out.keeps hk3 (fun h => by
          rcases hs2 _ h with g | g
          · exact hX _ g rfl
          · simp at g
            omega)
        have HBX3 := Lib.hid hbx3
        clear hbx3
        go_wp2_with fail
        refine ⟨HBX3.out.1, ?_⟩
        iterate 1 (first | (apply seg_skip rfl rfl; simp only [Act.put, List.setIfInBounds_toArray, List.set_cons_succ, List.set_cons_zero]) | (apply seg_pure rfl rfl rfl; · (rintro w' t0; go_wp2; exact ⟨rfl, rfl, rfl⟩)))
        refine seg_nil ?_
        refine NoPanic.normal ?_
        obtain ⟨x0, x1, x2, x3⟩ := HBX3.out
        have hb3 : Below w.heap.size w w3 := by
          have q1 : Below w.heap.size w1 (w1.alloc (.cells #[.string (bs e.name), .int .i64 e.len, .int .i64 e.pos, .int .i64 e.sp] 52)).drew := ((Below.refl _ _).alloc hb.size _).drew
          have q2 := hk2.below (B := w.heap.size) (by simp; have := hb.size; omega) (fun i hi => (own_lt ho hi).1)
          have q3 := hk3.below (B := w.heap.size) (by have := hb.size; omega) (fun i hi => (own_lt ho2 hi).1)
          exact hb.trans (q1.trans (q2.trans q3))
        have hsp : 0 ≤ e.sp ∧ e.sp ≤ 70000 := by have := M5.out; omega
        obtain ⟨s1, s2⟩ := hsp
        obtain ⟨n0, hn0⟩ : ∃ n : Nat, e.len = n := ⟨e.len.toNat, by omega⟩
        obtain ⟨n1, hn1⟩ : ∃ n : Nat, e.pos = n := ⟨e.pos.toNat, by omega⟩
        obtain ⟨n2, hn2⟩ : ∃ n : Nat, e.sp = n := ⟨e.sp.toNat, by omega⟩
        have hle : (L ++ putU (bs e.name).size ++ e.name).length ≤ 200000 := by simp only [List.length_append]; omega
        have hEN : L ++ putU (bs e.name).size ++ e.name ++ ([n0, n1, n2].map putU).flatten = L ++ entB e := by
          rw [bs_size, entB, hn0, hn1, hn2]
          simp
        rw [hn0] at x1 m3 m4 m8'
        rw [hn1] at x2 m6 m7 m8'
        rw [hn2] at x3 s1 s2
        have HEN := Lib.hid hEN
        generalize hL4 : L ++ putU (bs e.name).size ++ e.name = L4 at ho3 hle
        rw [hL4] at HEN
        clear hL4 hEN hn0 hn1 hn2 M5 m8'
        have i0 : ∀ w, (Instr.index 73 (.agg #[.int .i64 n0, .int .i64 n1, .int .i64 n2]) (.int .i64 0)).run Try.prog w = .ok (.int .i64 n0) w := fun _ => by kernel_rfl
        have i1 : ∀ w, (Instr.index 73 (.agg #[.int .i64 n0, .int .i64 n1, .int .i64 n2]) (.int .i64 1)).run Try.prog w = .ok (.int .i64 n1) w := fun _ => by kernel_rfl
        have i2 : ∀ w, (Instr.index 73 (.agg #[.int .i64 n0, .int .i64 n1, .int .i64 n2]) (.int .i64 2)).run Try.prog w = .ok (.int .i64 n2) w := fun _ => by kernel_rfl
        go_wp2_with fail
        have HRO := HR
        have HMO := HM
        clear HR HM
        refine wp_loop_r (fun a' w' => ∃ (v : Value) (j : Nat), a' = { tmps := #[.slice (some ⟨b, off, none⟩) l.length cap, undef, .slice none 0 0, v, slot a' 4, slot a' 5, slot a' 6, slot a' 7, slot a' 8, slot a' 9, slot a' 10, slot a' 11, slot a' 12, slot a' 13, slot a' 14, .slice (some ⟨b, off, none⟩) l.length cap, .int .i64 l.length, .int .i64 k, slot a' 18, slot a' 19, slot a' 20, slot a' 21, slot a' 22, slot a' 23, slot a' 24, slot a' 25, slot a' 26, slot a' 27, slot a' 28, slot a' 29, slot a' 30, slot a' 31, slot a' 32, slot a' 33, slot a' 34, slot a' 35, slot a' 36, slot a' 37, .agg #[.int .i64 n0, .int .i64 n1, .int .i64 n2], .int .i64 j, slot a' 40, slot a' 41, slot a' 42, slot a' 43, slot a' 44, slot a' 45, slot a' 46, slot a' 47, slot a' 48], defers := [] } ∧ EncI w.heap.size L4 [n0, n1, n2] w w' v j) (fun a' _ => (4 - (intOf (a'.tmps.getD 39 undef)).toNat)) ?_ ?_
        · exact ⟨v3, 0, rfl, by omega, by simpa using ho3, hb3⟩
        · clear ho3 hb3 hb hk2 hk3 hs2 hs3 ho ho2 ho' x0 x1 x2 x3 c0 c1 c2 c3
          rintro R a' w1 ⟨v, j, hfr, hJ⟩ HR
          obtain ⟨f, hf⟩ : ∃ f, f = slot a' := ⟨_, rfl⟩
          rw [← hf] at hfr
          clear hf
          subst hfr
          obtain ⟨hj, ho, hb⟩ := hJ
          have hlj : (L4 ++ (([n0, n1, n2].take j).map putU).flatten).length ≤ 300000 := by
            have g0 := (putU_len n0).2
            have g1 := (putU_len n1).2
            have g2 := (putU_len n2).2
            rcases j with _ | _ | _ | _ | j <;> simp <;> omega
          generalize hLJ : L4 ++ (([n0, n1, n2].take j).map putU).flatten = LJ at ho hlj
          have HLJ := Lib.hid hLJ
          clear hLJ
          by_cases hj3 : j < 3
          · obtain rfl | rfl | rfl : j = 0 ∨ j = 1 ∨ j = 2 := by omega
            · skip
              go_wp2_with fail
              refine (putU_any v LJ n0 (by omega) w.heap.size _ ho (by omega) hb.size).mono ?_
              rintro x w2 ⟨v2, rfl, ho2, hk2, hs2⟩
              have hb2 := hb.trans (hk2.below hb.size (fun i hi => (own_lt ho hi).1))
              go_wp2_with fail
              refine HR.out _ _ ⟨v2, 0 + 1, rfl, by omega, ?_, hb2⟩ ?_
              · rw [← HLJ.out] at ho2
                simpa using ho2
              · simp [intOf]
            · skip
              go_wp2_with fail
              refine (putU_any v LJ n1 (by omega) w.heap.size _ ho (by omega) hb.size).mono ?_
              rintro x w2 ⟨v2, rfl, ho2, hk2, hs2⟩
              have hb2 := hb.trans (hk2.below hb.size (fun i hi => (own_lt ho hi).1))
              go_wp2_with fail
              refine HR.out _ _ ⟨v2, 1 + 1, rfl, by omega, ?_, hb2⟩ ?_
              · rw [← HLJ.out] at ho2
                simpa using ho2
              · simp [intOf]
            · skip
              go_wp2_with fail
              refine (putU_any v LJ n2 (by omega) w.heap.size _ ho (by omega) hb.size).mono ?_
              rintro x w2 ⟨v2, rfl, ho2, hk2, hs2⟩
              have hb2 := hb.trans (hk2.below hb.size (fun i hi => (own_lt ho hi).1))
              go_wp2_with fail
              refine HR.out _ _ ⟨v2, 2 + 1, rfl, by omega, ?_, hb2⟩ ?_
              · rw [← HLJ.out] at ho2
                simpa using ho2
              · simp [intOf]
          · obtain rfl : j = 3 := by omega
            go_wp2_with fail
            refine HRO.out _ _ ⟨v, k + 1, rfl, by omega, ?_, hb⟩ ?_
            · have e1 : putU l.length ++ ((l.take (k + 1)).map entB).flatten = LJ := by
                rw [← HLJ.out, List.take_add_one, HE.out]
                rw [show [n0, n1, n2].take 3 = [n0, n1, n2] from rfl, HEN.out, ← HL.out]
                simp
              rw [e1]
              exact ho
            · simp [intOf]
              omega
      · obtain rfl : k = l.length := by omega
        go_wp2_with fail
        go_ret
        refine ⟨v, rfl, hb, .inl ⟨HM.out, ?_⟩⟩
        rw [List.take_length] at ho
        exact ho
  · have HM := Lib.hid hm
    clear hm
    go_enter Try.func28, Try.ntmps28
    go_wp2_with fail
    refine (mayList_any _ l w hl').mono ?_
    rintro x w1 ⟨r, rfl, hr, hb⟩
    have hr' : r = false := by
      cases r
      · rfl
      · exact absurd (hr.1 rfl) HM.out
    subst hr'
    clear hr hl'
    go_wp2_with fail
    go_ret
    exact ⟨_, rfl, hb, .inr ⟨HM.out, rfl⟩⟩
end Go.Proofs.Ytbgeijdfkdfdoaa
