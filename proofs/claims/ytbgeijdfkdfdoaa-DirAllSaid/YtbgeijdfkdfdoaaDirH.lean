/-
  Walk of dir.Decode: a list is read, or none.
-/
import Derived.Test.YtbgeijdfkdfdoaaDirG
namespace Go.Proofs.Ytbgeijdfkdfdoaa
open Go.RowKit

theorem DEnt.may.fits {e : DEnt} (h : e.may) : e.fits := by
  obtain ⟨h1, h2, h3, h4, h5, h6, h7, h8⟩ := h
  exact ⟨by omega, ⟨by omega, by omega⟩, ⟨by omega, by omega⟩, ⟨by omega, by omega⟩⟩

theorem mayL_fits {l : List DEnt} (h : mayL l) : ∀ e ∈ l, e.fits := by
  intro e he
  obtain ⟨i, hi⟩ := List.mem_iff_getElem?.1 he
  exact (h.1 i (List.getElem?_eq_some_iff.1 hi).1 e hi).1.fits

theorem ent_front {x y : DEnt} {r s : List UInt8} (hx : x.fits) (hy : y.fits) (h : entB x ++ r = entB y ++ s) : x = y ∧ r = s := by
  obtain ⟨f1, f2, f3, f4⟩ := hx.lt
  obtain ⟨g1, g2, g3, g4⟩ := hy.lt
  rw [entB, entB] at h
  simp only [List.append_assoc] at h
  obtain ⟨h1, h2⟩ := putU_front f1 g1 h
  obtain ⟨h3, h4⟩ := List.append_inj h2 h1
  obtain ⟨h5, h6⟩ := putU_front f2 g2 h4
  obtain ⟨h7, h8⟩ := putU_front f3 g3 h6
  obtain ⟨h9, h10⟩ := putU_front f4 g4 h8
  obtain ⟨n1, l1, p1, s1⟩ := x
  obtain ⟨n2, l2, p2, s2⟩ := y
  obtain ⟨_, ⟨a1, _⟩, ⟨a2, _⟩, ⟨a3, _⟩⟩ := hx
  obtain ⟨_, ⟨b1, _⟩, ⟨b2, _⟩, ⟨b3, _⟩⟩ := hy
  simp only at *
  refine ⟨?_, h10⟩
  rw [h3, show l1 = l2 from by omega, show p1 = p2 from by omega, show s1 = s2 from by omega]

def flatB (l : List DEnt) : List UInt8 := (l.map entB).flatten

theorem flatB_app (a b : List DEnt) : flatB (a ++ b) = flatB a ++ flatB b := by simp [flatB]

theorem ents_front : ∀ (a b : List DEnt) (r : List UInt8), (∀ e ∈ a, e.fits) → (∀ e ∈ b, e.fits) → a.length ≤ b.length → flatB b = flatB a ++ r → ∃ c, b = a ++ c ∧ r = flatB c
  | [], b, r, _, _, _, h => ⟨b, rfl, by simpa [flatB] using h.symm⟩
  | x :: a, [], r, _, _, hl, _ => by simp at hl
  | x :: a, y :: b, r, ha, hb, hl, h => by
    have h' : entB y ++ flatB b = entB x ++ (flatB a ++ r) := by simpa [flatB] using h
    obtain ⟨rfl, h2⟩ := ent_front (hb y (by simp)) (ha x (by simp)) h'
    obtain ⟨c, rfl, h4⟩ := ents_front a b r (fun e he => ha e (by simp [he])) (fun e he => hb e (by simp [he])) (by simpa using hl) h2
    exact ⟨c, rfl, h4⟩

def DecEnd (l : List UInt8) (w : World) (e : Ending) (w' : World) : Prop :=
  Below w.heap.size w w' ∧ ∃ v err, e = .returned (.tuple #[v, .int .i64 err]) ∧
    ((err = 0 ∧ ∃ es, mayL es ∧ dirB es = l ∧ OwnEnts w' w.heap.size v es) ∨ (err = 11 ∧ v = .slice none 0 0 ∧ ¬ ∃ es, mayL es ∧ dirB es = l))

def DecJ (l : List UInt8) (n : Nat) (w w' : World) (v : Value) (es : List DEnt) (i k : Nat) : Prop :=
  es.length = i ∧ i ≤ n ∧ (∀ e ∈ es, e.fits) ∧ (∃ r, l = (putU n ++ flatB es) ++ r) ∧ k = (putU n ++ flatB es).length ∧ OwnEnts w' w.heap.size v es ∧ Below w.heap.size w w'

set_option maxRecDepth 100000 in
set_option maxHeartbeats 4000000 in
theorem decode_any (b : Value) (l : List UInt8) (w : World) (hb : IsBytes w b l) : Calls Try.prog 31 #[b] w (DecEnd l w) := by
  obtain ⟨a, cap, rfl, hcap, hmax, hc⟩ := id hb
  have HB := Lib.hid hb
  clear hb hc
  unfold maxLen at hmax
  go_enter Try.func31, Try.ntmps31
  go_wp2_with fail
  refine (U_any _ l 32 _ HB.out (by omega) (by omega)).mono ?_
  rintro x w1 ⟨rfl, hb⟩
  by_cases hu : (uRes 32 l).2.2 = 0
  · obtain ⟨n, r0, hn, hl, hr⟩ := uRes32_ok hu
    rw [hr]
    have HL := Lib.hid hl
    clear hu hr hl
    by_cases hn32 : 32 < n
    · go_wp2_with fail
      go_ret2
      refine ⟨hb, _, _, rfl, .inr ⟨rfl, rfl, ?_⟩⟩
      rintro ⟨es, h1, h2⟩
      rw [HL.out, dirB] at h2
      have := (putU_front (by have := h1.2; omega) hn h2).1
      have := h1.2
      omega
    · have hkl : (putU n).length ≤ l.length := by rw [HL.out]; simp
      go_wp2_with fail
      refine wp_loop_r (fun a' w' => ∃ (v : Value) (es : List DEnt) (i k : Nat), a' = { tmps := #[.slice a l.length cap, slot a' 1, .slice none 0 0, .int .i64 0, slot a' 4, .int .i64 k, slot a' 6, v, slot a' 8, slot a' 9, slot a' 10, slot a' 11, slot a' 12, slot a' 13, slot a' 14, slot a' 15, slot a' 16, slot a' 17, slot a' 18, slot a' 19, slot a' 20, slot a' 21, slot a' 22, .int .u64 n, .int .u64 i, slot a' 25, slot a' 26, slot a' 27, slot a' 28, slot a' 29, slot a' 30, slot a' 31, slot a' 32, slot a' 33, slot a' 34, slot a' 35, slot a' 36, slot a' 37, slot a' 38, slot a' 39, slot a' 40, slot a' 41, slot a' 42, slot a' 43, slot a' 44, slot a' 45, slot a' 46, slot a' 47, slot a' 48, slot a' 49, slot a' 50, slot a' 51, slot a' 52, slot a' 53], defers := [] } ∧ DecJ l n w w' v es i k) (fun a' _ => (n + 1 - (intOf (a'.tmps.getD 24 undef)).toNat)) ?_ ?_
      · exact ⟨_, [], 0, _, rfl, rfl, by omega, by simp, ⟨r0, by simpa [flatB] using HL.out⟩, by simp [flatB], OwnEnts.nil _ _, hb⟩
      · clear hb
        rintro R a' w1 ⟨v, es, i, k, hfr, hJ⟩ HR
        obtain ⟨f, hf⟩ : ∃ f, f = slot a' := ⟨_, rfl⟩
        rw [← hf] at hfr
        clear hf
        subst hfr
        obtain ⟨hil, hin, hfit, ⟨r, hlr⟩, hk, ho, hb⟩ := hJ
        have HF := Lib.hid hfit
        have HLR := Lib.hid hlr
        have HK := Lib.hid hk
        by_cases hi : i < n
        · obtain ⟨a3, cap3, hr3, hi3⟩ := slice_app hlr a cap
          have hi4 := hi3 w1 (HB.out.below (hb.mono (Nat.le_refl _)))
          have hkl2 : k ≤ l.length := by rw [hk, hlr]; simp
          rw [← hk] at hr3
          have HI4 := Lib.hid hi4
          clear hi3 hi4 hlr hk hfit
          go_wp2_with fail
          refine (one_any _ r w1 HI4.out).mono ?_
          rintro x w2 ⟨hb2, y, m, rfl, hy⟩
          replace ho := ho.below hb2
          replace hb := below_next hb hb2
          clear hb2 hr3
          rcases hy with ⟨hy1, hy2, hy3, r2, hy4⟩ | ⟨rfl, hy2⟩
          · have hml : k + m ≤ l.length := by rw [HK.out, HLR.out, hy2, hy4]; simp; omega
            have f1 : ((m : Int) == 0) = false := ieq_false (by omega)
            have HY4 := Lib.hid hy4
            have HY2 := Lib.hid hy2
            have HY1 := Lib.hid hy1
            clear hy4 hy2 hy1
            go_wp2_with (first | (at_builtin; refine Stop.out ?_))
            change wpList _ _ _ _ _ _
            refine wpList_ent _ rfl _ _ rfl rfl w.heap.size v es rfl (ho.below ((Below.refl _ _).alloc (Nat.le_refl _) _)) y (by rw [World.size_alloc]; rfl) (by omega) (by simp; have := hb.size; omega) ?_
            intro v2 w3 ho3 hk3 _
            have hb3 : Below w.heap.size w w3 := (hb.alloc hb.size _).trans (hk3.below (by simp; have := hb.size; omega) (fun j hj => (own_lt ho hj).1))
            clear ho hb hk3
            go_wp2_with fail
            refine HR.out _ _ ⟨v2, es ++ [y], i + 1, k + m, rfl, by rw [List.length_append, hil]; rfl, by omega, ?_, ⟨r2, ?_⟩, ?_, ho3, hb3⟩ ?_
            · intro e he
              rcases List.mem_append.1 he with h | h
              · exact HF.out e h
              · obtain rfl := List.mem_singleton.1 h
                exact HY1.out
            · rw [HLR.out, HY4.out, flatB_app]
              simp [flatB]
            · rw [HK.out, HY2.out, flatB_app]
              simp [flatB]
              omega
            · simp [intOf]
              omega
          · have HY := Lib.hid hy2
            clear hy2
            go_wp2_with fail
            go_ret2
            refine ⟨hb.alloc hb.size _, _, _, rfl, .inr ⟨rfl, rfl, ?_⟩⟩
            rintro ⟨es', h1, h2⟩
            rw [HLR.out, dirB, List.append_assoc] at h2
            obtain ⟨h3, h4⟩ := putU_front (by have := h1.2; omega) hn h2
            obtain ⟨c, h5, h6⟩ := ents_front es es' r HF.out (mayL_fits h1) (by omega) h4
            cases c with
            | nil => rw [h5, List.append_nil] at h3; omega
            | cons z c =>
              refine HY.out z (flatB c) (mayL_fits h1 z (by rw [h5]; simp)) ?_
              rw [h6]
              rfl
        · obtain rfl : i = n := by omega
          have hie := ho.isEnts (fun e he => (HF.out e he).ok)
          clear hlr hk hfit
          have HIE := Lib.hid hie
          clear hie
          go_wp2_with fail
          refine (encode_any v es w1 HIE.out).mono ?_
          rintro x w2 ⟨c, rfl, hb2, hc⟩
          have key : ∀ es', mayL es' → dirB es' = l → es' = es ∧ r = [] := by
            intro es' h1 h2
            rw [HLR.out, dirB, List.append_assoc] at h2
            obtain ⟨h3, h4⟩ := putU_front (by have := h1.2; omega) hn h2
            obtain ⟨d, h5, h6⟩ := ents_front es es' r HF.out (mayL_fits h1) (by omega) h4
            have h7 : d = [] := by
              apply List.eq_nil_of_length_eq_zero
              rw [h5, List.length_append] at h3
              omega
            subst h7
            exact ⟨by simpa using h5, h6⟩
          have KEY := Lib.hid key
          clear key
          have ho2 := ho.below hb2
          have HO2 := Lib.hid ho2
          have hbl := HB.out.below ((hb.trans (hb2.mono hb.size)).mono (Nat.le_refl _))
          replace hb := below_next hb hb2
          have HBL := Lib.hid hbl
          clear ho ho2 hb2 hbl
          rcases hc with ⟨hm, hoc⟩ | ⟨hm, rfl⟩
          · have HM := Lib.hid hm
            obtain ⟨g, cap4, rfl, hg1, hg2, hg3, hg4, _, _⟩ := hoc.open (by rw [dirB]; have := (putU_len es.length).1; intro h; rw [List.append_eq_nil_iff] at h; rw [h.1] at this; simp at this)
            have hoi := hoc.isBytes
            have HOI := Lib.hid hoi
            clear hoi hoc hm
            have e1 := Lib.run_eql_slice_nil (P := Try.prog) w2 22 5 (some ⟨g, 0, none⟩) (dirB es).length cap4 0 0 (by kernel_rfl)
            rw [Option.isNone_some] at e1
            go_wp2_with fail
            refine (bytesEq_any _ _ (dirB es) l w2 HOI.out HBL.out).mono ?_
            rintro x w3 ⟨rfl, rfl⟩
            cases hq : dirB es == l
            · go_wp2_with fail
              go_ret2
              refine ⟨hb, _, _, rfl, .inr ⟨rfl, rfl, ?_⟩⟩
              rintro ⟨es', h1, h2⟩
              obtain ⟨h3, -⟩ := KEY.out es' h1 h2
              rw [h3] at h2
              simp [h2] at hq
            · go_wp2_with fail
              go_ret2
              exact ⟨hb, _, _, rfl, .inl ⟨rfl, es, HM.out, by simpa using hq, HO2.out⟩⟩
          · have HM := Lib.hid hm
            clear hm
            have e1 := Lib.run_eql_slice_nil (P := Try.prog) w2 22 5 none 0 0 0 0 (by kernel_rfl)
            rw [Option.isNone_none] at e1
            go_wp2_with fail
            go_ret2
            refine ⟨hb, _, _, rfl, .inr ⟨rfl, rfl, ?_⟩⟩
            rintro ⟨es', h1, h2⟩
            obtain ⟨h3, -⟩ := KEY.out es' h1 h2
            rw [h3] at h1
            exact HM.out h1
  · have HU := Lib.hid hu
    clear hu
    obtain ⟨x, k, err, hr⟩ : ∃ x k err, uRes 32 l = (x, k, err) := ⟨_, _, _, rfl⟩
    rw [hr]
    have f1 : (err != 0) = true := ine_true (fun h => HU.out (by rw [hr]; exact h))
    clear hr
    go_wp2_with fail
    go_ret2
    refine ⟨hb, _, _, rfl, .inr ⟨rfl, rfl, ?_⟩⟩
    rintro ⟨es, h1, h2⟩
    exact uRes32_bad HU.out es.length _ (by have := h1.2; omega) h2.symm
end Go.Proofs.Ytbgeijdfkdfdoaa
