/-
  Walk of calls.Decode: a list is read, or none.
-/
import Derived.Test.YtbgeijdfkdfdoaaCallB
namespace Go.Proofs.Ytbgeijdfkdfdoaa
open Go.RowKit

def SameEnd2 (l m : List UInt8) (w : World) (e : Ending) (w' : World) : Prop := e = .returned (.bool (l == m)) ∧ w = w'

theorem bytesEq_any (a b : Value) (l m : List UInt8) (w : World) (ha : IsBytes w a l) (hb : IsBytes w b m) :
    Calls Try.prog 50 #[a, b] w (SameEnd2 l m w) := by
  have h1 := run_str ha
  have h2 := run_str hb
  clear ha hb
  go_enter Try.func50, Try.ntmps50
  go_wp2
  go_ret
  exact ⟨by rw [bs_toList, bs_toList]; rfl, rfl⟩

/-- One call is read. -/
def callR (st : Option (List UInt8)) : CEnt × Option (List UInt8) :=
  (⟨(numR st).1, (numR (numR st).2).1, (numR (numR (numR st).2).2).1, (valsR (numR (numR (numR st).2).2).2).1,
    decide ((numR (valsR (numR (numR (numR st).2).2).2).2).1 = 1), (sgnR (numR (valsR (numR (numR (numR st).2).2).2).2).2).1⟩,
   (sgnR (numR (valsR (numR (numR (numR st).2).2).2).2).2).2)

def callsL : Nat → Option (List UInt8) → List CEnt × Option (List UInt8)
  | 0, st => ([], st)
  | _ + 1, none => ([], none)
  | n + 1, some l => ((callR (some l)).1 :: (callsL n (callR (some l)).2).1, (callsL n (callR (some l)).2).2)
def callsR (st : Option (List UInt8)) : List CEnt × Option (List UInt8) := callsL (numR st).1 (numR st).2

theorem callsL_none (n : Nat) : callsL n none = ([], none) := by cases n <;> rfl

theorem callR_put (c : CEnt) (r : List UInt8) (hm : c.may) (ho : c.ok) : callR (some (callB c ++ r)) = (c, some r) := by
  obtain ⟨m1, m2, m3, m4, m5, m6, m7, m8, m9⟩ := hm
  obtain ⟨o1, o2, o3, ⟨o4, o5⟩, o6⟩ := ho
  have e1 : callB c ++ r = putU c.n.toNat ++ (putU c.fn.toNat ++ (putU c.pos.toNat ++ (valsB c.args ++ (putU (hasN c.has) ++ (putS c.ans ++ r))))) := by simp [callB]
  have g1 : ((c.n.toNat : Nat) : Int) = c.n := by omega
  have g2 : ((c.fn.toNat : Nat) : Int) = c.fn := by omega
  have g3 : ((c.pos.toNat : Nat) : Int) = c.pos := by omega
  have h1 : ∀ r, numR (some (putU c.n.toNat ++ r)) = (c.n.toNat, some r) := fun r => numR_put _ r (by omega)
  have h2 : ∀ r, numR (some (putU c.fn.toNat ++ r)) = (c.fn.toNat, some r) := fun r => numR_put _ r (by omega)
  have h3 : ∀ r, numR (some (putU c.pos.toNat ++ r)) = (c.pos.toNat, some r) := fun r => numR_put _ r (by omega)
  have h4 : ∀ r, valsR (some (valsB c.args ++ r)) = (c.args, some r) := fun r => valsR_put _ r (fun v hv => ⟨m8 v hv, o6 v hv⟩) (by omega)
  have h5 : ∀ r, numR (some (putU (hasN c.has) ++ r)) = (hasN c.has, some r) := fun r => numR_put _ r (by unfold hasN; split <;> omega)
  have h6 : ∀ r, sgnR (some (putS c.ans ++ r)) = (c.ans, some r) := fun r => sgnR_put _ r o4 o5
  have h7 : decide (hasN c.has = 1) = c.has := by cases c.has <;> rfl
  rw [e1, callR]
  simp only [h1, h2, h3, h4, h5, h6, g1, g2, g3, h7]

theorem callsL_put : ∀ (l : List CEnt) (r : List UInt8), (∀ c ∈ l, c.may ∧ c.ok) → callsL l.length (some (flatC l ++ r)) = (l, some r)
  | [], r, _ => rfl
  | c :: l, r, h => by
    obtain ⟨hm, hk⟩ := h c (by simp)
    have e1 : flatC (c :: l) ++ r = callB c ++ (flatC l ++ r) := by simp [flatC]
    rw [e1, List.length_cons, callsL, callR_put c _ hm hk]
    simp only [callsL_put l r (fun x hx => h x (by simp [hx]))]

theorem callsR_put (l : List CEnt) (h : ∀ c ∈ l, c.may ∧ c.ok) (hl : l.length ≤ 1000000) : callsR (some (callsB l)) = (l, some []) := by
  rw [callsR, callsB, numR_put _ _ (by omega)]
  have := callsL_put l [] h
  rwa [List.append_nil] at this

/-- Calls in rows of the call's own: their values lie apart. -/
def OwnCalls (w : World) (B R : Nat) (v : Value) (l : List CEnt) : Prop :=
  ∃ us : List Value, us.length = l.length ∧ OwnRws 82 6 encC w B v (l.zip us) ∧ (∀ c ∈ l, c.ok) ∧
    ∀ (i : Nat) (c : CEnt) (u : Value), l[i]? = some c → us[i]? = some u → IsRws 2 encV w u c.args ∧ ∀ a n cap, u = .slice (some a) n cap → B ≤ a.block ∧ a.block < w.heap.size ∧ a.block ≠ R ∧ ¬ OwnB v a.block

theorem OwnCalls.isCalls {w : World} {B R : Nat} {v : Value} {l : List CEnt} (h : OwnCalls w B R v l) : IsCalls w v l := by
  obtain ⟨us, h1, h2, h3, h4⟩ := h
  exact ⟨us, h1, h2.isRws encC_len, fun i c u hc hu => (h4 i c u hc hu).1, h3⟩

theorem IsRws.keeps {α : Type} {k : Nat} {enc : α → List Value} {w w' : World} {v : Value} {l : List α} {S : Nat → Prop} (h : IsRws k enc w v l) (hk : Keeps S w w') (hs : ∀ a n cap, v = .slice (some a) n cap → ¬ S a.block) : IsRws k enc w' v l := by
  obtain ⟨a, cap, hv, h1, h2, h3⟩ := h
  refine ⟨a, cap, hv, h1, h2, fun i x hx => ?_⟩
  obtain ⟨b, off, ha, hlt, hc⟩ := h3 i x hx
  refine ⟨b, off, ha, Nat.lt_of_lt_of_le hlt hk.size, fun j u hu => ?_⟩
  rw [World.cell?_of_block (w := w) (a := ⟨b, off + i * k + j, none⟩) (hk.block b hlt (by rw [hv, ha] at hs; exact hs _ _ _ rfl))]
  exact hc j u hu

/-- The reader's block alone was written, or new blocks laid. -/
theorem OwnCalls.keeps {w w' : World} {B R : Nat} {v : Value} {l : List CEnt} (h : OwnCalls w B R v l) (hk : Keeps (fun i => i = R) w w') (hR : ¬ OwnB v R) : OwnCalls w' B R v l := by
  obtain ⟨us, h1, h2, h3, h4⟩ := h
  refine ⟨us, h1, h2.keeps hk (fun i hi hj => hR (by rw [← hj]; exact hi)), h3, fun i c u hc hu => ?_⟩
  obtain ⟨g1, g2⟩ := h4 i c u hc hu
  refine ⟨g1.keeps hk (fun a n cap he => (g2 a n cap he).2.2.1), fun a n cap he => ?_⟩
  obtain ⟨f1, f2, f3, f4⟩ := g2 a n cap he
  exact ⟨f1, Nat.lt_of_lt_of_le f2 hk.size, f3, f4⟩

/-- One more call. -/
theorem OwnCalls.app {w w' : World} {B R : Nat} {v v' : Value} {l : List CEnt} {us : List Value} (h1 : us.length = l.length) (h3 : ∀ c ∈ l, c.ok)
    (h4 : ∀ (i : Nat) (c : CEnt) (u : Value), l[i]? = some c → us[i]? = some u → IsRws 2 encV w u c.args ∧ ∀ a n cap, u = .slice (some a) n cap → B ≤ a.block ∧ a.block < w.heap.size ∧ a.block ≠ R ∧ ¬ OwnB v a.block)
    (hk : Keeps (OwnB v) w w') (hs : SameOrNew w v v') {c : CEnt} {u : Value} (hc : c.ok)
    (hu : IsRws 2 encV w u c.args) (hb : ∀ a n cap, u = .slice (some a) n cap → B ≤ a.block ∧ a.block < w.heap.size ∧ a.block ≠ R ∧ ¬ OwnB v a.block)
    (ho : OwnRws 82 6 encC w' B v' (l.zip us ++ [(c, u)])) : OwnCalls w' B R v' (l ++ [c]) := by
  have key : ∀ a : Addr, a.block < w.heap.size → ¬ OwnB v a.block → ¬ OwnB v' a.block := fun a h1 h2 h3 => (hs _ h3).elim h2 (fun g => by omega)
  refine ⟨us ++ [u], by simp [h1], ?_, ?_, ?_⟩
  · rw [List.zip_append h1.symm]
    exact ho
  · intro d hd
    rcases List.mem_append.1 hd with h | h
    · exact h3 d h
    · obtain rfl := List.mem_singleton.1 h
      exact hc
  · intro i d x hd hx
    have conv : ∀ (d : CEnt) (x : Value), (IsRws 2 encV w x d.args ∧ ∀ a n cap, x = .slice (some a) n cap → B ≤ a.block ∧ a.block < w.heap.size ∧ a.block ≠ R ∧ ¬ OwnB v a.block) →
        IsRws 2 encV w' x d.args ∧ ∀ a n cap, x = .slice (some a) n cap → B ≤ a.block ∧ a.block < w'.heap.size ∧ a.block ≠ R ∧ ¬ OwnB v' a.block := by
      rintro d x ⟨g1, g2⟩
      refine ⟨g1.keeps hk (fun a n cap he => (g2 a n cap he).2.2.2), fun a n cap he => ?_⟩
      obtain ⟨f1, f2, f3, f4⟩ := g2 a n cap he
      exact ⟨f1, Nat.lt_of_lt_of_le f2 hk.size, f3, key a f2 f4⟩
    rcases Nat.lt_or_ge i l.length with h | h
    · rw [List.getElem?_append_left h] at hd
      rw [List.getElem?_append_left (by omega)] at hx
      exact conv d x (h4 i d x hd hx)
    · rw [List.getElem?_append_right h] at hd
      rw [List.getElem?_append_right (by omega), h1] at hx
      have hi : i - l.length = 0 := by
        rcases Nat.eq_zero_or_pos (i - l.length) with g | g
        · exact g
        · rw [List.getElem?_eq_none (by simp only [List.length_singleton]; omega)] at hd
          cases hd
      rw [hi] at hd hx
      simp at hd hx
      subst hd hx
      exact conv c u ⟨hu, hb⟩

def DecCEnd (l : List UInt8) (w : World) (e : Ending) (w' : World) : Prop :=
  Below w.heap.size w w' ∧ ∃ v err, e = .returned (.tuple #[v, .int .i64 err]) ∧
    ((err = 0 ∧ ∃ es, mayC es ∧ (∀ c ∈ es, c.ok) ∧ callsB es = l ∧ IsCalls w' v es) ∨ (err = 11 ∧ v = .slice none 0 0 ∧ ¬ ∃ es, mayC es ∧ (∀ c ∈ es, c.ok) ∧ callsB es = l))

def DecCJ (l : List UInt8) (B0 Rb : Nat) (w w' : World) (v : Value) (acc : List CEnt) (n : Nat) (st : Option (List UInt8)) : Prop :=
  callsR (some l) = (acc ++ (callsL n st).1, (callsL n st).2) ∧ OwnCalls w' w.heap.size Rb v acc ∧ ¬ OwnB v Rb ∧ acc.length + stl st ≤ l.length + 1 ∧ Rd B0 w' Rb st ∧ Below w.heap.size w w' ∧ n < 4611686018427387904

theorem info_call : (Try.prog.info? 82).map (fun i => (i.zero, i.size, i.bytes)) = some (some (.agg #[.int .i64 0, .int .i64 0, .int .i64 0, .slice none 0 0, .bool false, .int .i64 0]), 6, 64) := by kernel_rfl

theorem OwnRws.block {α : Type} {t : TypeId} {k : Nat} {enc : α → List Value} {w : World} {B : Nat} {u : Value} {l : List α} (h : OwnRws t k enc w B u l) : ∀ a n cap, u = .slice (some a) n cap → B ≤ a.block ∧ a.block < w.heap.size := by
  intro a n cap he
  obtain ⟨_, ⟨hv, _⟩ | ⟨g, cap', cur, hv, hb, hg, _⟩⟩ := h
  · rw [hv] at he; cases he
  · rw [hv] at he
    injection he with e1 e2 e3
    injection e1 with e1
    subst e1
    exact ⟨hb, (Array.getElem?_eq_some_iff.1 hg).1⟩


set_option maxRecDepth 100000 in
set_option maxHeartbeats 4000000 in
theorem decCalls_any (b : Value) (l : List UInt8) (w : World) (hb : IsBytes w b l) (hll : l.length ≤ 400000) : Calls Try.prog 43 #[b] w (DecCEnd l w) := by
  obtain ⟨a, cap, rfl, hcap, hmax, hcc⟩ := id hb
  have HB := Lib.hid hb
  have hB0 : l ≠ [] → ∀ ad, a = some ad → ad.block < w.heap.size := by
    intro hne ad ha
    obtain ⟨x, xs, hxs⟩ := List.exists_cons_of_ne_nil hne
    obtain ⟨g, off, g1, g2⟩ := hcc 0 x (by rw [hxs]; rfl)
    rw [ha] at g1
    injection g1 with g1
    rw [g1]
    exact World.block_lt_of_cell? w _ g2
  unfold maxLen at hmax
  clear hcc
  have hrd : Rd w.heap.size (w.alloc (.cells #[.slice a l.length cap, .bool false] 91)) w.heap.size (some l) :=
    ⟨a, l.length, cap, Blk.new w _ _, l, hB0, hb.alloc _, fun l' h => by injection h with h; exact h.symm⟩
  have HRD0 := Lib.hid hrd
  clear hb hB0 hrd
  go_enter Try.func43, Try.ntmps43
  go_wp2_with fail
  refine (num_read w.heap.size w.heap.size (some l) _ HRD0.out).mono ?_
  rintro x w1 ⟨rfl, hr1, hk1⟩
  have hb : Below w.heap.size w w1 := ((Below.refl w.heap.size w).alloc (Nat.le_refl _) _).trans (hk1.below (by simp) (fun i h => by omega))
  go_wp2_with fail
  refine wp_loop_r (fun a' w' => ∃ (v : Value) (acc : List CEnt) (n : Nat) (s : Option (List UInt8)), a' = { tmps := #[.slice a l.length cap, slot a' 1, .slice none 0 0, .int .i64 0, .pointer (some ⟨w.heap.size, 0, none⟩), v, .int .i64 n, slot a' 7, slot a' 8, slot a' 9, slot a' 10, slot a' 11, slot a' 12, slot a' 13, slot a' 14, slot a' 15, slot a' 16, slot a' 17, slot a' 18, slot a' 19, slot a' 20, slot a' 21, slot a' 22, slot a' 23, slot a' 24, slot a' 25, slot a' 26, slot a' 27, slot a' 28, slot a' 29, slot a' 30, slot a' 31, slot a' 32, slot a' 33, slot a' 34, slot a' 35, slot a' 36, slot a' 37, slot a' 38, slot a' 39, slot a' 40, slot a' 41, slot a' 42, slot a' 43, slot a' 44, slot a' 45, slot a' 46, slot a' 47, slot a' 48, slot a' 49, slot a' 50, slot a' 51, slot a' 52, slot a' 53, slot a' 54, slot a' 55, slot a' 56, slot a' 57, slot a' 58, slot a' 59, slot a' 60, slot a' 61], defers := [] } ∧ DecCJ l w.heap.size w.heap.size w w' v acc n s) (fun a' _ => (intOf (a'.tmps.getD 6 undef)).toNat) ?_ ?_
  · refine ⟨_, [], (numR (some l)).1, (numR (some l)).2, rfl, ⟨by simp [callsR], ⟨[], rfl, OwnRws.nil _ _, by simp, by simp⟩, by simp [OwnB, Value.ownBlock], ?_, hr1, hb, numR_lt _⟩⟩
    have := stl_num' (some l)
    simpa [stl] using this
  · clear hb hk1 hr1
    rintro R a' w1 ⟨v, acc, n, s, hfr, hJ⟩ HR
    obtain ⟨f, hf⟩ : ∃ f, f = slot a' := ⟨_, rfl⟩
    rw [← hf] at hfr
    clear hf
    subst hfr
    obtain ⟨hv, ho, hnb, hlen, hrd, hb, hn⟩ := hJ
    have HRD := Lib.hid hrd
    obtain ⟨ar, nr, capr, hbk, _⟩ := hrd
    have c1 : w1.cell? ⟨w.heap.size, 1, none⟩ = some (.bool s.isNone) := hbk.cell 1
    have hRlt := hbk.lt
    clear hbk
    rcases Nat.eq_zero_or_pos n with hn0 | hn0
    · subst hn0
      rw [callsL, List.append_nil] at hv
      cases s with
      | none =>
        skip
        have HC := Lib.hid (show callsR (some l) = (acc, (none : Option (List UInt8))) from hv)
        have key : ∀ es, mayC es → (∀ c ∈ es, c.ok) → callsB es = l → es = acc ∧ (none : Option (List UInt8)) = some [] := by
          intro es h1 h2 h3
          have h4 := callsR_put es (fun c hc => ⟨mayC_all h1 c hc, h2 c hc⟩) (by have := h1.2; omega)
          rw [h3, HC.out] at h4
          injection h4 with h4 h5
          exact ⟨h4.symm, h5⟩
        have KEY := Lib.hid key
        have HOI := Lib.hid ho.isCalls
        have hok : ∀ c ∈ acc, c.ok := by obtain ⟨_, _, _, h, _⟩ := ho; exact h
        have HOK := Lib.hid hok
        clear key hv ho hok hlen
        go_wp2_with fail
        refine (encCalls_any v acc w1 HOI.out).mono ?_
        rintro x w2 ⟨c, rfl, hb2, hc⟩
        obtain ⟨ar, nr, capr, hbk2, -⟩ := HRD.out.below hb2
        have d1 : w2.cell? ⟨w.heap.size, 1, none⟩ = some (.bool true) := hbk2.cell 1
        have hoi2 := HOI.out.below hb2
        have HOI2 := Lib.hid hoi2
        have hbl := HB.out.below ((hb.trans (hb2.mono hb.size)).mono (Nat.le_refl _))
        have HBL := Lib.hid hbl
        replace hb := hb.trans (hb2.mono hb.size)
        clear hbk2 hoi2 hbl hb2 HOI c1
        clear hc
        go_wp2_with fail
        go_ret2
        refine ⟨hb, _, _, rfl, .inr ⟨rfl, rfl, ?_⟩⟩
        rintro ⟨es, g1, g2, g3⟩
        have := (KEY.out es g1 g2 g3).2
        cases this
      | some s =>
        skip
        have HC := Lib.hid (show callsR (some l) = (acc, some s) from hv)
        have key : ∀ es, mayC es → (∀ c ∈ es, c.ok) → callsB es = l → es = acc ∧ some s = some [] := by
          intro es h1 h2 h3
          have h4 := callsR_put es (fun c hc => ⟨mayC_all h1 c hc, h2 c hc⟩) (by have := h1.2; omega)
          rw [h3, HC.out] at h4
          injection h4 with h4 h5
          exact ⟨h4.symm, h5⟩
        have KEY := Lib.hid key
        have HOI := Lib.hid ho.isCalls
        have hok : ∀ c ∈ acc, c.ok := by obtain ⟨_, _, _, h, _⟩ := ho; exact h
        have HOK := Lib.hid hok
        clear key hv ho hok hlen
        go_wp2_with fail
        refine (encCalls_any v acc w1 HOI.out).mono ?_
        rintro x w2 ⟨c, rfl, hb2, hc⟩
        obtain ⟨ar, nr, capr, hbk2, -⟩ := HRD.out.below hb2
        have d1 : w2.cell? ⟨w.heap.size, 1, none⟩ = some (.bool false) := hbk2.cell 1
        have hoi2 := HOI.out.below hb2
        have HOI2 := Lib.hid hoi2
        have hbl := HB.out.below ((hb.trans (hb2.mono hb.size)).mono (Nat.le_refl _))
        have HBL := Lib.hid hbl
        replace hb := hb.trans (hb2.mono hb.size)
        clear hbk2 hoi2 hbl hb2 HOI c1
        rcases hc with ⟨hm, hoc⟩ | ⟨hm, rfl⟩
        · have HM := Lib.hid hm
          have hne : callsB acc ≠ [] := by
            intro h
            rw [callsB, List.append_eq_nil_iff] at h
            have := (putU_len acc.length).1
            rw [h.1] at this
            simp at this
          obtain ⟨g, cap4, rfl, hg1, hg2, hg3, hg4, _, _⟩ := hoc.open hne
          have hoi := hoc.isBytes
          have HOB := Lib.hid hoi
          clear hoi hoc hm hne
          have e1 := Lib.run_eql_slice_nil (P := Try.prog) w2 22 5 (some ⟨g, 0, none⟩) (callsB acc).length cap4 0 0 (by kernel_rfl)
          rw [Option.isNone_some] at e1
          go_wp2_with fail
          refine (bytesEq_any _ _ (callsB acc) l w2 HOB.out HBL.out).mono ?_
          rintro x w3 ⟨rfl, rfl⟩
          cases hq : callsB acc == l
          · go_wp2_with fail
            go_ret2
            refine ⟨hb, _, _, rfl, .inr ⟨rfl, rfl, ?_⟩⟩
            rintro ⟨es, g1, g2, g3⟩
            have h3 := (KEY.out es g1 g2 g3).1
            rw [h3] at g3
            simp [g3] at hq
          · go_wp2_with fail
            go_ret2
            exact ⟨hb, _, _, rfl, .inl ⟨rfl, acc, HM.out, HOK.out, by simpa using hq, HOI2.out⟩⟩
        · have HM := Lib.hid hm
          clear hm
          have e1 := Lib.run_eql_slice_nil (P := Try.prog) w2 22 5 none 0 0 0 0 (by kernel_rfl)
          rw [Option.isNone_none] at e1
          go_wp2_with fail
          go_ret2
          refine ⟨hb, _, _, rfl, .inr ⟨rfl, rfl, ?_⟩⟩
          rintro ⟨es, g1, g2, g3⟩
          have h3 := (KEY.out es g1 g2 g3).1
          rw [h3] at g1
          exact HM.out g1
    have f0 : decide ((0 : Int) < (n : Int)) = true := decide_eq_true (by omega)
    cases s with
    | none =>
      have c1 : w1.cell? ⟨w.heap.size, 1, none⟩ = some (.bool true) := c1
      rw [callsL_none, List.append_nil] at hv
      have HC := Lib.hid (show callsR (some l) = (acc, (none : Option (List UInt8))) from hv)
      have key : ∀ es, mayC es → (∀ c ∈ es, c.ok) → callsB es = l → es = acc ∧ (none : Option (List UInt8)) = some [] := by
        intro es h1 h2 h3
        have h4 := callsR_put es (fun c hc => ⟨mayC_all h1 c hc, h2 c hc⟩) (by have := h1.2; omega)
        rw [h3, HC.out] at h4
        injection h4 with h4 h5
        exact ⟨h4.symm, h5⟩
      have KEY := Lib.hid key
      have HOI := Lib.hid ho.isCalls
      have hok : ∀ c ∈ acc, c.ok := by obtain ⟨_, _, _, h, _⟩ := ho; exact h
      have HOK := Lib.hid hok
      clear key hv ho hok hlen
      go_wp2_with fail
      refine (encCalls_any v acc w1 HOI.out).mono ?_
      rintro x w2 ⟨c, rfl, hb2, hc⟩
      obtain ⟨ar, nr, capr, hbk2, -⟩ := HRD.out.below hb2
      have d1 : w2.cell? ⟨w.heap.size, 1, none⟩ = some (.bool true) := hbk2.cell 1
      have hoi2 := HOI.out.below hb2
      have HOI2 := Lib.hid hoi2
      have hbl := HB.out.below ((hb.trans (hb2.mono hb.size)).mono (Nat.le_refl _))
      have HBL := Lib.hid hbl
      replace hb := hb.trans (hb2.mono hb.size)
      clear hbk2 hoi2 hbl hb2 HOI c1
      clear hc
      go_wp2_with fail
      go_ret2
      refine ⟨hb, _, _, rfl, .inr ⟨rfl, rfl, ?_⟩⟩
      rintro ⟨es, g1, g2, g3⟩
      have := (KEY.out es g1 g2 g3).2
      cases this
    | some s =>
      have c1 : w1.cell? ⟨w.heap.size, 1, none⟩ = some (.bool false) := c1
      obtain ⟨n', rfl⟩ : ∃ n', n = n' + 1 := ⟨n - 1, by omega⟩
      have HV := Lib.hid hv
      have HOC := Lib.hid ho
      obtain ⟨x0, s1, e0⟩ : ∃ x t, numR (some s) = (x, t) := ⟨_, _, rfl⟩
      obtain ⟨x1, s2, e1⟩ : ∃ x t, numR s1 = (x, t) := ⟨_, _, rfl⟩
      obtain ⟨x2, s3, e2⟩ : ∃ x t, numR s2 = (x, t) := ⟨_, _, rfl⟩
      obtain ⟨args, s4, e3⟩ : ∃ x t, valsR s3 = (x, t) := ⟨_, _, rfl⟩
      obtain ⟨x4, s5, e4⟩ : ∃ x t, numR s4 = (x, t) := ⟨_, _, rfl⟩
      obtain ⟨y, s6, e5⟩ : ∃ x t, sgnR s5 = (x, t) := ⟨_, _, rfl⟩
      have b0 := numR_lt (some s)
      have b1 := numR_lt s1
      have b2 := numR_lt s2
      have b4 := numR_lt s4
      obtain ⟨hy1, hy2⟩ := sgnR_in s5
      have t0 := stl_num s
      have t1 := stl_num' s1
      have t2 := stl_num' s2
      have t4 := stl_num' s4
      have t5 := stl_sgn s5
      rw [e0] at b0 t0
      rw [e1] at b1 t1
      rw [e2] at b2 t2
      rw [e4] at b4 t4
      rw [e5] at hy1 hy2 t5
      simp only at b0 b1 b2 b4 hy1 hy2 t0 t1 t2 t4 t5
      have hacc : acc.length ≤ 400001 := by omega
      have hs3 : stl s3 ≤ 500000 := by omega
      have HT := Lib.hid (show stl s4 ≤ stl s3 → acc.length + 1 + stl s6 ≤ l.length + 1 by omega)
      clear hv ho hlen t0 t1 t2 t4 t5
      go_wp2_with fail
      refine (num_read w.heap.size w.heap.size (some s) w1 HRD.out).mono ?_
      rintro x w2 ⟨rfl, hr2, hk2⟩
      rw [e0] at hr2 ⊢
      have HR2 := Lib.hid hr2
      have hsz2 := hk2.size
      clear hr2 HRD c1
      go_wp2_with fail
      refine (num_read w.heap.size w.heap.size s1 w2 HR2.out).mono ?_
      rintro x w3 ⟨rfl, hr3, hk3⟩
      rw [e1] at hr3 ⊢
      have HR3 := Lib.hid hr3
      have hsz3 := hk3.size
      clear hr3 HR2
      go_wp2_with fail
      refine (num_read w.heap.size w.heap.size s2 w3 HR3.out).mono ?_
      rintro x w4 ⟨rfl, hr4, hk4⟩
      rw [e2] at hr4 ⊢
      have HR4 := Lib.hid hr4
      have hsz4 := hk4.size
      clear hr4 HR3
      go_wp2_with fail
      refine (vals_read w.heap.size w.heap.size s3 w4 HR4.out hs3 (by omega)).mono ?_
      rintro x w5 ⟨u, rfl, hou, hvo, hvl, hr5, hk5⟩
      rw [e3] at hou hvo hvl hr5
      simp only at hou hvo hvl hr5
      have hsz5 := hk5.size
      have hk15 : Keeps (fun k => k = w.heap.size) w1 w5 := ((hk2.trans hk3 (fun i h => .inl h)).trans hk4 (fun i h => .inl h)).trans hk5 (fun i h => .inl h)
      have hui := hou.isRws encV_len
      have HUB5 := Lib.hid hou.block
      obtain ⟨au, capu, rfl, -, -, -⟩ := id hui
      have HU5 := Lib.hid hui
      have HVO := Lib.hid hvo
      have HLEN := Lib.hid (HT.out (by omega))
      have HR5 := Lib.hid hr5
      clear hui hou hvo hvl hr5 HR4 hk2 hk3 hk4 hk5 hs3 HT
      go_wp2_with fail
      obtain ⟨X, hX⟩ : ∃ X, X = w5.heap.size := ⟨_, rfl⟩
      have hbx5 := Blk.new w5 #[.int .i64 x0, .int .i64 x1, .int .i64 x2, .slice au args.length capu, .bool false, .int .i64 0] 82
      have hr5' := HR5.out.below ((Below.refl w5.heap.size w5).alloc (Nat.le_refl _) (.cells #[.int .i64 x0, .int .i64 x1, .int .i64 x2, .slice au args.length capu, .bool false, .int .i64 0] 82))
      rw [← hX] at hbx5 ⊢
      have hXa : w5.heap.size ≤ X := by omega
      have hXb : X < w5.heap.size + 1 := by omega
      clear hX
      refine (num_read w.heap.size w.heap.size s4 _ hr5').mono ?_
      rintro x w6 ⟨rfl, hr6, hk6⟩
      rw [e4] at hr6 ⊢
      have HR6 := Lib.hid hr6
      have hbx6 := hbx5.keeps hk6 (fun h => by omega)
      have hsz6 := hk6.size
      simp only [World.size_alloc] at hsz6
      have hk56 : Keeps (fun k => k = w.heap.size) w5 w6 := ((Keeps.refl (fun k => k = w.heap.size) w5).alloc _).trans hk6 (fun i h => .inl h)
      obtain ⟨⟨x0', x1', x2', x3', x4', x5'⟩, -, -, -, -, z4, -⟩ := hbx6.six
      clear hr6 hk6 hbx5 hr5' HR5
      by_cases hx4 : x4 = 1
      · have hd : decide (x4 = 1) = true := decide_eq_true hx4
        have hi : ((x4 : Int) == 1) = true := ieq_true (by omega)
        clear hx4
        have hfx : ((x4 : Int) == 1) = true := hi
        have HCR := Lib.hid (show callR (some s) = (⟨x0, x1, x2, args, true, y⟩, s6) by rw [callR, e0, e1, e2, e3, e4, e5]; simp only [hd])
        clear e0 e1 e2 e3 e4
        go_wp2_with fail
        have hbx4 := hbx6.set 4 (.bool true)
        have hkx4 : Keeps (fun k => k = X) w6 (w6.setCell ⟨X, 4, none⟩ (.bool true)) := ⟨rfl, rfl, rfl, by simp, fun k _ hk => Below.heap_setCell w6 ⟨X, 4, none⟩ (.bool true) k hk⟩
        have hr6' := HR6.out.keeps hkx4 (fun h => by omega) (fun i hi => by omega)
        have hbx4' : Blk (w6.setCell ⟨X, 4, none⟩ (.bool true)) X #[.int .i64 x0, .int .i64 x1, .int .i64 x2, .slice au args.length capu, .bool true, .int .i64 0] 82 := by simpa using hbx4
        clear hbx4 hbx6
        generalize w6.setCell ⟨X, 4, none⟩ (.bool true) = w7 at hr6' hbx4' hkx4 ⊢
        have HR7 := Lib.hid hr6'
        clear hr6' x0' x1' x2' x3' x4' x5' z4
        have hsz7 := hkx4.size
        refine (sgn_read w.heap.size w.heap.size s5 w7 HR7.out).mono ?_
        rintro x w8 ⟨rfl, hr8, hk8⟩
        have hsz8 := hk8.size
        rw [e5] at hr8 ⊢
        have hbx8 := hbx4'.keeps hk8 (fun h => by omega)
        obtain ⟨⟨x0', x1', x2', x3', x4', x5'⟩, -, -, -, -, -, z5⟩ := hbx8.six
        have HR8 := Lib.hid hr8
        clear hr8 hbx4' e5
        go_wp2_with (first | (at_builtin; refine Stop.out ?_))
        change wpList _ _ _ _ _ (World.alloc _ (.cells #[.int .i64 x0, .int .i64 x1, .int .i64 x2, .slice au args.length capu, .bool true, .int .i64 y] 82))
        have hbx9 := hbx8.set 5 (.int .i64 y)
        have hkx9 : Keeps (fun k => k = X) w8 (w8.setCell ⟨X, 5, none⟩ (.int .i64 y)) := ⟨rfl, rfl, rfl, by simp, fun k _ hk => Below.heap_setCell w8 ⟨X, 5, none⟩ (.int .i64 y) k hk⟩
        have hr9 := HR8.out.keeps hkx9 (fun h => by omega) (fun i hi => by omega)
        clear hbx9 hbx8 x0' x1' x2' x3' x4' x5' z5
        have hsz98 : (w8.setCell ⟨X, 5, none⟩ (.int .i64 y)).heap.size = w8.heap.size := by simp
        generalize w8.setCell ⟨X, 5, none⟩ (.int .i64 y) = w9 at hr9 hkx9 hsz98 ⊢
        have hsz9 := hkx9.size
        have hk19 : Keeps (fun k => k = w.heap.size) w1 w9 := (((hk15.trans hk56 (fun i h => .inl h)).trans hkx4 (fun i h => .inr (by omega))).trans hk8 (fun i h => .inl h)).trans hkx9 (fun i h => .inr (by omega))
        have hk59 : Keeps (fun k => k = w.heap.size) w5 w9 := ((hk56.trans hkx4 (fun i h => .inr (by omega))).trans hk8 (fun i h => .inl h)).trans hkx9 (fun i h => .inr (by omega))
        have hoc9 := HOC.out.keeps hk19 hnb
        have hu9 : IsRws 2 encV w9 (.slice au args.length capu) args := HU5.out.keeps hk59 (fun a n cp he hj => by have := (HUB5.out a n cp he).1; omega)
        have HOC9 := Lib.hid hoc9
        obtain ⟨us, k1, k2, k3, k4⟩ := hoc9
        have hvlt : ∀ i, OwnB v i → i < w1.heap.size := by obtain ⟨_, _, k, _⟩ := HOC.out; exact fun i hi => (own_lt k hi).2
        have hzl : (acc.zip us).length ≤ 400002 := by rw [List.length_zip]; omega
        refine wpList_row1 w9 rfl _ _ 62 rfl _ 64 (by kernel_rfl) info_call rfl (by decide) (by decide) w.heap.size v (acc.zip us) rfl k2 ((⟨x0, x1, x2, args, true, y⟩, .slice au args.length capu) : CEnt × Value) _ rfl rfl (by intro q hq; simp only [encC, List.mem_cons, List.not_mem_nil, or_false] at hq; rcases hq with rfl | rfl | rfl | rfl | rfl | rfl <;> rfl) (by rw [hsz98]; rfl) (by omega) (by omega) ?_
        intro v10 w10 ho10 hk10 hs10
        have hok : CEnt.ok ⟨x0, x1, x2, args, true, y⟩ := ⟨⟨by show (-9223372036854775808 : Int) ≤ (x0 : Int); omega, by show (x0 : Int) ≤ 9223372036854775807; omega⟩, ⟨by show (-9223372036854775808 : Int) ≤ (x1 : Int); omega, by show (x1 : Int) ≤ 9223372036854775807; omega⟩, ⟨by show (-9223372036854775808 : Int) ≤ (x2 : Int); omega, by show (x2 : Int) ≤ 9223372036854775807; omega⟩, ⟨hy1, hy2⟩, HVO.out⟩
        have hocf := OwnCalls.app (B := w.heap.size) (R := w.heap.size) k1 k3 k4 hk10 hs10 hok hu9 (fun a n cp he => by
          obtain ⟨f1, f2⟩ := HUB5.out a n cp he
          exact ⟨by omega, by omega, by omega, fun h => by have := hvlt _ h; omega⟩) ho10
        have hr10 := hr9.keeps hk10 (fun h => hnb h) (fun i hi => by
          have := (own_lt k2 hi).1
          omega)
        have hb10 : Below w.heap.size w w10 := (hb.trans (hk19.below hb.size (fun i h => by omega))).trans (hk10.below (by omega) (fun i hi => (own_lt k2 hi).1))
        have hnb10 : ¬ OwnB v10 w.heap.size := fun h => (hs10 _ h).elim hnb (fun g => by omega)
        have HOF := Lib.hid hocf
        have HRF := Lib.hid hr10
        clear hocf hr10 hk10 hs10 ho10 k1 k2 k3 k4 hu9 hk19 hk59 hr9 hkx9 hkx4 hk8 hok hk15 hk56 HOC9
        go_wp2_with fail
        refine HR.out _ _ ⟨v10, acc ++ [⟨x0, x1, x2, args, true, y⟩], n', s6, rfl, ⟨?_, HOF.out, hnb10, ?_, HRF.out, hb10, by omega⟩⟩ ?_
        · rw [HV.out, callsL, HCR.out]
          simp
        · rw [List.length_append]
          exact HLEN.out
        · simp [intOf]
      · have hd : decide (x4 = 1) = false := decide_eq_false hx4
        have hi : ((x4 : Int) == 1) = false := ieq_false (by omega)
        clear hx4
        have hfx : ((x4 : Int) == 1) = false := hi
        have HCR := Lib.hid (show callR (some s) = (⟨x0, x1, x2, args, false, y⟩, s6) by rw [callR, e0, e1, e2, e3, e4, e5]; simp only [hd])
        clear e0 e1 e2 e3 e4
        go_wp2_with fail
        have hbx4 := hbx6.set 4 (.bool false)
        have hkx4 : Keeps (fun k => k = X) w6 (w6.setCell ⟨X, 4, none⟩ (.bool false)) := ⟨rfl, rfl, rfl, by simp, fun k _ hk => Below.heap_setCell w6 ⟨X, 4, none⟩ (.bool false) k hk⟩
        have hr6' := HR6.out.keeps hkx4 (fun h => by omega) (fun i hi => by omega)
        have hbx4' : Blk (w6.setCell ⟨X, 4, none⟩ (.bool false)) X #[.int .i64 x0, .int .i64 x1, .int .i64 x2, .slice au args.length capu, .bool false, .int .i64 0] 82 := by simpa using hbx4
        clear hbx4 hbx6
        generalize w6.setCell ⟨X, 4, none⟩ (.bool false) = w7 at hr6' hbx4' hkx4 ⊢
        have HR7 := Lib.hid hr6'
        clear hr6' x0' x1' x2' x3' x4' x5' z4
        have hsz7 := hkx4.size
        refine (sgn_read w.heap.size w.heap.size s5 w7 HR7.out).mono ?_
        rintro x w8 ⟨rfl, hr8, hk8⟩
        have hsz8 := hk8.size
        rw [e5] at hr8 ⊢
        have hbx8 := hbx4'.keeps hk8 (fun h => by omega)
        obtain ⟨⟨x0', x1', x2', x3', x4', x5'⟩, -, -, -, -, -, z5⟩ := hbx8.six
        have HR8 := Lib.hid hr8
        clear hr8 hbx4' e5
        go_wp2_with (first | (at_builtin; refine Stop.out ?_))
        change wpList _ _ _ _ _ (World.alloc _ (.cells #[.int .i64 x0, .int .i64 x1, .int .i64 x2, .slice au args.length capu, .bool false, .int .i64 y] 82))
        have hbx9 := hbx8.set 5 (.int .i64 y)
        have hkx9 : Keeps (fun k => k = X) w8 (w8.setCell ⟨X, 5, none⟩ (.int .i64 y)) := ⟨rfl, rfl, rfl, by simp, fun k _ hk => Below.heap_setCell w8 ⟨X, 5, none⟩ (.int .i64 y) k hk⟩
        have hr9 := HR8.out.keeps hkx9 (fun h => by omega) (fun i hi => by omega)
        clear hbx9 hbx8 x0' x1' x2' x3' x4' x5' z5
        have hsz98 : (w8.setCell ⟨X, 5, none⟩ (.int .i64 y)).heap.size = w8.heap.size := by simp
        generalize w8.setCell ⟨X, 5, none⟩ (.int .i64 y) = w9 at hr9 hkx9 hsz98 ⊢
        have hsz9 := hkx9.size
        have hk19 : Keeps (fun k => k = w.heap.size) w1 w9 := (((hk15.trans hk56 (fun i h => .inl h)).trans hkx4 (fun i h => .inr (by omega))).trans hk8 (fun i h => .inl h)).trans hkx9 (fun i h => .inr (by omega))
        have hk59 : Keeps (fun k => k = w.heap.size) w5 w9 := ((hk56.trans hkx4 (fun i h => .inr (by omega))).trans hk8 (fun i h => .inl h)).trans hkx9 (fun i h => .inr (by omega))
        have hoc9 := HOC.out.keeps hk19 hnb
        have hu9 : IsRws 2 encV w9 (.slice au args.length capu) args := HU5.out.keeps hk59 (fun a n cp he hj => by have := (HUB5.out a n cp he).1; omega)
        have HOC9 := Lib.hid hoc9
        obtain ⟨us, k1, k2, k3, k4⟩ := hoc9
        have hvlt : ∀ i, OwnB v i → i < w1.heap.size := by obtain ⟨_, _, k, _⟩ := HOC.out; exact fun i hi => (own_lt k hi).2
        have hzl : (acc.zip us).length ≤ 400002 := by rw [List.length_zip]; omega
        refine wpList_row1 w9 rfl _ _ 62 rfl _ 64 (by kernel_rfl) info_call rfl (by decide) (by decide) w.heap.size v (acc.zip us) rfl k2 ((⟨x0, x1, x2, args, false, y⟩, .slice au args.length capu) : CEnt × Value) _ rfl rfl (by intro q hq; simp only [encC, List.mem_cons, List.not_mem_nil, or_false] at hq; rcases hq with rfl | rfl | rfl | rfl | rfl | rfl <;> rfl) (by rw [hsz98]; rfl) (by omega) (by omega) ?_
        intro v10 w10 ho10 hk10 hs10
        have hok : CEnt.ok ⟨x0, x1, x2, args, false, y⟩ := ⟨⟨by show (-9223372036854775808 : Int) ≤ (x0 : Int); omega, by show (x0 : Int) ≤ 9223372036854775807; omega⟩, ⟨by show (-9223372036854775808 : Int) ≤ (x1 : Int); omega, by show (x1 : Int) ≤ 9223372036854775807; omega⟩, ⟨by show (-9223372036854775808 : Int) ≤ (x2 : Int); omega, by show (x2 : Int) ≤ 9223372036854775807; omega⟩, ⟨hy1, hy2⟩, HVO.out⟩
        have hocf := OwnCalls.app (B := w.heap.size) (R := w.heap.size) k1 k3 k4 hk10 hs10 hok hu9 (fun a n cp he => by
          obtain ⟨f1, f2⟩ := HUB5.out a n cp he
          exact ⟨by omega, by omega, by omega, fun h => by have := hvlt _ h; omega⟩) ho10
        have hr10 := hr9.keeps hk10 (fun h => hnb h) (fun i hi => by
          have := (own_lt k2 hi).1
          omega)
        have hb10 : Below w.heap.size w w10 := (hb.trans (hk19.below hb.size (fun i h => by omega))).trans (hk10.below (by omega) (fun i hi => (own_lt k2 hi).1))
        have hnb10 : ¬ OwnB v10 w.heap.size := fun h => (hs10 _ h).elim hnb (fun g => by omega)
        have HOF := Lib.hid hocf
        have HRF := Lib.hid hr10
        clear hocf hr10 hk10 hs10 ho10 k1 k2 k3 k4 hu9 hk19 hk59 hr9 hkx9 hkx4 hk8 hok hk15 hk56 HOC9
        go_wp2_with fail
        refine HR.out _ _ ⟨v10, acc ++ [⟨x0, x1, x2, args, false, y⟩], n', s6, rfl, ⟨?_, HOF.out, hnb10, ?_, HRF.out, hb10, by omega⟩⟩ ?_
        · rw [HV.out, callsL, HCR.out]
          simp
        · rw [List.length_append]
          exact HLEN.out
        · simp [intOf]
end Go.Proofs.Ytbgeijdfkdfdoaa
