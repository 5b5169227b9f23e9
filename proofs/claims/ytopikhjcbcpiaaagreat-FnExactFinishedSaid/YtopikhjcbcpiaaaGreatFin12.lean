/- Part 12 of the steps by which the law is shown: what each function of the program, of the reference and of the law computes. No condition. -/
import Derived.Test.YtopikhjcbcpiaaaGreatFin0
import Derived.Test.YtopikhjcbcpiaaaGreatFin1
import Derived.Test.YtopikhjcbcpiaaaGreatFin6
import Derived.Test.YtopikhjcbcpiaaaGreatFin9
import Derived.Test.YtopikhjcbcpiaaaGreatFin10
import Derived.Test.YtopikhjcbcpiaaaGreatFin11
namespace Go.Proofs.YtopikhjcbcpiaaaGreat.Q
open Go.RowKit Go.Proofs.YtopikhjcbcpiaaaGreatW.PrintWords Go.Proofs.YtopikhjcbcpiaaaGreatW.PrintLast Go.Proofs.YtopikhjcbcpiaaaGreatW.PrintMore
attribute [local go_sem] max2_int min2_int max_two min_two max_three min_three max_four min_four   -- for this text's walks alone
set_option linter.unusedVariables false
set_option linter.unusedSimpArgs false
def impl_Finished.f (k : Nat) (l0_0 : List (S39)) (l0_1 : List (S52)) (l0_2 : List (S82)) (a0_3 : Int) (l0_4 : List (S134)) (l0_5 : List Int) (l0_6 : List Int) (a0_7 : Int) : Option (Bool) := (impl_MachineOk.f k l0_0 l0_1 l0_2 a0_3 l0_4 l0_5 l0_6 a0_7).bind fun t650 => (if t650 = true then ((impl_Finished_1_any.f l0_2).bind fun t651 => (some (!t651))) else (some false))
set_option maxHeartbeats 8000000 in
set_option maxRecDepth 100000 in
theorem impl_Finished.calls (k : Nat) (A0_0 : Option Addr) (c0_0 : Nat) (l0_0 : List (S39)) (A0_1 : Option Addr) (c0_1 : Nat) (l0_1 : List (S52)) (A0_2 : Option Addr) (c0_2 : Nat) (l0_2 : List (S82)) (a0_3 : Int) (A0_4 : Option Addr) (c0_4 : Nat) (l0_4 : List (S134)) (A0_5 : Option Addr) (c0_5 : Nat) (l0_5 : List Int) (A0_6 : Option Addr) (c0_6 : Nat) (l0_6 : List Int) (a0_7 : Int) (r : Bool) (w : World) (hr0_0 : Kd.C k39 w A0_0 l0_0.length l0_0) (hc0_0 : l0_0.length ≤ c0_0) (hr0_1 : Kd.C k52 w A0_1 l0_1.length l0_1) (hc0_1 : l0_1.length ≤ c0_1) (hr0_2 : Kd.C k82 w A0_2 l0_2.length l0_2) (hc0_2 : l0_2.length ≤ c0_2) (hr0_4 : Kd.C k134 w A0_4 l0_4.length l0_4) (hc0_4 : l0_4.length ≤ c0_4) (hr0_5 : Kd.C (Kd.int .i64) w A0_5 l0_5.length l0_5) (hc0_5 : l0_5.length ≤ c0_5) (hr0_6 : Kd.C (Kd.int .i64) w A0_6 l0_6.length l0_6) (hc0_6 : l0_6.length ≤ c0_6) (h : impl_Finished.f k l0_0 l0_1 l0_2 a0_3 l0_4 l0_5 l0_6 a0_7 = some r) :
  Calls Tryz.prog 30 #[.agg #[.slice A0_0 l0_0.length c0_0, .slice A0_1 l0_1.length c0_1, .slice A0_2 l0_2.length c0_2, .int .i64 a0_3, .slice A0_4 l0_4.length c0_4, .slice A0_5 l0_5.length c0_5, .slice A0_6 l0_6.length c0_6, .int .i64 a0_7]] w fun e w' => e = .returned (.bool r) ∧ Below w.heap.size w w' := by
 have hu75 := Tryz.underlying75
 have HR0_0 := Aside0.mk hr0_0
 have HC0_0 := Aside0.mk hc0_0
 clear hr0_0 hc0_0
 have HR0_1 := Aside0.mk hr0_1
 have HC0_1 := Aside0.mk hc0_1
 clear hr0_1 hc0_1
 have HR0_2 := Aside0.mk hr0_2
 have HC0_2 := Aside0.mk hc0_2
 clear hr0_2 hc0_2
 have HR0_4 := Aside0.mk hr0_4
 have HC0_4 := Aside0.mk hc0_4
 clear hr0_4 hc0_4
 have HR0_5 := Aside0.mk hr0_5
 have HC0_5 := Aside0.mk hc0_5
 clear hr0_5 hc0_5
 have HR0_6 := Aside0.mk hr0_6
 have HC0_6 := Aside0.mk hc0_6
 clear hr0_6 hc0_6
 have HB := Aside0.mk (Below.refl w.heap.size w)
 have H := h
 clear h
 unfold impl_Finished.f at H
 obtain ⟨t650, A2, H⟩ := bn H
 try dsimp only at H
 cases t650
 case true =>
  replace H := ipt H
  obtain ⟨t651, A4, H⟩ := bn H
  try dsimp only at H
  obtain rfl := oin H
  go_enter Tryz.func30, Tryz.ntmps30
  go_wp2_with (first | ((with_reducible refine gq 1 rfl ?_); refine bx0 HB (N := 1) (t := 75) ?_; clear HB; intro gb649 w5 BK649 GE649 HB; have hz6 := cs8_ BK649) | ((with_reducible refine gf 27 rfl ?_); refine gL 4 Tryz.func27 #[.agg #[.slice A0_0 l0_0.length c0_0, .slice A0_1 l0_1.length c0_1, .slice A0_2 l0_2.length c0_2, .int .i64 a0_3, .slice A0_4 l0_4.length c0_4, .slice A0_5 l0_5.length c0_5, .slice A0_6 l0_6.length c0_6, .int .i64 a0_7]] ?_; (with_reducible refine (impl_MachineOk.calls k _ _ l0_0 _ _ l0_1 _ _ l0_2 a0_3 _ _ l0_4 _ _ l0_5 _ _ l0_6 a0_7 true _ (kc HR0_0 HB) HC0_0.out (kc HR0_1 HB) HC0_1.out (kc HR0_2 HB) HC0_2.out (kc HR0_4 HB) HC0_4.out (kc HR0_5 HB) HC0_5.out (kc HR0_6 HB) HC0_6.out A2.out).mono ?_); rintro e w7 ⟨rfl, hb⟩; refine ⟨_, rfl, ?_⟩; replace BK649 := bb BK649 hb; replace HB := bs HB hb; (try clear hb); have hz8 := cs8_ BK649) | (go_at_call 103; (with_reducible refine (impl_Finished_1_any.calls _ _ l0_2 t651 _ (kc HR0_2 HB) HC0_2.out A4.out).mono ?_); rintro e w9 ⟨rfl, hb⟩; replace BK649 := bb BK649 hb; replace HB := bs HB hb; (try clear hb)))
  go_ret
  exact ⟨er, tb HB⟩
 replace H := ipf H
 obtain rfl := oin H
 go_enter Tryz.func30, Tryz.ntmps30
 go_wp2_with (first | ((with_reducible refine gq 1 rfl ?_); refine bx0 HB (N := 1) (t := 75) ?_; clear HB; intro gb649 w10 BK649 GE649 HB; have hz11 := cs8_ BK649) | ((with_reducible refine gf 27 rfl ?_); refine gL 4 Tryz.func27 #[.agg #[.slice A0_0 l0_0.length c0_0, .slice A0_1 l0_1.length c0_1, .slice A0_2 l0_2.length c0_2, .int .i64 a0_3, .slice A0_4 l0_4.length c0_4, .slice A0_5 l0_5.length c0_5, .slice A0_6 l0_6.length c0_6, .int .i64 a0_7]] ?_; (with_reducible refine (impl_MachineOk.calls k _ _ l0_0 _ _ l0_1 _ _ l0_2 a0_3 _ _ l0_4 _ _ l0_5 _ _ l0_6 a0_7 false _ (kc HR0_0 HB) HC0_0.out (kc HR0_1 HB) HC0_1.out (kc HR0_2 HB) HC0_2.out (kc HR0_4 HB) HC0_4.out (kc HR0_5 HB) HC0_5.out (kc HR0_6 HB) HC0_6.out A2.out).mono ?_); rintro e w12 ⟨rfl, hb⟩; refine ⟨_, rfl, ?_⟩; replace BK649 := bb BK649 hb; replace HB := bs HB hb; (try clear hb)))
 go_ret
 exact ⟨er, tb HB⟩
end Go.Proofs.YtopikhjcbcpiaaaGreat.Q
section
namespace Go.Proofs.YtopikhjcbcpiaaaGreat.Q
open Go.RowKit Go.Proofs.YtopikhjcbcpiaaaGreatW.PrintWords Go.Proofs.YtopikhjcbcpiaaaGreatX
theorem ev_idx {g : Nat → Int → Option Bool} (n : Nat) (q : Nat → Bool) (rest : Bool)
    (hstep : ∀ i : Nat, i < n → (q i = true → ∀ r, Ev (fun k => g k ((i + 1 : Nat) : Int)) r → Ev (fun k => g k (i : Int)) r) ∧ (q i = false → Ev (fun k => g k (i : Int)) false))
    (hend : Ev (fun k => g k (n : Int)) rest) : Ev (fun k => g k 0) ((List.range n).all q && rest) := by
  refine ev_all (g := g) (List.range n) 0 q rest (fun i hi => ?_) (by simpa using hend)
  have hi' : i < n := by simpa using hi
  have e : (List.range n).getD i 0 = i := by simp [List.getD_eq_getElem?_getD, hi']
  rw [e]
  exact hstep i hi'
def entE (at_ : Int) : List S37 → Int × Int × Int × Bool
  | [] => (0, 0, 0, false)
  | e :: r => if e.f0 = at_ then (e.f0, e.f1, e.f2, true) else entE at_ r
theorem getD37 {l : List S37} {i : Nat} (h : i < l.length) : l.getD i z37 = l[i] := by simp [List.getD_eq_getElem?_getD, List.getElem?_eq_getElem h]
theorem rd37 {l : List S37} {i : Nat} : rd_T37 l (i : Int) = l.getD i z37 := by
  show l.getD (i : Int).toNat z37 = _
  rw [Int.toNat_natCast]
theorem ev_spec_Entries (a b : Int) (l : List S37) (c : Int) (d : List Int) (at_ : Int) (hl : l.length ≤ 1048576) : Ev (fun k => spec_Entries.f k a b l c d at_) (entE at_ l) := by
  have key := ev_down (g := fun k i => spec_Entries.l0 k at_ i a b l c d) (R := fun i => entE at_ (l.drop i)) (n := l.length) (fun i hi h => ?_) 0 (by omega)
  · simpa [spec_Entries.f] using key
  · by_cases hlt : i < l.length
    · rw [List.drop_eq_getElem_cons hlt]
      by_cases hm : l[i].f0 = at_
      · refine ev_to (ev_succ (fun k => ?_)) (by rw [entE, if_pos hm])
        simp only [spec_Entries.l0, rd37, getD37 hlt]
        rw [if_pos (by omega), if_pos (by omega), if_pos hm]
      · refine ev_to (Ev.step (fun k => ?_) (h hlt)) (by rw [entE, if_neg hm])
        simp only [spec_Entries.l0, rd37, getD37 hlt]
        rw [if_pos (by omega), if_pos (by omega), if_neg hm, wrap_succ hlt (by omega)]
    · refine ev_to (ev_succ (fun k => ?_)) (by rw [List.drop_eq_nil_of_le (by omega)])
      simp only [spec_Entries.l0]
      rw [if_neg (by omega)]
      rfl
theorem ev_impl_Entries (a b : Int) (l : List S37) (c : Int) (d : List Int) (at_ : Int) (hl : l.length ≤ 1048576) : Ev (fun k => impl_Entries.f k a b l c d at_) (entE at_ l) := by
  have key := ev_down (g := fun k i => impl_Entries.l0 k at_ l (l.length : Int) i) (R := fun i => entE at_ (l.drop i)) (n := l.length) (fun i hi h => ?_) 0 (by omega)
  · simpa [impl_Entries.f] using key
  · by_cases hlt : i < l.length
    · rw [List.drop_eq_getElem_cons hlt]
      by_cases hm : l[i].f0 = at_
      · refine ev_to (ev_succ (fun k => ?_)) (by rw [entE, if_pos hm])
        simp only [impl_Entries.l0, rd37, getD37 hlt]
        rw [if_pos (by omega), if_pos (by omega), if_pos (by omega), if_pos hm]
      · refine ev_to (Ev.step (fun k => ?_) (h hlt)) (by rw [entE, if_neg hm])
        simp only [impl_Entries.l0, rd37, getD37 hlt]
        rw [if_pos (by omega), if_pos (by omega), if_pos (by omega), if_neg hm, wrap_succ hlt (by omega)]
    · refine ev_to (ev_succ (fun k => ?_)) (by rw [List.drop_eq_nil_of_le (by omega)])
      simp only [impl_Entries.l0]
      rw [if_neg (by omega)]
      rfl
def entB (l : List S37) (i : Nat) : Bool :=
  inB (l.getD i z37).f0 0 19 && (inB (l.getD i z37).f1 0 1000 && (inB (l.getD i z37).f2 0 1000 && (decide (i = 0) || decide ((l.getD (i - 1) z37).f0 < (l.getD i z37).f0))))
def descB (a b : Int) (l : List S37) (c : Int) (d : List Int) : Bool :=
  if a = 0 then decide (b = 0) && (decide (l.length = 0) && (decide (c = 0) && decide (d.length = 0)))
  else (List.range l.length).all (entB l) && (inB a 1 1000000 && (inB b 1 3 && decide (l.length ≤ 20)))
theorem rd_prev {l : List S37} {i : Nat} (h : i < l.length) (h0 : 0 < i) (hl : l.length ≤ 1048576) : wrap64 ((i : Int) - 1) = ((i - 1 : Nat) : Int) := by
  rw [wrap_in (by omega) (by omega)]; omega
theorem ev_impl_DescOk (a b : Int) (l : List S37) (c : Int) (d : List Int) (hl : l.length ≤ 1048576) : Ev (fun k => impl_DescOk.f k a b l c d) (descB a b l c d) := by
  unfold impl_DescOk.f descB
  by_cases ha : a = 0
  · simp only [if_pos ha]
    refine ev_of (fun k => ?_)
    by_cases hb : b = 0
    · by_cases hl0 : l.length = 0
      · by_cases hc : c = 0
        · simp only [hb, hl0, hc, if_true, Int.natCast_zero, decide_true, Bool.true_and, Option.some.injEq]
          rw [Bool.eq_iff_iff]; simp
        · simp [hb, hl0, hc]
      · have : ¬ (l.length : Int) = 0 := by omega
        simp only [if_pos hb, if_neg this, hl0, decide_false, Bool.false_and, Bool.and_false]
    · simp [hb]
  · simp only [if_neg ha]
    refine ev_idx (g := fun k i => impl_DescOk.l0 k l (l.length : Int) i a b l c d) l.length (entB l) _ (fun i hi => ?_) ?_
    · have hp : 0 < i → wrap64 ((i : Int) - 1) = ((i - 1 : Nat) : Int) := fun h0 => rd_prev hi h0 hl
      constructor
      · intro hq r hr
        unfold entB at hq
        simp only [Bool.and_eq_true, Bool.or_eq_true, decide_eq_true_eq] at hq
        obtain ⟨q0, q1, q2, q3⟩ := hq
        refine Ev.step (fun k => ?_) hr
        simp only [impl_DescOk.l0, impl_isPlace.f, impl_isWordNum.f, from_eq, Option.bind_some, rd37, q0, q1, q2, if_true]
        rw [if_pos (by omega), if_pos (by omega), if_pos (by omega), wrap_succ hi (by omega)]
        by_cases h0 : i = 0
        · rw [if_neg (by omega)]
        · have q3' : (l.getD (i - 1) z37).f0 < (l.getD i z37).f0 := by
            rcases q3 with h | h
            · exact absurd h h0
            · exact h
          rw [if_pos (by omega), hp (by omega), if_pos (by omega), if_pos (by omega), rd37, if_neg (by omega)]
      · intro hq
        refine ev_succ (fun k => ?_)
        simp only [impl_DescOk.l0, impl_isPlace.f, impl_isWordNum.f, from_eq, Option.bind_some, rd37]
        rw [if_pos (by omega), if_pos (by omega), if_pos (by omega)]
        unfold entB at hq
        cases q0 : inB (l.getD i z37).f0 0 19 with
        | false => simp
        | true =>
          cases q1 : inB (l.getD i z37).f1 0 1000 with
          | false => simp
          | true =>
            cases q2 : inB (l.getD i z37).f2 0 1000 with
            | false => simp
            | true =>
              simp only [q0, q1, q2, Bool.true_and, Bool.or_eq_false_iff, decide_eq_false_iff_not] at hq
              simp only [if_true]
              rw [if_pos (by omega), hp (by omega), if_pos (by omega), if_pos (by omega), rd37, if_pos (by omega)]
    · refine ev_succ (fun k => ?_)
      simp only [impl_DescOk.l0, from_eq, Option.bind_some]
      rw [if_neg (by omega)]
      cases inB a 1 1000000 <;> cases inB b 1 3 <;> simp
      exact Iff.intro (by omega) (by omega)
theorem ev_spec_DescOk (a b : Int) (l : List S37) (c : Int) (d : List Int) (hl : l.length ≤ 1048576) : Ev (fun k => spec_DescOk.f k a b l c d) (descB a b l c d) := by
  have J : ∀ x : Bool, Ev (fun k => spec_DescOk.j0 k x a b l c d) (!x && (List.range l.length).all (entB l)) := by
    intro x
    cases x with
    | true => exact ev_succ (fun k => by simp [spec_DescOk.j0])
    | false =>
      refine Ev.step (f := fun k => spec_DescOk.l0 k 0 a b l c d) (fun k => by simp [spec_DescOk.j0]) ?_
      refine ev_to (ev_idx (g := fun k i => spec_DescOk.l0 k i a b l c d) l.length (entB l) true (fun i hi => ?_) ?_) (by simp)
      · have hp : 0 < i → wrap64 ((i : Int) - 1) = ((i - 1 : Nat) : Int) := fun h0 => rd_prev hi h0 hl
        constructor
        · intro hq r hr
          unfold entB at hq
          simp only [Bool.and_eq_true, Bool.or_eq_true, decide_eq_true_eq] at hq
          obtain ⟨q0, q1, q2, q3⟩ := hq
          refine Ev.step (fun k => ?_) hr
          simp only [spec_DescOk.l0, l1In_eq, Option.bind_some, rd37, q0, q1, q2, if_true]
          rw [if_pos (by omega), if_pos (by omega), wrap_succ hi (by omega)]
          by_cases h0 : i = 0
          · rw [if_neg (by omega)]
          · have q3' : (l.getD (i - 1) z37).f0 < (l.getD i z37).f0 := by
              rcases q3 with h | h
              · exact absurd h h0
              · exact h
            rw [if_pos (by omega), hp (by omega), if_pos (by omega), if_pos (by omega), rd37, if_neg (by omega)]
        · intro hq
          refine ev_succ (fun k => ?_)
          simp only [spec_DescOk.l0, l1In_eq, Option.bind_some, rd37]
          rw [if_pos (by omega), if_pos (by omega)]
          unfold entB at hq
          cases q0 : inB (l.getD i z37).f0 0 19 with
          | false => simp
          | true =>
            cases q1 : inB (l.getD i z37).f1 0 1000 with
            | false => simp
            | true =>
              cases q2 : inB (l.getD i z37).f2 0 1000 with
              | false => simp
              | true =>
                simp only [q0, q1, q2, Bool.true_and, Bool.or_eq_false_iff, decide_eq_false_iff_not] at hq
                simp only [if_true]
                rw [if_pos (by omega), hp (by omega), if_pos (by omega), if_pos (by omega), rd37, if_pos (by omega)]
      · refine ev_succ (fun k => ?_)
        simp only [spec_DescOk.l0]
        rw [if_neg (by omega)]
  unfold spec_DescOk.f descB
  by_cases ha : a = 0
  · simp only [if_pos ha]
    refine ev_of (fun k => ?_)
    by_cases hb : b = 0
    · by_cases hl0 : l.length = 0
      · by_cases hc : c = 0
        · simp only [hb, hl0, hc, if_true, Int.natCast_zero, decide_true, Bool.true_and, Option.some.injEq]
          rw [Bool.eq_iff_iff]; simp
        · simp [hb, hl0, hc]
      · have : ¬ (l.length : Int) = 0 := by omega
        simp only [if_pos hb, if_neg this, hl0, decide_false, Bool.false_and, Bool.and_false]
    · simp [hb]
  · simp only [if_neg ha, l1In_eq, Option.bind_some]
    cases inB a 1 1000000 with
    | false => exact ev_neg (by simp) (ev_to (J true) (by simp))
    | true =>
      refine ev_pos rfl ?_
      cases inB b 1 3 with
      | false => exact ev_neg (by simp) (ev_to (J true) (by simp))
      | true =>
        refine ev_pos rfl (ev_to (J _) ?_)
        have e : (!decide ((l.length : Int) > 20)) = decide (l.length ≤ 20) := by
          by_cases h : l.length ≤ 20
          · rw [decide_eq_true h, decide_eq_false (by omega)]; rfl
          · rw [decide_eq_false h, decide_eq_true (by omega)]; rfl
        rw [e, Bool.and_comm]
        simp
def wordB (a b c n : Int) : Bool := if b = 0 then inB a 0 1000 && decide (c = 0) else decide (a = 0) && (inB b 1 n && inB c 1 1000000)
theorem impl_WordOk_eq (a b c n : Int) : impl_WordOk.f a b c n = some (wordB a b c n) := by
  unfold impl_WordOk.f wordB
  simp only [impl_isWordNum.f, from_eq, Option.bind_some]
  by_cases hb : b = 0
  · rw [if_pos hb, if_pos hb]
    cases inB a 0 1000 <;> simp
    rw [Bool.eq_iff_iff]; simp
  · rw [if_neg hb, if_neg hb]
    by_cases ha : a = 0
    · rw [if_pos ha]; cases inB b 1 n <;> simp [ha]
    · rw [if_neg ha]; simp [ha]
theorem spec_WordOk_eq (a b c n : Int) : spec_WordOk.f a b c n = some (wordB a b c n) := by
  unfold spec_WordOk.f wordB
  simp only [l1In_eq, Option.bind_some]
  by_cases hb : b = 0
  · rw [if_pos hb, if_pos hb]
    by_cases hc : c = 0
    · rw [if_pos hc]; simp [hc]
    · rw [if_neg hc]; simp [hc]
  · rw [if_neg hb, if_neg hb]
    by_cases ha : a = 0
    · rw [if_pos ha]; cases inB b 1 n <;> simp [ha]
    · rw [if_neg ha]; simp [ha]
def descV (x : S52) : Bool := descB x.f0 x.f1 x.f2 x.f3.f0 x.f3.f1
def markB (ds : List S52) (w : S39) (i : Nat) : Bool :=
  decide (w.f1 = 0) || ((entE (i : Int) (ds.getD (w.f1 - 1).toNat z52).f2).2.2.2 && decide ((ds.getD (w.f1 - 1).toNat z52).f0 = w.f2))
def wordV (ws : List S39) (ds : List S52) (i : Nat) : Bool :=
  wordB (ws.getD i z39).f0 (ws.getD i z39).f1 (ws.getD i z39).f2 ds.length && markB ds (ws.getD i z39) i
def memB (ws : List S39) (ds : List S52) : Bool :=
  decide (ws.length = 20) && (inB ds.length 1 4 && (ds.all descV && (List.range ws.length).all (wordV ws ds)))
def fitM (ds : List S52) : Prop := ∀ x ∈ ds, x.f2.length ≤ 1048576
theorem wordB_range {a b c n : Int} (h : wordB a b c n = true) (hb : ¬ b = 0) : 1 ≤ b ∧ b ≤ n := by
  unfold wordB at h
  rw [if_neg hb] at h
  simp only [Bool.and_eq_true] at h
  simpa [inB] using h.2.1
theorem getD52 {l : List S52} {i : Nat} (h : i < l.length) : l.getD i z52 = l[i] := by simp [List.getD_eq_getElem?_getD, List.getElem?_eq_getElem h]
theorem ev_impl_words (ws : List S39) (ds : List S52) (hw : ws.length ≤ 1048576) (hd : ds.length ≤ 1048576) (hf : fitM ds) :
    Ev (fun k => impl_MemOk.l0 k ws (ws.length : Int) 0 ws ds) ((List.range ws.length).all (wordV ws ds)) := by
  refine ev_to (ev_idx (g := fun k i => impl_MemOk.l0 k ws (ws.length : Int) i ws ds) ws.length (wordV ws ds) true (fun i hi => ?_) ?_) (by simp)
  · have e : rd_T39 ws (i : Int) = ws.getD i z39 := rfl
    unfold wordV
    generalize hx : ws.getD i z39 = w at e ⊢
    by_cases hb : w.f1 = 0
    · constructor
      · intro hq r hr
        simp only [Bool.and_eq_true] at hq
        refine Ev.step (fun k => ?_) hr
        simp only [impl_MemOk.l0, impl_WordOk_eq, Option.bind_some, e, hq.1]
        rw [if_pos (by omega), if_pos (by omega), if_pos (by omega), if_pos trivial, if_pos hb, wrap_succ hi (by omega)]
      · intro hq
        have hq' : wordB w.f0 w.f1 w.f2 (ds.length : Int) = false := by
          unfold markB at hq
          simpa [hb] using hq
        refine ev_succ (fun k => ?_)
        simp only [impl_MemOk.l0, impl_WordOk_eq, Option.bind_some, e, hq']
        rw [if_pos (by omega), if_pos (by omega), if_pos (by omega), if_neg (by simp)]
    · cases hwb : wordB w.f0 w.f1 w.f2 (ds.length : Int) with
      | false =>
        refine ⟨fun hq => by simp at hq, fun _ => ev_succ (fun k => ?_)⟩
        simp only [impl_MemOk.l0, impl_WordOk_eq, Option.bind_some, e, hwb]
        rw [if_pos (by omega), if_pos (by omega), if_pos (by omega), if_neg (by simp)]
      | true =>
        have hr := wordB_range hwb hb
        have ht : wrap64 (w.f1 - 1) = ((w.f1 - 1).toNat : Int) := by rw [wrap_in (by omega) (by omega)]; omega
        have hlt : (w.f1 - 1).toNat < ds.length := by omega
        have ed : rd_T52 ds (((w.f1 - 1).toNat : Nat) : Int) = ds.getD (w.f1 - 1).toNat z52 := rfl
        have hfit := hf _ (List.getElem_mem hlt)
        rw [← getD52 hlt] at hfit
        unfold markB
        generalize hdd : ds.getD (w.f1 - 1).toNat z52 = dd at ed hfit ⊢
        have hE := ev_impl_Entries dd.f0 dd.f1 dd.f2 dd.f3.f0 dd.f3.f1 (i : Int) hfit
        have hm : decide (w.f1 = 0) = false := decide_eq_false hb
        rw [hm]
        constructor
        · intro hq r hrr
          simp only [Bool.true_and, Bool.false_or, Bool.and_eq_true, decide_eq_true_eq] at hq
          refine Ev.step (f := fun k => (impl_Entries.f k dd.f0 dd.f1 dd.f2 dd.f3.f0 dd.f3.f1 (i : Int)).bind fun bt => if bt.2.2.2 = true then (if dd.f0 = w.f2 then impl_MemOk.l0 k ws (ws.length : Int) ((i + 1 : Nat) : Int) ws ds else some false) else some false) (fun k => ?_) (Ev.bind hE (ev_pos hq.1 (ev_pos hq.2 hrr)))
          simp only [impl_MemOk.l0, impl_WordOk_eq, Option.bind_some, e, hwb, ht, ed]
          rw [if_pos (by omega), if_pos (by omega), if_pos (by omega), if_pos trivial, if_neg hb, if_pos (by omega), if_pos (by omega), wrap_succ hi (by omega)]
        · intro hq
          simp only [Bool.true_and, Bool.false_or] at hq
          refine Ev.step (f := fun k => (impl_Entries.f k dd.f0 dd.f1 dd.f2 dd.f3.f0 dd.f3.f1 (i : Int)).bind fun bt => if bt.2.2.2 = true then (if dd.f0 = w.f2 then impl_MemOk.l0 k ws (ws.length : Int) ((i + 1 : Nat) : Int) ws ds else some false) else some false) (fun k => ?_) (Ev.bind hE ?_)
          · simp only [impl_MemOk.l0, impl_WordOk_eq, Option.bind_some, e, hwb, ht, ed]
            rw [if_pos (by omega), if_pos (by omega), if_pos (by omega), if_pos trivial, if_neg hb, if_pos (by omega), if_pos (by omega), wrap_succ hi (by omega)]
          · cases h4 : (entE (i : Int) dd.f2).2.2.2 with
            | false => exact ev_neg (by simp) (Ev.now _)
            | true =>
              refine ev_pos rfl (ev_neg ?_ (Ev.now _))
              simpa [h4] using hq
  · refine ev_succ (fun k => ?_)
    simp only [impl_MemOk.l0]
    rw [if_neg (by omega)]
theorem ev_spec_words (ws : List S39) (ds : List S52) (hw : ws.length ≤ 1048576) (hd : ds.length ≤ 1048576) (hf : fitM ds) :
    Ev (fun k => spec_MemOk.l1 k 0 ws ds) ((List.range ws.length).all (wordV ws ds)) := by
  refine ev_to (ev_idx (g := fun k i => spec_MemOk.l1 k i ws ds) ws.length (wordV ws ds) true (fun i hi => ?_) ?_) (by simp)
  · have e : rd_T39 ws (i : Int) = ws.getD i z39 := rfl
    unfold wordV
    generalize hx : ws.getD i z39 = w at e ⊢
    by_cases hb : w.f1 = 0
    · constructor
      · intro hq r hr
        simp only [Bool.and_eq_true] at hq
        refine Ev.step (fun k => ?_) hr
        simp only [spec_MemOk.l1, spec_WordOk_eq, Option.bind_some, e, hq.1]
        rw [if_pos (by omega), if_pos (by omega), if_pos trivial, if_neg (by omega), wrap_succ hi (by omega)]
      · intro hq
        have hq' : wordB w.f0 w.f1 w.f2 (ds.length : Int) = false := by
          unfold markB at hq
          simpa [hb] using hq
        refine ev_succ (fun k => ?_)
        simp only [spec_MemOk.l1, spec_WordOk_eq, Option.bind_some, e, hq']
        rw [if_pos (by omega), if_pos (by omega), if_neg (by simp)]
    · cases hwb : wordB w.f0 w.f1 w.f2 (ds.length : Int) with
      | false =>
        refine ⟨fun hq => by simp at hq, fun _ => ev_succ (fun k => ?_)⟩
        simp only [spec_MemOk.l1, spec_WordOk_eq, Option.bind_some, e, hwb]
        rw [if_pos (by omega), if_pos (by omega), if_neg (by simp)]
      | true =>
        have hr := wordB_range hwb hb
        have ht : wrap64 (w.f1 - 1) = ((w.f1 - 1).toNat : Int) := by rw [wrap_in (by omega) (by omega)]; omega
        have hlt : (w.f1 - 1).toNat < ds.length := by omega
        have ed : rd_T52 ds (((w.f1 - 1).toNat : Nat) : Int) = ds.getD (w.f1 - 1).toNat z52 := rfl
        have hfit := hf _ (List.getElem_mem hlt)
        rw [← getD52 hlt] at hfit
        unfold markB
        generalize hdd : ds.getD (w.f1 - 1).toNat z52 = dd at ed hfit ⊢
        have hE := ev_spec_Entries dd.f0 dd.f1 dd.f2 dd.f3.f0 dd.f3.f1 (i : Int) hfit
        have hm : decide (w.f1 = 0) = false := decide_eq_false hb
        rw [hm]
        constructor
        · intro hq r hrr
          simp only [Bool.true_and, Bool.false_or, Bool.and_eq_true, decide_eq_true_eq] at hq
          refine Ev.step (f := fun k => (spec_Entries.f k dd.f0 dd.f1 dd.f2 dd.f3.f0 dd.f3.f1 (i : Int)).bind fun bt => if bt.2.2.2 = true then (if dd.f0 = w.f2 then spec_MemOk.l1 k ((i + 1 : Nat) : Int) ws ds else some false) else some false) (fun k => ?_) (Ev.bind hE (ev_pos hq.1 (ev_pos hq.2 hrr)))
          simp only [spec_MemOk.l1, spec_WordOk_eq, Option.bind_some, e, hwb, ht, ed]
          rw [if_pos (by omega), if_pos (by omega), if_pos trivial, if_pos (by omega), if_pos (by omega), if_pos (by omega), wrap_succ hi (by omega)]
        · intro hq
          simp only [Bool.true_and, Bool.false_or] at hq
          refine Ev.step (f := fun k => (spec_Entries.f k dd.f0 dd.f1 dd.f2 dd.f3.f0 dd.f3.f1 (i : Int)).bind fun bt => if bt.2.2.2 = true then (if dd.f0 = w.f2 then spec_MemOk.l1 k ((i + 1 : Nat) : Int) ws ds else some false) else some false) (fun k => ?_) (Ev.bind hE ?_)
          · simp only [spec_MemOk.l1, spec_WordOk_eq, Option.bind_some, e, hwb, ht, ed]
            rw [if_pos (by omega), if_pos (by omega), if_pos trivial, if_pos (by omega), if_pos (by omega), if_pos (by omega), wrap_succ hi (by omega)]
          · cases h4 : (entE (i : Int) dd.f2).2.2.2 with
            | false => exact ev_neg (by simp) (Ev.now _)
            | true =>
              refine ev_pos rfl (ev_neg ?_ (Ev.now _))
              simpa [h4] using hq
  · refine ev_succ (fun k => ?_)
    simp only [spec_MemOk.l1]
    rw [if_neg (by omega)]
theorem ev_impl_MemOk (ws : List S39) (ds : List S52) (hw : ws.length ≤ 1048576) (hd : ds.length ≤ 1048576) (hf : fitM ds) : Ev (fun k => impl_MemOk.f k ws ds) (memB ws ds) := by
  have hany : Ev (fun k => impl_MemOk_1_any.f k ds) (ds.any fun x => !descV x) := by
    unfold impl_MemOk_1_any.f
    refine ev_any (p := fun k (x : S52) => impl_MemOk_1.f k x.f0 x.f1 x.f2 x.f3.f0 x.f3.f1) _ (fun x hx => ?_)
    unfold impl_MemOk_1.f
    exact Ev.bind (f := fun _ b => some (!b)) (ev_impl_DescOk _ _ _ _ _ (hf x hx)) (Ev.now _)
  have e1 : ds.all descV = !(ds.any fun x => !descV x) := by simp [List.all_eq_not_any_not]
  have J : ∀ b : Bool, Ev (fun k => impl_MemOk.j0 k b ws ds) (!b && (List.range ws.length).all (wordV ws ds)) := by
    intro b
    cases b with
    | true => exact ev_succ (fun k => by simp [impl_MemOk.j0])
    | false => exact ev_to (Ev.step (fun k => by simp [impl_MemOk.j0]) (ev_impl_words ws ds hw hd hf)) (by simp)
  unfold impl_MemOk.f memB
  simp only [from_eq, Option.bind_some]
  by_cases h20 : ws.length = 20
  · refine ev_pos (by omega) ?_
    rw [decide_eq_true h20, Bool.true_and]
    cases inB (ds.length : Int) 1 4 with
    | false => exact ev_neg (by simp) (ev_to (J true) (by simp))
    | true => exact ev_pos rfl (Ev.bind hany (ev_to (J _) (by rw [e1]; simp)))
  · refine ev_neg (by omega) (ev_to (J true) ?_)
    rw [decide_eq_false h20]; simp
theorem ev_spec_MemOk (ws : List S39) (ds : List S52) (hw : ws.length ≤ 1048576) (hd : ds.length ≤ 1048576) (hf : fitM ds) : Ev (fun k => spec_MemOk.f k ws ds) (memB ws ds) := by
  have L : Ev (fun k => spec_MemOk.l0 k 0 ws ds) (ds.all descV && (List.range ws.length).all (wordV ws ds)) := by
    refine ev_all (g := fun k i => spec_MemOk.l0 k i ws ds) ds z52 descV _ (fun i hi => ?_) ?_
    · have e : rd_T52 ds (i : Int) = ds.getD i z52 := rfl
      have hfit := hf _ (List.getElem_mem hi)
      rw [← getD52 hi] at hfit
      generalize hx : ds.getD i z52 = x at e hfit ⊢
      have hev := ev_spec_DescOk x.f0 x.f1 x.f2 x.f3.f0 x.f3.f1 hfit
      constructor
      · intro hq r hr
        rw [show descB x.f0 x.f1 x.f2 x.f3.f0 x.f3.f1 = true from hq] at hev
        refine Ev.step (fun k => ?_) (Ev.bind (f := fun k b => if b = true then spec_MemOk.l0 k ((i + 1 : Nat) : Int) ws ds else some false) hev (by simpa using hr))
        simp only [spec_MemOk.l0, e]
        rw [if_pos (by omega), if_pos (by omega), wrap_succ hi (by omega)]
      · intro hq
        rw [show descB x.f0 x.f1 x.f2 x.f3.f0 x.f3.f1 = false from hq] at hev
        refine Ev.step (fun k => ?_) (Ev.bind (f := fun k b => if b = true then spec_MemOk.l0 k ((i + 1 : Nat) : Int) ws ds else some false) hev (by simpa using Ev.now false))
        simp only [spec_MemOk.l0, e]
        rw [if_pos (by omega), if_pos (by omega), wrap_succ hi (by omega)]
    · refine Ev.step (fun k => ?_) (ev_spec_words ws ds hw hd hf)
      simp only [spec_MemOk.l0]
      rw [if_neg (by omega)]
  have J : ∀ b : Bool, Ev (fun k => spec_MemOk.j0 k b ws ds) (!b && (ds.all descV && (List.range ws.length).all (wordV ws ds))) := by
    intro b
    cases b with
    | true => exact ev_succ (fun k => by simp [spec_MemOk.j0])
    | false => exact ev_to (Ev.step (fun k => by simp [spec_MemOk.j0]) L) (by simp)
  unfold spec_MemOk.f memB
  simp only [l1In_eq, Option.bind_some]
  by_cases h20 : ws.length = 20
  · refine ev_pos (by omega) (ev_to (J _) ?_)
    rw [decide_eq_true h20]; simp
  · refine ev_neg (by omega) (ev_to (J true) ?_)
    rw [decide_eq_false h20]; simp
end Go.Proofs.YtopikhjcbcpiaaaGreat.Q
end
