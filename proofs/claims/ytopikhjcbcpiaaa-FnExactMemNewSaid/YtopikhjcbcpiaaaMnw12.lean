/- Part 12 of the steps by which the law is shown: what each function of the program, of the reference and of the law computes. No condition. -/
import Derived.Test.YtopikhjcbcpiaaaMnw0
import Derived.Test.YtopikhjcbcpiaaaMnw2
import Derived.Test.YtopikhjcbcpiaaaMnw3
import Derived.Test.YtopikhjcbcpiaaaMnw8
import Derived.Test.YtopikhjcbcpiaaaMnw9
import Derived.Test.YtopikhjcbcpiaaaMnw10
import Derived.Test.YtopikhjcbcpiaaaMnw11
section
/- The words of rows: the program's and the reference's are the same list (right rows are few: the kernel goes through them). -/
namespace Go.Proofs.Ytopikhjcbcpiaaa.Q
open Go.RowKit Go.Proofs.YtopikhjcbcpiaaaW.PrintWords Go.Proofs.YtopikhjcbcpiaaaX
def sameWords (a b c d s : Nat) : Bool :=
  match spec_WordsOf.f 40 [(a : Int), (b : Int), (c : Int), (d : Int)] (s : Int), impl_WordsOf.f 40 [(a : Int), (b : Int), (c : Int), (d : Int)] (s : Int) with
  | some x, some y => decide (x = y) && decide (x.length ≤ 20)
  | _, _ => false
def words4 (a : Nat) : Bool := (List.range 7).all fun b => (List.range 7).all fun c => (List.range 7).all fun d => (List.range 6).all fun s => sameWords a b c d s
theorem words4_0 : words4 0 = true := by decide +kernel
theorem words4_1 : words4 1 = true := by decide +kernel
theorem words4_2 : words4 2 = true := by decide +kernel
theorem words4_3 : words4 3 = true := by decide +kernel
theorem words4_4 : words4 4 = true := by decide +kernel
theorem words4_5 : words4 5 = true := by decide +kernel
theorem words4_6 : words4 6 = true := by decide +kernel
theorem words4_all (a : Nat) (h : a < 7) : words4 a = true := by
  match a, h with
  | 0, _ => exact words4_0
  | 1, _ => exact words4_1
  | 2, _ => exact words4_2
  | 3, _ => exact words4_3
  | 4, _ => exact words4_4
  | 5, _ => exact words4_5
  | 6, _ => exact words4_6
  | n + 7, h => omega
theorem words_both (l : List Int) (st : Int) (hl : l.length ≤ 1048576) : ∃ r : List Int, Ev (fun k => spec_WordsOf.f k l st) r ∧ Ev (fun k => impl_WordsOf.f k l st) r ∧ r.length ≤ 20 := by
  cases h : rowsOkB l st with
  | false =>
    have h1 := ev_spec_RowsOk l st hl
    have h2 := ev_impl_RowsOk l st hl
    rw [h] at h1 h2
    exact ⟨[], Ev.bind h1 (ev_neg (by simp) (Ev.now _)), Ev.bind h2 (ev_neg (by simp) (Ev.now _)), by simp⟩
  | true =>
    obtain ⟨h1, h2, h3, h4⟩ := rowsOk_iff.1 h
    match l, h2 with
    | [a, b, c, d], _ =>
      have key : ∀ i, i < 4 → ∃ n : Nat, n < 7 ∧ [a, b, c, d].getD i 0 = (n : Int) := fun i hi => by
        have := (rowB_iff (l := [a, b, c, d]) (i := i) hi).1 (h1 i hi)
        refine ⟨([a, b, c, d].getD i 0).toNat, ?_, ?_⟩ <;> omega
      obtain ⟨a', ha, rfl⟩ : ∃ n : Nat, n < 7 ∧ a = (n : Int) := key 0 (by omega)
      obtain ⟨b', hb, rfl⟩ : ∃ n : Nat, n < 7 ∧ b = (n : Int) := key 1 (by omega)
      obtain ⟨c', hc, rfl⟩ : ∃ n : Nat, n < 7 ∧ c = (n : Int) := key 2 (by omega)
      obtain ⟨d', hd, rfl⟩ : ∃ n : Nat, n < 7 ∧ d = (n : Int) := key 3 (by omega)
      obtain ⟨s', rfl⟩ : ∃ n : Nat, st = (n : Int) := ⟨st.toNat, by omega⟩
      have hs : s' < 6 := by omega
      have hw := words4_all a' ha
      unfold words4 at hw
      simp only [List.all_eq_true, List.mem_range] at hw
      have hw := hw b' hb c' hc d' hd s' hs
      unfold sameWords at hw
      split at hw
      · rename_i x y hx hy
        simp only [Bool.and_eq_true, decide_eq_true_eq] at hw
        obtain ⟨rfl, hx20⟩ := hw
        exact ⟨x, Ev.of (spec_WordsOf.mono _ _) hx, Ev.of (impl_WordsOf.mono _ _) hy, hx20⟩
      · simp at hw
end Go.Proofs.Ytopikhjcbcpiaaa.Q
end
section
/- A memory is right, told once: the program's and the reference's test of tries, words and a memory. -/
namespace Go.Proofs.Ytopikhjcbcpiaaa.Q
open Go.RowKit Go.Proofs.YtopikhjcbcpiaaaW.PrintWords Go.Proofs.YtopikhjcbcpiaaaX

theorem ev_any {α : Type} {p : Nat → α → Option Bool} {q : α → Bool} : ∀ l : List α, (∀ x ∈ l, Ev (fun k => p k x) (q x)) → Ev (fun k => anyO (p k) l) (l.any q)
  | [], _ => Ev.now false
  | x :: xs, h => by
    have ih := ev_any xs (fun y hy => h y (List.mem_cons_of_mem _ hy))
    show Ev (fun k => (p k x).bind fun b => if b = true then some true else anyO (p k) xs) _
    refine Ev.bind (f := fun k b => if b = true then some true else anyO (p k) xs) (h x List.mem_cons_self) ?_
    cases hq : q x with
    | true => simp only [if_true]; exact ev_to (Ev.now true) (by simp [hq])
    | false => simp only [Bool.false_eq_true, if_false]; exact ev_to ih (by simp [hq])
theorem any_eq {α : Type} {p : α → Option Bool} {q : α → Bool} : ∀ l : List α, (∀ x ∈ l, p x = some (q x)) → anyO p l = some (l.any q)
  | [], _ => rfl
  | x :: xs, h => by
    have ih := any_eq xs (fun y hy => h y (List.mem_cons_of_mem _ hy))
    unfold anyO
    rw [h x List.mem_cons_self, Option.bind_some, ih]
    cases hq : q x <;> simp [hq]
/-- A loop that goes on as long as each element is right, and then goes on to what follows. -/
theorem ev_all {α : Type} {g : Nat → Int → Option Bool} (l : List α) (z : α) (q : α → Bool) (rest : Bool)
    (hstep : ∀ i : Nat, i < l.length → (q (l.getD i z) = true → ∀ r, Ev (fun k => g k ((i + 1 : Nat) : Int)) r → Ev (fun k => g k (i : Int)) r) ∧ (q (l.getD i z) = false → Ev (fun k => g k (i : Int)) false))
    (hend : Ev (fun k => g k (l.length : Int)) rest) : Ev (fun k => g k 0) (l.all q && rest) := by
  have key := ev_down (g := g) (R := fun i => (l.drop i).all q && rest) (n := l.length) (fun i hi h => ?_) 0 (by omega)
  · simpa using key
  · by_cases hlt : i < l.length
    · have e : l.getD i z = l[i] := by simp [List.getD_eq_getElem?_getD, List.getElem?_eq_getElem hlt]
      have hs := hstep i hlt
      rw [e] at hs
      have hd : (l.drop i).all q = (q l[i] && (l.drop (i + 1)).all q) := by rw [List.drop_eq_getElem_cons hlt, List.all_cons]
      rw [hd]
      cases hq : q l[i] with
      | true => exact ev_to (hs.1 hq _ (h hlt)) (by simp)
      | false => exact ev_to (hs.2 hq) (by simp)
    · obtain rfl : i = l.length := by omega
      exact ev_to hend (by simp)

/-- A loop over places that goes on as long as each is right, and then goes on to what follows. -/
theorem ev_idx {g : Nat → Int → Option Bool} (n : Nat) (q : Nat → Bool) (rest : Bool)
    (hstep : ∀ i : Nat, i < n → (q i = true → ∀ r, Ev (fun k => g k ((i + 1 : Nat) : Int)) r → Ev (fun k => g k (i : Int)) r) ∧ (q i = false → Ev (fun k => g k (i : Int)) false))
    (hend : Ev (fun k => g k (n : Int)) rest) : Ev (fun k => g k 0) ((List.range n).all q && rest) := by
  refine ev_all (g := g) (List.range n) 0 q rest (fun i hi => ?_) (by simpa using hend)
  have hi' : i < n := by simpa using hi
  have e : (List.range n).getD i 0 = i := by simp [List.getD_eq_getElem?_getD, hi']
  rw [e]
  exact hstep i hi'

/-- The first entry at a place. -/
def entE (at_ : Int) : List S166 → Int × Int × Int × Bool
  | [] => (0, 0, 0, false)
  | e :: r => if e.f0 = at_ then (e.f0, e.f1, e.f2, true) else entE at_ r
theorem getD_166 {l : List S166} {i : Nat} (h : i < l.length) : l.getD i z166 = l[i] := by simp [List.getD_eq_getElem?_getD, List.getElem?_eq_getElem h]
theorem rd_166 {l : List S166} {i : Nat} : rd_T166 l (i : Int) = l.getD i z166 := by
  show l.getD (i : Int).toNat z166 = _
  rw [Int.toNat_natCast]
theorem ev_spec_Entries (a b : Int) (l : List S166) (c : Int) (d : List Int) (at_ : Int) (hl : l.length ≤ 1048576) : Ev (fun k => spec_Entries.f k a b l c d at_) (entE at_ l) := by
  have key := ev_down (g := fun k i => spec_Entries.l0 k at_ i a b l c d) (R := fun i => entE at_ (l.drop i)) (n := l.length) (fun i hi h => ?_) 0 (by omega)
  · simpa [spec_Entries.f] using key
  · by_cases hlt : i < l.length
    · rw [List.drop_eq_getElem_cons hlt]
      by_cases hm : l[i].f0 = at_
      · refine ev_to (ev_succ (fun k => ?_)) (by rw [entE, if_pos hm])
        simp only [spec_Entries.l0, rd_166, getD_166 hlt]
        rw [if_pos (by omega), if_pos (by omega), if_pos hm]
      · refine ev_to (Ev.step (fun k => ?_) (h hlt)) (by rw [entE, if_neg hm])
        simp only [spec_Entries.l0, rd_166, getD_166 hlt]
        rw [if_pos (by omega), if_pos (by omega), if_neg hm, wrap_succ hlt (by omega)]
    · refine ev_to (ev_succ (fun k => ?_)) (by rw [List.drop_eq_nil_of_le (by omega)])
      simp only [spec_Entries.l0]
      rw [if_neg (by omega)]
      rfl
theorem ev_impl_Entries (a b : Int) (l : List S166) (c : Int) (d : List Int) (at_ : Int) (hl : l.length ≤ 1048576) : Ev (fun k => impl_Entries.f k a b l c d at_) (entE at_ l) := by
  have key := ev_down (g := fun k i => impl_Entries.l0 k at_ l (l.length : Int) i) (R := fun i => entE at_ (l.drop i)) (n := l.length) (fun i hi h => ?_) 0 (by omega)
  · simpa [impl_Entries.f] using key
  · by_cases hlt : i < l.length
    · rw [List.drop_eq_getElem_cons hlt]
      by_cases hm : l[i].f0 = at_
      · refine ev_to (ev_succ (fun k => ?_)) (by rw [entE, if_pos hm])
        simp only [impl_Entries.l0, rd_166, getD_166 hlt]
        rw [if_pos (by omega), if_pos (by omega), if_pos (by omega), if_pos hm]
      · refine ev_to (Ev.step (fun k => ?_) (h hlt)) (by rw [entE, if_neg hm])
        simp only [impl_Entries.l0, rd_166, getD_166 hlt]
        rw [if_pos (by omega), if_pos (by omega), if_pos (by omega), if_neg hm, wrap_succ hlt (by omega)]
    · refine ev_to (ev_succ (fun k => ?_)) (by rw [List.drop_eq_nil_of_le (by omega)])
      simp only [impl_Entries.l0]
      rw [if_neg (by omega)]
      rfl

def entB (l : List S166) (i : Nat) : Bool :=
  inB (l.getD i z166).f0 0 19 && (inB (l.getD i z166).f1 0 1000 && (inB (l.getD i z166).f2 0 1000 && (decide (i = 0) || decide ((l.getD (i - 1) z166).f0 < (l.getD i z166).f0))))
def descB (a b : Int) (l : List S166) (c : Int) (d : List Int) : Bool :=
  if a = 0 then decide (b = 0) && (decide (l.length = 0) && (decide (c = 0) && decide (d.length = 0)))
  else (List.range l.length).all (entB l) && (inB a 1 1000000 && (inB b 1 3 && decide (l.length ≤ 20)))
theorem rd_prev {l : List S166} {i : Nat} (h : i < l.length) (h0 : 0 < i) (hl : l.length ≤ 1048576) : wrap64 ((i : Int) - 1) = ((i - 1 : Nat) : Int) := by
  rw [wrap_in (by omega) (by omega)]; omega
theorem ev_impl_DescOk (a b : Int) (l : List S166) (c : Int) (d : List Int) (hl : l.length ≤ 1048576) : Ev (fun k => impl_DescOk.f k a b l c d) (descB a b l c d) := by
  unfold impl_DescOk.f descB
  by_cases ha : a = 0
  · simp only [if_pos ha]
    refine ev_of (fun k => ?_)
    by_cases hb : b = 0
    · by_cases hl0 : l.length = 0
      · by_cases hc : c = 0
        · simp only [hb, hl0, hc, if_true, Int.natCast_zero, decide_true, Bool.true_and, Option.some.injEq]
          rw [Bool.eq_iff_iff]; simp
        · simp [hb, hl0, hc]
      · have : ¬ (l.length : Int) = 0 := by omega
        simp only [if_pos hb, if_neg this, hl0, decide_false, Bool.false_and, Bool.and_false]
    · simp [hb]
  · simp only [if_neg ha]
    refine ev_idx (g := fun k i => impl_DescOk.l0 k l (l.length : Int) i a b l c d) l.length (entB l) _ (fun i hi => ?_) ?_
    · have hp : 0 < i → wrap64 ((i : Int) - 1) = ((i - 1 : Nat) : Int) := fun h0 => rd_prev hi h0 hl
      constructor
      · intro hq r hr
        unfold entB at hq
        simp only [Bool.and_eq_true, Bool.or_eq_true, decide_eq_true_eq] at hq
        obtain ⟨q0, q1, q2, q3⟩ := hq
        refine Ev.step (fun k => ?_) hr
        simp only [impl_DescOk.l0, impl_isPlace.f, impl_isWordNum.f, from_eq, Option.bind_some, rd_166, q0, q1, q2, if_true]
        rw [if_pos (by omega), if_pos (by omega), if_pos (by omega), wrap_succ hi (by omega)]
        by_cases h0 : i = 0
        · rw [if_neg (by omega)]
        · have q3' : (l.getD (i - 1) z166).f0 < (l.getD i z166).f0 := by
            rcases q3 with h | h
            · exact absurd h h0
            · exact h
          rw [if_pos (by omega), hp (by omega), if_pos (by omega), if_pos (by omega), rd_166, if_neg (by omega)]
      · intro hq
        refine ev_succ (fun k => ?_)
        simp only [impl_DescOk.l0, impl_isPlace.f, impl_isWordNum.f, from_eq, Option.bind_some, rd_166]
        rw [if_pos (by omega), if_pos (by omega), if_pos (by omega)]
        unfold entB at hq
        cases q0 : inB (l.getD i z166).f0 0 19 with
        | false => simp
        | true =>
          cases q1 : inB (l.getD i z166).f1 0 1000 with
          | false => simp
          | true =>
            cases q2 : inB (l.getD i z166).f2 0 1000 with
            | false => simp
            | true =>
              simp only [q0, q1, q2, Bool.true_and, Bool.or_eq_false_iff, decide_eq_false_iff_not] at hq
              simp only [if_true]
              rw [if_pos (by omega), hp (by omega), if_pos (by omega), if_pos (by omega), rd_166, if_pos (by omega)]
    · refine ev_succ (fun k => ?_)
      simp only [impl_DescOk.l0, from_eq, Option.bind_some]
      rw [if_neg (by omega)]
      cases inB a 1 1000000 <;> cases inB b 1 3 <;> simp
      exact Iff.intro (by omega) (by omega)
theorem ev_spec_DescOk (a b : Int) (l : List S166) (c : Int) (d : List Int) (hl : l.length ≤ 1048576) : Ev (fun k => spec_DescOk.f k a b l c d) (descB a b l c d) := by
  have J : ∀ x : Bool, Ev (fun k => spec_DescOk.j0 k x a b l c d) (!x && (List.range l.length).all (entB l)) := by
    intro x
    cases x with
    | true => exact ev_succ (fun k => by simp [spec_DescOk.j0])
    | false =>
      refine Ev.step (f := fun k => spec_DescOk.l0 k 0 a b l c d) (fun k => by simp [spec_DescOk.j0]) ?_
      refine ev_to (ev_idx (g := fun k i => spec_DescOk.l0 k i a b l c d) l.length (entB l) true (fun i hi => ?_) ?_) (by simp)
      · have hp : 0 < i → wrap64 ((i : Int) - 1) = ((i - 1 : Nat) : Int) := fun h0 => rd_prev hi h0 hl
        constructor
        · intro hq r hr
          unfold entB at hq
          simp only [Bool.and_eq_true, Bool.or_eq_true, decide_eq_true_eq] at hq
          obtain ⟨q0, q1, q2, q3⟩ := hq
          refine Ev.step (fun k => ?_) hr
          simp only [spec_DescOk.l0, l1In_eq, Option.bind_some, rd_166, q0, q1, q2, if_true]
          rw [if_pos (by omega), if_pos (by omega), wrap_succ hi (by omega)]
          by_cases h0 : i = 0
          · rw [if_neg (by omega)]
          · have q3' : (l.getD (i - 1) z166).f0 < (l.getD i z166).f0 := by
              rcases q3 with h | h
              · exact absurd h h0
              · exact h
            rw [if_pos (by omega), hp (by omega), if_pos (by omega), if_pos (by omega), rd_166, if_neg (by omega)]
        · intro hq
          refine ev_succ (fun k => ?_)
          simp only [spec_DescOk.l0, l1In_eq, Option.bind_some, rd_166]
          rw [if_pos (by omega), if_pos (by omega)]
          unfold entB at hq
          cases q0 : inB (l.getD i z166).f0 0 19 with
          | false => simp
          | true =>
            cases q1 : inB (l.getD i z166).f1 0 1000 with
            | false => simp
            | true =>
              cases q2 : inB (l.getD i z166).f2 0 1000 with
              | false => simp
              | true =>
                simp only [q0, q1, q2, Bool.true_and, Bool.or_eq_false_iff, decide_eq_false_iff_not] at hq
                simp only [if_true]
                rw [if_pos (by omega), hp (by omega), if_pos (by omega), if_pos (by omega), rd_166, if_pos (by omega)]
      · refine ev_succ (fun k => ?_)
        simp only [spec_DescOk.l0]
        rw [if_neg (by omega)]
  unfold spec_DescOk.f descB
  by_cases ha : a = 0
  · simp only [if_pos ha]
    refine ev_of (fun k => ?_)
    by_cases hb : b = 0
    · by_cases hl0 : l.length = 0
      · by_cases hc : c = 0
        · simp only [hb, hl0, hc, if_true, Int.natCast_zero, decide_true, Bool.true_and, Option.some.injEq]
          rw [Bool.eq_iff_iff]; simp
        · simp [hb, hl0, hc]
      · have : ¬ (l.length : Int) = 0 := by omega
        simp only [if_pos hb, if_neg this, hl0, decide_false, Bool.false_and, Bool.and_false]
    · simp [hb]
  · simp only [if_neg ha, l1In_eq, Option.bind_some]
    cases inB a 1 1000000 with
    | false => exact ev_neg (by simp) (ev_to (J true) (by simp))
    | true =>
      refine ev_pos rfl ?_
      cases inB b 1 3 with
      | false => exact ev_neg (by simp) (ev_to (J true) (by simp))
      | true =>
        refine ev_pos rfl (ev_to (J _) ?_)
        have e : (!decide ((l.length : Int) > 20)) = decide (l.length ≤ 20) := by
          by_cases h : l.length ≤ 20
          · rw [decide_eq_true h, decide_eq_false (by omega)]; rfl
          · rw [decide_eq_false h, decide_eq_true (by omega)]; rfl
        rw [e, Bool.and_comm]
        simp

def wordB (a b c n : Int) : Bool := if b = 0 then inB a 0 1000 && decide (c = 0) else decide (a = 0) && (inB b 1 n && inB c 1 1000000)
theorem impl_WordOk_eq (a b c n : Int) : impl_WordOk.f a b c n = some (wordB a b c n) := by
  unfold impl_WordOk.f wordB
  simp only [impl_isWordNum.f, from_eq, Option.bind_some]
  by_cases hb : b = 0
  · rw [if_pos hb, if_pos hb]
    cases inB a 0 1000 <;> simp
    rw [Bool.eq_iff_iff]; simp
  · rw [if_neg hb, if_neg hb]
    by_cases ha : a = 0
    · rw [if_pos ha]; cases inB b 1 n <;> simp [ha]
    · rw [if_neg ha]; simp [ha]
theorem spec_WordOk_eq (a b c n : Int) : spec_WordOk.f a b c n = some (wordB a b c n) := by
  unfold spec_WordOk.f wordB
  simp only [l1In_eq, Option.bind_some]
  by_cases hb : b = 0
  · rw [if_pos hb, if_pos hb]
    by_cases hc : c = 0
    · rw [if_pos hc]; simp [hc]
    · rw [if_neg hc]; simp [hc]
  · rw [if_neg hb, if_neg hb]
    by_cases ha : a = 0
    · rw [if_pos ha]; cases inB b 1 n <;> simp [ha]
    · rw [if_neg ha]; simp [ha]

def descV (x : S145) : Bool := descB x.f0 x.f1 x.f2 x.f3.f0 x.f3.f1
/-- A mark names a try that has an entry there. -/
def markB (ds : List S145) (w : S141) (i : Nat) : Bool :=
  decide (w.f1 = 0) || ((entE (i : Int) (ds.getD (w.f1 - 1).toNat z145).f2).2.2.2 && decide ((ds.getD (w.f1 - 1).toNat z145).f0 = w.f2))
def wordV (ws : List S141) (ds : List S145) (i : Nat) : Bool :=
  wordB (ws.getD i z141).f0 (ws.getD i z141).f1 (ws.getD i z141).f2 ds.length && markB ds (ws.getD i z141) i
def memB (ws : List S141) (ds : List S145) : Bool :=
  decide (ws.length = 20) && (inB ds.length 1 4 && (ds.all descV && (List.range ws.length).all (wordV ws ds)))
def fitM (ds : List S145) : Prop := ∀ x ∈ ds, x.f2.length ≤ 1048576
theorem wordB_range {a b c n : Int} (h : wordB a b c n = true) (hb : ¬ b = 0) : 1 ≤ b ∧ b ≤ n := by
  unfold wordB at h
  rw [if_neg hb] at h
  simp only [Bool.and_eq_true] at h
  simpa [inB] using h.2.1
theorem getD_145 {l : List S145} {i : Nat} (h : i < l.length) : l.getD i z145 = l[i] := by simp [List.getD_eq_getElem?_getD, List.getElem?_eq_getElem h]
theorem ev_impl_words (ws : List S141) (ds : List S145) (hw : ws.length ≤ 1048576) (hd : ds.length ≤ 1048576) (hf : fitM ds) :
    Ev (fun k => impl_MemOk.l0 k ws (ws.length : Int) 0 ws ds) ((List.range ws.length).all (wordV ws ds)) := by
  refine ev_to (ev_idx (g := fun k i => impl_MemOk.l0 k ws (ws.length : Int) i ws ds) ws.length (wordV ws ds) true (fun i hi => ?_) ?_) (by simp)
  · have e : rd_T141 ws (i : Int) = ws.getD i z141 := rfl
    unfold wordV
    generalize hx : ws.getD i z141 = w at e ⊢
    by_cases hb : w.f1 = 0
    · constructor
      · intro hq r hr
        simp only [Bool.and_eq_true] at hq
        refine Ev.step (fun k => ?_) hr
        simp only [impl_MemOk.l0, impl_WordOk_eq, Option.bind_some, e, hq.1]
        rw [if_pos (by omega), if_pos (by omega), if_pos (by omega), if_pos trivial, if_pos hb, wrap_succ hi (by omega)]
      · intro hq
        have hq' : wordB w.f0 w.f1 w.f2 (ds.length : Int) = false := by
          unfold markB at hq
          simpa [hb] using hq
        refine ev_succ (fun k => ?_)
        simp only [impl_MemOk.l0, impl_WordOk_eq, Option.bind_some, e, hq']
        rw [if_pos (by omega), if_pos (by omega), if_pos (by omega), if_neg (by simp)]
    · cases hwb : wordB w.f0 w.f1 w.f2 (ds.length : Int) with
      | false =>
        refine ⟨fun hq => by simp at hq, fun _ => ev_succ (fun k => ?_)⟩
        simp only [impl_MemOk.l0, impl_WordOk_eq, Option.bind_some, e, hwb]
        rw [if_pos (by omega), if_pos (by omega), if_pos (by omega), if_neg (by simp)]
      | true =>
        have hr := wordB_range hwb hb
        have ht : wrap64 (w.f1 - 1) = ((w.f1 - 1).toNat : Int) := by rw [wrap_in (by omega) (by omega)]; omega
        have hlt : (w.f1 - 1).toNat < ds.length := by omega
        have ed : rd_T145 ds (((w.f1 - 1).toNat : Nat) : Int) = ds.getD (w.f1 - 1).toNat z145 := rfl
        have hfit := hf _ (List.getElem_mem hlt)
        rw [← getD_145 hlt] at hfit
        unfold markB
        generalize hdd : ds.getD (w.f1 - 1).toNat z145 = dd at ed hfit ⊢
        have hE := ev_impl_Entries dd.f0 dd.f1 dd.f2 dd.f3.f0 dd.f3.f1 (i : Int) hfit
        have hm : decide (w.f1 = 0) = false := decide_eq_false hb
        rw [hm]
        constructor
        · intro hq r hrr
          simp only [Bool.true_and, Bool.false_or, Bool.and_eq_true, decide_eq_true_eq] at hq
          refine Ev.step (f := fun k => (impl_Entries.f k dd.f0 dd.f1 dd.f2 dd.f3.f0 dd.f3.f1 (i : Int)).bind fun bt => if bt.2.2.2 = true then (if dd.f0 = w.f2 then impl_MemOk.l0 k ws (ws.length : Int) ((i + 1 : Nat) : Int) ws ds else some false) else some false) (fun k => ?_) (Ev.bind hE (ev_pos hq.1 (ev_pos hq.2 hrr)))
          simp only [impl_MemOk.l0, impl_WordOk_eq, Option.bind_some, e, hwb, ht, ed]
          rw [if_pos (by omega), if_pos (by omega), if_pos (by omega), if_pos trivial, if_neg hb, if_pos (by omega), if_pos (by omega), wrap_succ hi (by omega)]
        · intro hq
          simp only [Bool.true_and, Bool.false_or] at hq
          refine Ev.step (f := fun k => (impl_Entries.f k dd.f0 dd.f1 dd.f2 dd.f3.f0 dd.f3.f1 (i : Int)).bind fun bt => if bt.2.2.2 = true then (if dd.f0 = w.f2 then impl_MemOk.l0 k ws (ws.length : Int) ((i + 1 : Nat) : Int) ws ds else some false) else some false) (fun k => ?_) (Ev.bind hE ?_)
          · simp only [impl_MemOk.l0, impl_WordOk_eq, Option.bind_some, e, hwb, ht, ed]
            rw [if_pos (by omega), if_pos (by omega), if_pos (by omega), if_pos trivial, if_neg hb, if_pos (by omega), if_pos (by omega), wrap_succ hi (by omega)]
          · cases h4 : (entE (i : Int) dd.f2).2.2.2 with
            | false => exact ev_neg (by simp) (Ev.now _)
            | true =>
              refine ev_pos rfl (ev_neg ?_ (Ev.now _))
              simpa [h4] using hq
  · refine ev_succ (fun k => ?_)
    simp only [impl_MemOk.l0]
    rw [if_neg (by omega)]
theorem ev_spec_words (ws : List S141) (ds : List S145) (hw : ws.length ≤ 1048576) (hd : ds.length ≤ 1048576) (hf : fitM ds) :
    Ev (fun k => spec_MemOk.l1 k 0 ws ds) ((List.range ws.length).all (wordV ws ds)) := by
  refine ev_to (ev_idx (g := fun k i => spec_MemOk.l1 k i ws ds) ws.length (wordV ws ds) true (fun i hi => ?_) ?_) (by simp)
  · have e : rd_T141 ws (i : Int) = ws.getD i z141 := rfl
    unfold wordV
    generalize hx : ws.getD i z141 = w at e ⊢
    by_cases hb : w.f1 = 0
    · constructor
      · intro hq r hr
        simp only [Bool.and_eq_true] at hq
        refine Ev.step (fun k => ?_) hr
        simp only [spec_MemOk.l1, spec_WordOk_eq, Option.bind_some, e, hq.1]
        rw [if_pos (by omega), if_pos (by omega), if_pos trivial, if_neg (by omega), wrap_succ hi (by omega)]
      · intro hq
        have hq' : wordB w.f0 w.f1 w.f2 (ds.length : Int) = false := by
          unfold markB at hq
          simpa [hb] using hq
        refine ev_succ (fun k => ?_)
        simp only [spec_MemOk.l1, spec_WordOk_eq, Option.bind_some, e, hq']
        rw [if_pos (by omega), if_pos (by omega), if_neg (by simp)]
    · cases hwb : wordB w.f0 w.f1 w.f2 (ds.length : Int) with
      | false =>
        refine ⟨fun hq => by simp at hq, fun _ => ev_succ (fun k => ?_)⟩
        simp only [spec_MemOk.l1, spec_WordOk_eq, Option.bind_some, e, hwb]
        rw [if_pos (by omega), if_pos (by omega), if_neg (by simp)]
      | true =>
        have hr := wordB_range hwb hb
        have ht : wrap64 (w.f1 - 1) = ((w.f1 - 1).toNat : Int) := by rw [wrap_in (by omega) (by omega)]; omega
        have hlt : (w.f1 - 1).toNat < ds.length := by omega
        have ed : rd_T145 ds (((w.f1 - 1).toNat : Nat) : Int) = ds.getD (w.f1 - 1).toNat z145 := rfl
        have hfit := hf _ (List.getElem_mem hlt)
        rw [← getD_145 hlt] at hfit
        unfold markB
        generalize hdd : ds.getD (w.f1 - 1).toNat z145 = dd at ed hfit ⊢
        have hE := ev_spec_Entries dd.f0 dd.f1 dd.f2 dd.f3.f0 dd.f3.f1 (i : Int) hfit
        have hm : decide (w.f1 = 0) = false := decide_eq_false hb
        rw [hm]
        constructor
        · intro hq r hrr
          simp only [Bool.true_and, Bool.false_or, Bool.and_eq_true, decide_eq_true_eq] at hq
          refine Ev.step (f := fun k => (spec_Entries.f k dd.f0 dd.f1 dd.f2 dd.f3.f0 dd.f3.f1 (i : Int)).bind fun bt => if bt.2.2.2 = true then (if dd.f0 = w.f2 then spec_MemOk.l1 k ((i + 1 : Nat) : Int) ws ds else some false) else some false) (fun k => ?_) (Ev.bind hE (ev_pos hq.1 (ev_pos hq.2 hrr)))
          simp only [spec_MemOk.l1, spec_WordOk_eq, Option.bind_some, e, hwb, ht, ed]
          rw [if_pos (by omega), if_pos (by omega), if_pos trivial, if_pos (by omega), if_pos (by omega), if_pos (by omega), wrap_succ hi (by omega)]
        · intro hq
          simp only [Bool.true_and, Bool.false_or] at hq
          refine Ev.step (f := fun k => (spec_Entries.f k dd.f0 dd.f1 dd.f2 dd.f3.f0 dd.f3.f1 (i : Int)).bind fun bt => if bt.2.2.2 = true then (if dd.f0 = w.f2 then spec_MemOk.l1 k ((i + 1 : Nat) : Int) ws ds else some false) else some false) (fun k => ?_) (Ev.bind hE ?_)
          · simp only [spec_MemOk.l1, spec_WordOk_eq, Option.bind_some, e, hwb, ht, ed]
            rw [if_pos (by omega), if_pos (by omega), if_pos trivial, if_pos (by omega), if_pos (by omega), if_pos (by omega), wrap_succ hi (by omega)]
          · cases h4 : (entE (i : Int) dd.f2).2.2.2 with
            | false => exact ev_neg (by simp) (Ev.now _)
            | true =>
              refine ev_pos rfl (ev_neg ?_ (Ev.now _))
              simpa [h4] using hq
  · refine ev_succ (fun k => ?_)
    simp only [spec_MemOk.l1]
    rw [if_neg (by omega)]
theorem ev_impl_MemOk (ws : List S141) (ds : List S145) (hw : ws.length ≤ 1048576) (hd : ds.length ≤ 1048576) (hf : fitM ds) : Ev (fun k => impl_MemOk.f k ws ds) (memB ws ds) := by
  have hany : Ev (fun k => impl_MemOk_1_any.f k ds) (ds.any fun x => !descV x) := by
    unfold impl_MemOk_1_any.f
    refine ev_any (p := fun k (x : S145) => impl_MemOk_1.f k x.f0 x.f1 x.f2 x.f3.f0 x.f3.f1) _ (fun x hx => ?_)
    unfold impl_MemOk_1.f
    exact Ev.bind (f := fun _ b => some (!b)) (ev_impl_DescOk _ _ _ _ _ (hf x hx)) (Ev.now _)
  have e1 : ds.all descV = !(ds.any fun x => !descV x) := by simp [List.all_eq_not_any_not]
  have J : ∀ b : Bool, Ev (fun k => impl_MemOk.j0 k b ws ds) (!b && (List.range ws.length).all (wordV ws ds)) := by
    intro b
    cases b with
    | true => exact ev_succ (fun k => by simp [impl_MemOk.j0])
    | false => exact ev_to (Ev.step (fun k => by simp [impl_MemOk.j0]) (ev_impl_words ws ds hw hd hf)) (by simp)
  unfold impl_MemOk.f memB
  simp only [from_eq, Option.bind_some]
  by_cases h20 : ws.length = 20
  · refine ev_pos (by omega) ?_
    rw [decide_eq_true h20, Bool.true_and]
    cases inB (ds.length : Int) 1 4 with
    | false => exact ev_neg (by simp) (ev_to (J true) (by simp))
    | true => exact ev_pos rfl (Ev.bind hany (ev_to (J _) (by rw [e1]; simp)))
  · refine ev_neg (by omega) (ev_to (J true) ?_)
    rw [decide_eq_false h20]; simp
theorem ev_spec_MemOk (ws : List S141) (ds : List S145) (hw : ws.length ≤ 1048576) (hd : ds.length ≤ 1048576) (hf : fitM ds) : Ev (fun k => spec_MemOk.f k ws ds) (memB ws ds) := by
  have L : Ev (fun k => spec_MemOk.l0 k 0 ws ds) (ds.all descV && (List.range ws.length).all (wordV ws ds)) := by
    refine ev_all (g := fun k i => spec_MemOk.l0 k i ws ds) ds z145 descV _ (fun i hi => ?_) ?_
    · have e : rd_T145 ds (i : Int) = ds.getD i z145 := rfl
      have hfit := hf _ (List.getElem_mem hi)
      rw [← getD_145 hi] at hfit
      generalize hx : ds.getD i z145 = x at e hfit ⊢
      have hev := ev_spec_DescOk x.f0 x.f1 x.f2 x.f3.f0 x.f3.f1 hfit
      constructor
      · intro hq r hr
        rw [show descB x.f0 x.f1 x.f2 x.f3.f0 x.f3.f1 = true from hq] at hev
        refine Ev.step (fun k => ?_) (Ev.bind (f := fun k b => if b = true then spec_MemOk.l0 k ((i + 1 : Nat) : Int) ws ds else some false) hev (by simpa using hr))
        simp only [spec_MemOk.l0, e]
        rw [if_pos (by omega), if_pos (by omega), wrap_succ hi (by omega)]
      · intro hq
        rw [show descB x.f0 x.f1 x.f2 x.f3.f0 x.f3.f1 = false from hq] at hev
        refine Ev.step (fun k => ?_) (Ev.bind (f := fun k b => if b = true then spec_MemOk.l0 k ((i + 1 : Nat) : Int) ws ds else some false) hev (by simpa using Ev.now false))
        simp only [spec_MemOk.l0, e]
        rw [if_pos (by omega), if_pos (by omega), wrap_succ hi (by omega)]
    · refine Ev.step (fun k => ?_) (ev_spec_words ws ds hw hd hf)
      simp only [spec_MemOk.l0]
      rw [if_neg (by omega)]
  have J : ∀ b : Bool, Ev (fun k => spec_MemOk.j0 k b ws ds) (!b && (ds.all descV && (List.range ws.length).all (wordV ws ds))) := by
    intro b
    cases b with
    | true => exact ev_succ (fun k => by simp [spec_MemOk.j0])
    | false => exact ev_to (Ev.step (fun k => by simp [spec_MemOk.j0]) L) (by simp)
  unfold spec_MemOk.f memB
  simp only [l1In_eq, Option.bind_some]
  by_cases h20 : ws.length = 20
  · refine ev_pos (by omega) (ev_to (J _) ?_)
    rw [decide_eq_true h20]; simp
  · refine ev_neg (by omega) (ev_to (J true) ?_)
    rw [decide_eq_false h20]; simp
end Go.Proofs.Ytopikhjcbcpiaaa.Q
end
namespace Go.Proofs.Ytopikhjcbcpiaaa.Q
open Go.RowKit Go.Proofs.YtopikhjcbcpiaaaW.PrintWords Go.Proofs.YtopikhjcbcpiaaaW.PrintLast Go.Proofs.YtopikhjcbcpiaaaW.PrintMore
attribute [local go_sem] max2_int min2_int max_two min_two max_three min_three max_four min_four   -- for this text's walks alone
set_option linter.unusedVariables false
set_option linter.unusedSimpArgs false
def impl_MemNew.l0 : Nat → List Int → Int → Int → List (S141) → List (S145) → Option ((List (S141)) × (List (S145)) × Bool)
 | 0, _, _, _, _, _ => none
 | k + 1, x17, x18, x19, x1130000, x1130001 => if x19 < x18 then (if 0 ≤ x19 then (if x19 < (x17.length : Int) then (if x1130000.length < 5864062014805 then (impl_MemNew.l0 k x17 x18 (wrap64 (x19 + 1)) (x1130000 ++ [(⟨rd x17 x19, 0, 0⟩ : S141)]) x1130001) else (none)) else (none)) else (none)) else ((impl_MemOk.f k x1130000 x1130001).bind fun t1137 => (if t1137 = true then (some (x1130000, x1130001, true)) else (some (([] : List (S141)), ([] : List (S145)), false))))
def impl_MemNew.f (k : Nat) (l0_0 : List Int) (a0_1 : Int) (a1 : Int) : Option ((List (S141)) × (List (S145)) × Bool) := (impl_from.f a1 1 4).bind fun t1125 => (if t1125 = true then (if 0 ≤ a1 then (if (a1 : Int).toNat ≤ 3909374676536 then ((impl_WordsOf.f k l0_0 a0_1).bind fun t1130 => (impl_MemNew.l0 k t1130 (t1130.length : Int) 0 ([] : List (S141)) (List.replicate (a1 : Int).toNat z145))) else (none)) else (none)) else (some (([] : List (S141)), ([] : List (S145)), false)))
set_option maxHeartbeats 8000000 in
set_option maxRecDepth 100000 in
theorem impl_MemNew.calls (k : Nat) (A0_0 : Option Addr) (c0_0 : Nat) (l0_0 : List Int) (a0_1 : Int) (a1 : Int) (r1 : List (S141)) (r2 : List (S145)) (r3 : Bool) (w : World) (hr0_0 : Kd.C (Kd.int .i64) w A0_0 l0_0.length l0_0) (hc0_0 : l0_0.length ≤ c0_0) (h : impl_MemNew.f k l0_0 a0_1 a1 = some (r1, r2, r3)) :
  Calls Try.prog 57 #[.agg #[.slice A0_0 l0_0.length c0_0, .int .i64 a0_1], .int .i64 a1] w fun e w' => ∃ v0_ v1_ : Value, e = .returned (.tuple #[.agg #[v0_, v1_], .bool r3]) ∧ Kd.R k141 141 w' w.heap.size (fun _ => True) v0_ r1 ∧ Kd.S k145 145 w' w.heap.size (fun _ => True) v1_ r2 ∧ Below w.heap.size w w' := by
 have hu65 := Try.underlying65
 have hu88 := Try.underlying88
 have hu141 := Try.underlying141
 have HR0_0 := Aside0.mk hr0_0
 have HC0_0 := Aside0.mk hc0_0
 clear hr0_0 hc0_0
 have HB := Aside0.mk (Below.refl w.heap.size w)
 have H := h
 clear h
 unfold impl_MemNew.f at H
 obtain ⟨t1125, A3, H⟩ := bn H
 try dsimp only at H
 cases t1125
 case false =>
  replace H := ipf H
  simp only [Option.some.injEq, Prod.mk.injEq] at H
  obtain ⟨rfl, rfl, rfl⟩ := H
  go_enter Try.func57, Try.ntmps57
  go_wp2_with (first | ((with_reducible refine gq 2 rfl ?_); refine bx0 HB (N := 2) (t := 65) ?_; clear HB; intro gb1123 w48 BK1123 GE1123 HB) | ((with_reducible refine gq 4 rfl ?_); refine bx1 HB BK1123 (N := 4) (cs := #[.slice none 0 0, .slice none 0 0]) (t := 88) ?_; clear HB BK1123; intro gb1124 w49 BK1124 GE1124 HB NB1123_1124 NB1124_1123 BK1123) | ((with_reducible refine gf 85 rfl ?_); refine gL 10 Try.func85 #[.int .i64 a1, .int .i64 1, .int .i64 4] ?_; (with_reducible refine (impl_from.calls a1 1 4 false _ A3.out).mono ?_); rintro e w' ⟨rfl, ⟨nd, rfl⟩⟩; refine ⟨_, rfl, ?_⟩; (try (rw [drewN_self w49]; generalize hq_ : World.drewN w49 _ = w49; have n0_ : Aside0 (w49.heap[gb1123]? = some (.cells #[.slice A0_0 l0_0.length c0_0, .int .i64 a0_1] 65 (0, 0))) := ⟨by rw [← hq_]; exact (bk BK1123)⟩; have n1_ : Aside0 (w49.heap[gb1124]? = some (.cells #[.slice none 0 0, .slice none 0 0] 88 (0, 0))) := ⟨by rw [← hq_]; exact (bk BK1124)⟩; have n2_ : Aside0 (Below w.heap.size w w49) := ⟨by rw [← hq_]; exact (tb HB)⟩; clear BK1123 BK1124 HB hq_; have BK1123 := n0_; have BK1124 := n1_; have HB := n2_; clear n0_ n1_ n2_)); have hnb50 := NB1124_1123.out; have hnc50 := NB1123_1124.out; have hz51 := cs2_ BK1124))
  refine bodyPost_ret (results_ct rfl _ _ gb1124 88 #[.slice none 0 0, .slice none 0 0] (0, 0) _ rfl (bfp2 BK1124) Try.underlying88 rfl (by kernel_rfl)) rfl ?_
  exact ⟨_, _, er, by first | exact Kd.R_nil _ _ _ _ _ | exact Kd.N_nil _ _ _ _ _ | exact Kd.V_nil _ _ _ _ _ | exact Kd.Q_nil _ _ _ _ _ | exact Kd.S_nil _ _ _ _ _, by first | exact Kd.S_nil _ _ _ _ _ | exact Kd.N_nil _ _ _ _ _ | exact Kd.V_nil _ _ _ _ _ | exact Kd.Q_nil _ _ _ _ _ | exact Kd.R_nil _ _ _ _ _, tb HB⟩
 replace H := ipt H
 obtain ⟨c5b0, c5b1, H⟩ := itb H
 obtain ⟨c6b0, c6b1, H⟩ := itb H
 obtain ⟨y1126, hy1126⟩ : ∃ y_ : List (S145), y_ = (List.replicate (a1 : Int).toNat z145) := ⟨_, rfl⟩
 replace H : ((impl_WordsOf.f k l0_0 a0_1).bind fun t1130 => (impl_MemNew.l0 k t1130 (t1130.length : Int) 0 ([] : List (S141)) y1126)) = some (r1, r2, r3) := by first | (rw [hy1126]; with_reducible exact H) | (have H2_ := (Option.bind_some _ _).symm.trans H; rw [hy1126]; with_reducible exact H2_) | (have H2_ := (Option.bind_some _ _).symm.trans H; with_reducible exact H2_) | with_reducible exact H | (rw [hy1126]; exact H) | exact H
 have Ny1126 := Aside0.mk hy1126
 clear hy1126
 obtain ⟨t1130, A7, H⟩ := bn H
 try dsimp only at H
 have H' := Aside0.mk H
 clear H
 go_enter Try.func57, Try.ntmps57
 go_wp2_with (first | ((with_reducible refine gq 2 rfl ?_); refine bx0 HB (N := 2) (t := 65) ?_; clear HB; intro gb1123 w8 BK1123 GE1123 HB) | ((with_reducible refine gq 4 rfl ?_); refine bx1 HB BK1123 (N := 4) (cs := #[.slice none 0 0, .slice none 0 0]) (t := 88) ?_; clear HB BK1123; intro gb1124 w9 BK1124 GE1124 HB NB1123_1124 NB1124_1123 BK1123) | ((with_reducible refine gf 85 rfl ?_); refine gL 10 Try.func85 #[.int .i64 a1, .int .i64 1, .int .i64 4] ?_; (with_reducible refine (impl_from.calls a1 1 4 true _ A3.out).mono ?_); rintro e w' ⟨rfl, ⟨nd, rfl⟩⟩; refine ⟨_, rfl, ?_⟩; (try (rw [drewN_self w9]; generalize hq_ : World.drewN w9 _ = w9; have n0_ : Aside0 (w9.heap[gb1123]? = some (.cells #[.slice A0_0 l0_0.length c0_0, .int .i64 a0_1] 65 (0, 0))) := ⟨by rw [← hq_]; exact (bk BK1123)⟩; have n1_ : Aside0 (w9.heap[gb1124]? = some (.cells #[.slice none 0 0, .slice none 0 0] 88 (0, 0))) := ⟨by rw [← hq_]; exact (bk BK1124)⟩; have n2_ : Aside0 (Below w.heap.size w w9) := ⟨by rw [← hq_]; exact (tb HB)⟩; clear BK1123 BK1124 HB hq_; have BK1123 := n0_; have BK1124 := n1_; have HB := n2_; clear n0_ n1_ n2_))) | ((with_reducible refine gq 14 rfl ?_); refine Kd.S_make k145 _ 145 rfl (N := 14) rfl 49 _ _ rfl a1 rfl rfl Try.underlying49 (.agg #[(.int .i64 0), (.int .i64 0), (.slice none 0 0), (.int .i64 0), (.slice none 0 0)]) 72 info145 rfl (by decide) (by omega) z145 (ok := fun _ => True) (okp := fun _ => True) (k145_mkM _ _ _ z145 (Kd.R_nil _ _ _ _ _) (Kd.R_nil _ _ _ _ _)) (fun _ hk => hk) trivial (od) (Nat.le_trans (Nat.mul_le_mul_right _ (od : a1.toNat ≤ 3909374676536)) (by omega)) (Below.refl _ _) (Nat.le_refl _) ?_; intro v1127 w10 ho11 hb hg_ hnew_; clear hg_ hnew_; (first | rw [← Ny1126.out] at ho11 | (simp only [Int.reduceToNat] at ho11; rw [← Ny1126.out] at ho11)); have HO1128 := Aside0.mk (Kd.S_lower ho11 (below_size (tb HB))); replace BK1123 := bb BK1123 hb; replace BK1124 := bb BK1124 hb; replace HB := bs HB hb; clear hb ho11; obtain ⟨Ao12, co12, eo12⟩ := Kd.S_slice HO1128.out; subst eo12) | ((with_reducible refine gq 6 rfl ?_); refine bx (N := 6) (cs := #[.slice none 0 0, .slice none 0 0]) (t := 88) ?_; intro gb1129 hg w13 hbox hb; replace HO1128 := Aside0.mk (Kd.S_below (by (with_reducible repeat (first | apply Kd.S_alloc | apply Kd.S_drewN | apply Kd.S_drew)); exact HO1128.out) hb); have BK1129 := Aside0.mk (hbox); have GE1129 := Aside0.mk (ge_ hg HB); replace HB := bs HB hb; have NB1123_1129 := Aside0.mk (nl_ hg BK1123); have NB1129_1123 := Aside0.mk (ng_ hg BK1123); replace BK1123 := bb BK1123 hb; have NB1124_1129 := Aside0.mk (nl_ hg BK1124); have NB1129_1124 := Aside0.mk (ng_ hg BK1124); replace BK1124 := bb BK1124 hb; clear hb hbox hg; have hnb14 := NB1129_1123.out; have hnc14 := NB1123_1129.out; have hnb15 := NB1129_1124.out; have hnc15 := NB1124_1129.out; have hz16 := cs2_ BK1129; have hnb17 := NB1123_1124.out; have hnc17 := NB1124_1123.out; have hz18 := cs2_ BK1123) | ((with_reducible refine gf 129 rfl ?_); refine gL 17 Try.func129 #[.agg #[.slice A0_0 l0_0.length c0_0, .int .i64 a0_1]] ?_; (with_reducible refine (impl_WordsOf.calls k _ _ l0_0 a0_1 t1130 _ ?side1 HC0_0.out A7.out).mono ?_); (case side1 => exact Kd.C_below HR0_0.out (tb HB)); rintro e w19 ⟨v1131, rfl, ho0, hb⟩; refine ⟨_, rfl, ?_⟩; replace HO1128 := Aside0.mk (Kd.S_elder' (by (with_reducible repeat (first | apply Kd.S_alloc | apply Kd.S_drewN | apply Kd.S_drew)); exact (Kd.S_mono (Kd.S_far (p := ⟨gb1129, 1, none⟩) (Kd.S_far (p := ⟨gb1129, 0, none⟩) (Kd.S_types HO1128.out BK1129.out (by decide)) (fun _ hk => hk.2) (.slice none 0 0)) (fun _ hk => hk.2) (.slice Ao12 y1126.length co12)) (fun _ h_ => h_.1))) (Kd.R_base ho0) hb); have HO1132 := Aside0.mk (Kd.R_lower ho0 (below_size (tb HB))); replace BK1123 := bbf BK1123 hb; replace BK1124 := bbf BK1124 hb; replace BK1129 := bbp2 BK1129 hb; replace HB := bs HB hb; (try clear hb); (try clear hk); (try clear ho0); obtain ⟨Ao20, co20, eo20⟩ := Kd.R_slice HO1132.out; subst eo20))
 go_loopg [19] k (fun kq v19 w' => ∃ (x19_1 : Int) (x1130000_1 : List (S141)) (u1130000 : Value), v19 = .int .i64 x19_1 ∧ Aside0 (impl_MemNew.l0 kq t1130 (t1130.length : Int) x19_1 x1130000_1 y1126 = some (r1, r2, r3)) ∧ Aside0 (kq ≤ k) ∧ Aside0 (Kd.R (Kd.int .i64) 3 w' w.heap.size (fun _ => True) (.slice Ao20 t1130.length co20) t1130) ∧ Aside0 (Kd.R k141 141 w' w.heap.size (fun _ => True) u1130000 x1130000_1) ∧ Aside0 (Kd.S k145 145 w' w.heap.size (fun k_ => some k_ ≠ ((.slice Ao20 t1130.length co20) : Value).ownBlock) (.slice Ao12 y1126.length co12) y1126) ∧ Aside0 (w'.heap[gb1123]? = some (.cells #[(.slice A0_0 l0_0.length c0_0), .int .i64 a0_1] 65 (0, 0))) ∧ Aside0 (w'.heap[gb1124]? = some (.cells #[(.slice none 0 0), (.slice none 0 0)] 88 (0, 0))) ∧ Aside0 (w'.heap[gb1129]? = some (.cells #[u1130000, (.slice Ao12 y1126.length co12)] 88 (0, 0))) ∧ Aside0 (Below w.heap.size w w'))
 case atStart => exact ⟨(0), (([] : List (S141))), (.slice none 0 0), rsd, H', ⟨Nat.le_refl _⟩, ⟨kr HO1132.out⟩, ⟨by first | exact Kd.R_nil _ _ _ _ _ | exact Kd.N_nil _ _ _ _ _ | exact Kd.V_nil _ _ _ _ _ | exact Kd.Q_nil _ _ _ _ _ | exact Kd.S_nil _ _ _ _ _⟩, ⟨by (with_reducible repeat (first | apply Kd.S_alloc | apply Kd.S_drewN | apply Kd.S_drew)); exact Kd.S_mono HO1128.out (fun _ hk => hk.2)⟩, ⟨by (with_reducible repeat (first | refine blk_drewN ?_ _ | refine blk_drew ?_ | refine blk_alloc ?_ _)); exact BK1123.out⟩, ⟨by (with_reducible repeat (first | refine blk_drewN ?_ _ | refine blk_drew ?_ | refine blk_alloc ?_ _)); exact BK1124.out⟩, ⟨by (with_reducible repeat (first | refine blk_drewN ?_ _ | refine blk_drew ?_ | refine blk_alloc ?_ _)); exact BK1129.out⟩, ⟨tb HB⟩⟩
 case round =>
  clear H'
  obtain ⟨x19_1, x1130000_1, u1130000, rfl, HA, HK1, HO_17, HO_1130000, HO_1130001, BK1123, BK1124, BK1129, HB⟩ := hrel
  cases gk with
  | zero => exact absurd HA.out (by simp [impl_MemNew.l0])
  | succ k1 =>
   have H := HA.out
   clear HA
   simp only [impl_MemNew.l0] at H
   revert H; refine icd (fun c21b0 H => ?_) fun c21b0 H => ?neg
   case neg =>
    obtain ⟨t1137, A31, H⟩ := bn H
    try dsimp only at H
    cases t1137
    case true =>
     replace H := ipt H
     simp only [Option.some.injEq, Prod.mk.injEq] at H
     obtain ⟨rfl, rfl, rfl⟩ := H
     have hnb33 := NB1129_1123.out
     have hnc33 := NB1123_1129.out
     have hnb34 := NB1129_1124.out
     have hnc34 := NB1124_1129.out
     have hz35 := cs2_ BK1129
     obtain ⟨Ao36, co36, eo36⟩ := Kd.R_slice HO_1130000.out
     subst eo36
     go_wp2_with (first | ((with_reducible refine gf 130 rfl ?_); refine gL 32 Try.func130 #[.agg #[.slice Ao36 x1130000_1.length co36, .slice Ao12 y1126.length co12]] ?_; (with_reducible refine (impl_MemOk.calls k1 _ _ x1130000_1 _ _ y1126 true _ ?side1 ?side2 ?side3 ?side4 A31.out).mono ?_); (case side1 => repeat (first | exact (Kd.R_reads' HO_1130000.out).2.2 | (with_reducible refine Kd.C_alloc ?_ _) | (with_reducible refine Kd.C_drewN ?_ _) | (with_reducible refine Kd.C_drew ?_))); (case side2 => exact (Kd.R_reads' HO_1130000.out).2.1); (case side3 => repeat (first | exact (Kd.S_reads' HO_1130001.out).2.2 | (with_reducible refine Kd.C_alloc ?_ _) | (with_reducible refine Kd.C_drewN ?_ _) | (with_reducible refine Kd.C_drew ?_))); (case side4 => exact (Kd.S_reads' HO_1130001.out).2.1); rintro e w37 ⟨rfl, hb⟩; refine ⟨_, rfl, ?_⟩; replace HO_17 := rb HO_17 hb; replace HO_1130000 := rb HO_1130000 hb; replace HO_1130001 := Aside0.mk (Kd.S_below (by (with_reducible repeat (first | apply Kd.S_alloc | apply Kd.S_drewN | apply Kd.S_drew)); exact HO_1130001.out) hb); replace BK1123 := bb BK1123 hb; replace BK1124 := bb BK1124 hb; replace BK1129 := bb BK1129 hb; replace HB := bs HB hb; (try clear hb); have hz38 := cs2_ BK1129; have hnb39 := NB1124_1123.out; have hnc39 := NB1123_1124.out; have hz40 := cs2_ BK1124))
     refine bodyPost_ret (results_ct rfl _ _ gb1124 88 #[.slice Ao36 x1130000_1.length co36, .slice Ao12 y1126.length co12] (0, 0) _ rfl (bfp2 BK1124) Try.underlying88 rfl (by kernel_rfl)) rfl ?_
     exact ⟨_, _, er, by (with_reducible repeat (first | apply Kd.R_alloc | apply Kd.R_drewN | apply Kd.R_drew)); exact Kd.R_mono (Kd.R_far (p := ⟨gb1124, 1, none⟩) (Kd.R_far (p := ⟨gb1124, 0, none⟩) (Kd.R_types HO_1130000.out BK1124.out (by decide)) (fun _ hk => hk.2) (.slice Ao36 x1130000_1.length co36)) (fun _ hk => hk.2) (.slice Ao12 y1126.length co12)) (fun _ hk => trivial), by (with_reducible repeat (first | apply Kd.S_alloc | apply Kd.S_drewN | apply Kd.S_drew)); exact Kd.S_mono (Kd.S_far (p := ⟨gb1124, 1, none⟩) (Kd.S_far (p := ⟨gb1124, 0, none⟩) (Kd.S_types HO_1130001.out BK1124.out (by decide)) (fun _ hk => hk.2) (.slice Ao36 x1130000_1.length co36)) (fun _ hk => hk.2) (.slice Ao12 y1126.length co12)) (fun _ hk => trivial), tb HB⟩
    replace H := ipf H
    simp only [Option.some.injEq, Prod.mk.injEq] at H
    obtain ⟨rfl, rfl, rfl⟩ := H
    have hnb41 := NB1129_1123.out
    have hnc41 := NB1123_1129.out
    have hnb42 := NB1129_1124.out
    have hnc42 := NB1124_1129.out
    have hz43 := cs2_ BK1129
    obtain ⟨Ao44, co44, eo44⟩ := Kd.R_slice HO_1130000.out
    subst eo44
    go_wp2_with (first | ((with_reducible refine gf 130 rfl ?_); refine gL 32 Try.func130 #[.agg #[.slice Ao44 x1130000_1.length co44, .slice Ao12 y1126.length co12]] ?_; (with_reducible refine (impl_MemOk.calls k1 _ _ x1130000_1 _ _ y1126 false _ ?side1 ?side2 ?side3 ?side4 A31.out).mono ?_); (case side1 => repeat (first | exact (Kd.R_reads' HO_1130000.out).2.2 | (with_reducible refine Kd.C_alloc ?_ _) | (with_reducible refine Kd.C_drewN ?_ _) | (with_reducible refine Kd.C_drew ?_))); (case side2 => exact (Kd.R_reads' HO_1130000.out).2.1); (case side3 => repeat (first | exact (Kd.S_reads' HO_1130001.out).2.2 | (with_reducible refine Kd.C_alloc ?_ _) | (with_reducible refine Kd.C_drewN ?_ _) | (with_reducible refine Kd.C_drew ?_))); (case side4 => exact (Kd.S_reads' HO_1130001.out).2.1); rintro e w45 ⟨rfl, hb⟩; refine ⟨_, rfl, ?_⟩; replace HO_17 := rb HO_17 hb; replace HO_1130000 := rb HO_1130000 hb; replace HO_1130001 := Aside0.mk (Kd.S_below (by (with_reducible repeat (first | apply Kd.S_alloc | apply Kd.S_drewN | apply Kd.S_drew)); exact HO_1130001.out) hb); replace BK1123 := bb BK1123 hb; replace BK1124 := bb BK1124 hb; replace BK1129 := bb BK1129 hb; replace HB := bs HB hb; (try clear hb); have hnb46 := NB1124_1123.out; have hnc46 := NB1123_1124.out; have hz47 := cs2_ BK1124))
    refine bodyPost_ret (results_ct rfl _ _ gb1124 88 #[.slice none 0 0, .slice none 0 0] (0, 0) _ rfl (bfp2 BK1124) Try.underlying88 rfl (by kernel_rfl)) rfl ?_
    exact ⟨_, _, er, by first | exact Kd.R_nil _ _ _ _ _ | exact Kd.N_nil _ _ _ _ _ | exact Kd.V_nil _ _ _ _ _ | exact Kd.Q_nil _ _ _ _ _ | exact Kd.S_nil _ _ _ _ _, by first | exact Kd.S_nil _ _ _ _ _ | exact Kd.N_nil _ _ _ _ _ | exact Kd.V_nil _ _ _ _ _ | exact Kd.Q_nil _ _ _ _ _ | exact Kd.R_nil _ _ _ _ _, tb HB⟩
   obtain ⟨c22b0, H⟩ := itd H
   obtain ⟨c23b0, H⟩ := itd H
   by_cases c24 : x1130000_1.length < 5864062014805
   case neg =>
    rw [if_neg c24] at H
    exact absurd H (by simp)
   rw [if_pos c24] at H
   have LMc24 := Aside0.mk c24
   clear c24
   obtain ⟨y1134, hy1134⟩ : ∃ y_ : List (S141), y_ = (x1130000_1 ++ [(⟨rd t1130 x19_1, 0, 0⟩ : S141)]) := ⟨_, rfl⟩
   replace H : (impl_MemNew.l0 k1 t1130 (t1130.length : Int) (wrap64 (x19_1 + 1)) y1134 y1126) = some (r1, r2, r3) := by first | (rw [hy1134]; with_reducible exact H) | (have H2_ := (Option.bind_some _ _).symm.trans H; rw [hy1134]; with_reducible exact H2_) | (have H2_ := (Option.bind_some _ _).symm.trans H; with_reducible exact H2_) | with_reducible exact H | (rw [hy1134]; exact H) | exact H
   have Ny1134 := Aside0.mk hy1134
   clear hy1134
   have H' := Aside0.mk H
   clear H
   have p1133 : 0 ≤ (x19_1 : Int) := od
   have q1133 : x19_1 < (t1130.length : Int) := od
   obtain ⟨ad1133, e1133, hx1133_0⟩ := Kd.at_int (Kd.R_reads' HO_17.out).2.2 x19_1 p1133 q1133
   cases e1133
   replace p1133 := eq_true p1133
   replace q1133 := eq_true q1133
   have hnb25 := NB1129_1123.out
   have hnc25 := NB1123_1129.out
   have hnb26 := NB1129_1124.out
   have hnc26 := NB1124_1129.out
   have hz27 := cs2_ BK1129
   go_wp2_with (first | ((with_reducible refine gate_builtin (b := .append) (xs := #[.tmp 24, .tmp 27]) rfl ?_); at_builtin; refine Kd.R_append k141 (w0 := w) w.heap.size rfl (.tmp 24) (.tmp 27) 47 141 (.agg #[(.int .i64 0), (.int .i64 0), (.int .i64 0)]) 24 rfl Try.underlying47 info141 rfl (by decide) (by omega) u1130000 x1130000_1 (⟨rd t1130 x19_1, 0, 0⟩ : S141) [.int .i64 (rd t1130 x19_1), .int .i64 0, .int .i64 0] (fun _ => True) (fun _ => False) rfl rfl ?aP (fun _ hk => hk.elim) ?aF ?aO ?aB ?aS ?aL ?_; (case aP => exact k141_mkM _ _ _ (⟨rd t1130 x19_1, 0, 0⟩ : S141)); (case aB => exact (tb HB)); (case aF => exact (fun _ _ => trivial)); (case aO => exact (kr HO_1130000.out)); (case aS => exact (below_size (tb HB))); (case aL => have := LMc24.out; omega); intro v1135 w28 ho hb hg hat; rw [← Ny1134.out] at ho; replace HO_17 := Aside0.mk (Kd.R_over' (kr HO_17.out) (Kd.R_typed (kr HO_1130000.out)) (by decide) hg); replace HO_1130001 := Aside0.mk (Kd.S_over' (by (with_reducible repeat (first | apply Kd.S_alloc | apply Kd.S_drewN | apply Kd.S_drew)); exact HO_1130001.out) (Kd.R_typed (kr HO_1130000.out)) (by decide) hg); replace BK1123 := Aside0.mk (blk_grown (g := gb1123) (o := .cells #[.slice A0_0 l0_0.length c0_0, .int .i64 a0_1] 65 (0, 0)) (bk BK1123) hg (Kd.R_ne HO_1130000.out BK1123.out (by decide))); replace BK1124 := Aside0.mk (blk_grown (g := gb1124) (o := .cells #[.slice none 0 0, .slice none 0 0] 88 (0, 0)) (bk BK1124) hg (Kd.R_ne HO_1130000.out BK1124.out (by decide))); replace BK1129 := Aside0.mk (blk_grown (g := gb1129) (o := .cells #[u1130000, .slice Ao12 y1126.length co12] 88 (0, 0)) (bk BK1129) hg (Kd.R_ne HO_1130000.out BK1129.out (by decide))); replace HB := Aside0.mk (hb); have HO1136 := Aside0.mk (ho); clear HO_1130000; clear ho hb hg hat; obtain ⟨Ao29, co29, eo29⟩ := Kd.R_slice HO1136.out; subst eo29; have hz30 := cs2_ BK1129))
   go_roundg k1
   case measure => have := HK1.out; omega
   case rel => exact ⟨(wrap64 (x19_1 + 1)), (y1134), (.slice Ao29 y1134.length co29), rsd, H', ⟨by have := HK1.out; omega⟩, ⟨by (with_reducible repeat (first | apply Kd.R_alloc | apply Kd.R_drewN | apply Kd.R_drew)); exact Kd.R_mono (Kd.R_far (p := ⟨gb1129, 0, none⟩) (Kd.R_types HO_17.out BK1129.out (by decide)) (fun _ hk => hk.2) (.slice Ao29 y1134.length co29)) (fun _ hk => trivial)⟩, ⟨by (with_reducible repeat (first | apply Kd.R_alloc | apply Kd.R_drewN | apply Kd.R_drew)); exact Kd.R_mono (Kd.R_far (p := ⟨gb1129, 0, none⟩) (Kd.R_types HO1136.out BK1129.out (by decide)) (fun _ hk => hk.2) (.slice Ao29 y1134.length co29)) (fun _ hk => trivial)⟩, ⟨by (with_reducible repeat (first | apply Kd.S_alloc | apply Kd.S_drewN | apply Kd.S_drew)); exact Kd.S_mono (Kd.S_far (p := ⟨gb1129, 0, none⟩) (Kd.S_types HO_1130001.out BK1129.out (by decide)) (fun _ hk => hk.2) (.slice Ao29 y1134.length co29)) (fun _ hk => hk.1)⟩, ⟨bf BK1123⟩, ⟨bf BK1124⟩, ⟨by (with_reducible repeat (first | refine blk_drewN ?_ _ | refine blk_drew ?_ | refine blk_alloc ?_ _)); refine blk_put (cs := #[u1130000, .slice Ao12 y1126.length co12]) ?_ 0 _ rfl; (with_reducible repeat (first | refine blk_drewN ?_ _ | refine blk_drew ?_ | refine blk_alloc ?_ _)); exact BK1129.out⟩, ⟨tb HB⟩⟩
end Go.Proofs.Ytopikhjcbcpiaaa.Q
