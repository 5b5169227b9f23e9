/- Part 12 of the steps by which the law is shown: what each function of the program, of the reference and of the law computes. No condition. -/
import Derived.Test.YtopikhjcbcpiaaaBgn0
import Derived.Test.YtopikhjcbcpiaaaBgn2
import Derived.Test.YtopikhjcbcpiaaaBgn3
import Derived.Test.YtopikhjcbcpiaaaBgn5
import Derived.Test.YtopikhjcbcpiaaaBgn7
import Derived.Test.YtopikhjcbcpiaaaBgn8
import Derived.Test.YtopikhjcbcpiaaaBgn9
import Derived.Test.YtopikhjcbcpiaaaBgn11
section
/- A memory is right, told once: the program's and the reference's test of tries, words and a memory. -/
namespace Go.Proofs.Ytopikhjcbcpiaaa.Q
open Go.RowKit Go.Proofs.YtopikhjcbcpiaaaW.PrintWords Go.Proofs.YtopikhjcbcpiaaaX

theorem ev_any {α : Type} {p : Nat → α → Option Bool} {q : α → Bool} : ∀ l : List α, (∀ x ∈ l, Ev (fun k => p k x) (q x)) → Ev (fun k => anyO (p k) l) (l.any q)
  | [], _ => Ev.now false
  | x :: xs, h => by
    have ih := ev_any xs (fun y hy => h y (List.mem_cons_of_mem _ hy))
    show Ev (fun k => (p k x).bind fun b => if b = true then some true else anyO (p k) xs) _
    refine Ev.bind (f := fun k b => if b = true then some true else anyO (p k) xs) (h x List.mem_cons_self) ?_
    cases hq : q x with
    | true => simp only [if_true]; exact ev_to (Ev.now true) (by simp [hq])
    | false => simp only [Bool.false_eq_true, if_false]; exact ev_to ih (by simp [hq])
theorem any_eq {α : Type} {p : α → Option Bool} {q : α → Bool} : ∀ l : List α, (∀ x ∈ l, p x = some (q x)) → anyO p l = some (l.any q)
  | [], _ => rfl
  | x :: xs, h => by
    have ih := any_eq xs (fun y hy => h y (List.mem_cons_of_mem _ hy))
    unfold anyO
    rw [h x List.mem_cons_self, Option.bind_some, ih]
    cases hq : q x <;> simp [hq]
/-- A loop that goes on as long as each element is right, and then goes on to what follows. -/
theorem ev_all {α : Type} {g : Nat → Int → Option Bool} (l : List α) (z : α) (q : α → Bool) (rest : Bool)
    (hstep : ∀ i : Nat, i < l.length → (q (l.getD i z) = true → ∀ r, Ev (fun k => g k ((i + 1 : Nat) : Int)) r → Ev (fun k => g k (i : Int)) r) ∧ (q (l.getD i z) = false → Ev (fun k => g k (i : Int)) false))
    (hend : Ev (fun k => g k (l.length : Int)) rest) : Ev (fun k => g k 0) (l.all q && rest) := by
  have key := ev_down (g := g) (R := fun i => (l.drop i).all q && rest) (n := l.length) (fun i hi h => ?_) 0 (by omega)
  · simpa using key
  · by_cases hlt : i < l.length
    · have e : l.getD i z = l[i] := by simp [List.getD_eq_getElem?_getD, List.getElem?_eq_getElem hlt]
      have hs := hstep i hlt
      rw [e] at hs
      have hd : (l.drop i).all q = (q l[i] && (l.drop (i + 1)).all q) := by rw [List.drop_eq_getElem_cons hlt, List.all_cons]
      rw [hd]
      cases hq : q l[i] with
      | true => exact ev_to (hs.1 hq _ (h hlt)) (by simp)
      | false => exact ev_to (hs.2 hq) (by simp)
    · obtain rfl : i = l.length := by omega
      exact ev_to hend (by simp)

/-- A loop over places that goes on as long as each is right, and then goes on to what follows. -/
theorem ev_idx {g : Nat → Int → Option Bool} (n : Nat) (q : Nat → Bool) (rest : Bool)
    (hstep : ∀ i : Nat, i < n → (q i = true → ∀ r, Ev (fun k => g k ((i + 1 : Nat) : Int)) r → Ev (fun k => g k (i : Int)) r) ∧ (q i = false → Ev (fun k => g k (i : Int)) false))
    (hend : Ev (fun k => g k (n : Int)) rest) : Ev (fun k => g k 0) ((List.range n).all q && rest) := by
  refine ev_all (g := g) (List.range n) 0 q rest (fun i hi => ?_) (by simpa using hend)
  have hi' : i < n := by simpa using hi
  have e : (List.range n).getD i 0 = i := by simp [List.getD_eq_getElem?_getD, hi']
  rw [e]
  exact hstep i hi'

/-- The first entry at a place. -/
def entE (at_ : Int) : List S166 → Int × Int × Int × Bool
  | [] => (0, 0, 0, false)
  | e :: r => if e.f0 = at_ then (e.f0, e.f1, e.f2, true) else entE at_ r
theorem getD_166 {l : List S166} {i : Nat} (h : i < l.length) : l.getD i z166 = l[i] := by simp [List.getD_eq_getElem?_getD, List.getElem?_eq_getElem h]
theorem rd_166 {l : List S166} {i : Nat} : rd_T166 l (i : Int) = l.getD i z166 := by
  show l.getD (i : Int).toNat z166 = _
  rw [Int.toNat_natCast]
theorem ev_spec_Entries (a b : Int) (l : List S166) (c : Int) (d : List Int) (at_ : Int) (hl : l.length ≤ 1048576) : Ev (fun k => spec_Entries.f k a b l c d at_) (entE at_ l) := by
  have key := ev_down (g := fun k i => spec_Entries.l0 k at_ i a b l c d) (R := fun i => entE at_ (l.drop i)) (n := l.length) (fun i hi h => ?_) 0 (by omega)
  · simpa [spec_Entries.f] using key
  · by_cases hlt : i < l.length
    · rw [List.drop_eq_getElem_cons hlt]
      by_cases hm : l[i].f0 = at_
      · refine ev_to (ev_succ (fun k => ?_)) (by rw [entE, if_pos hm])
        simp only [spec_Entries.l0, rd_166, getD_166 hlt]
        rw [if_pos (by omega), if_pos (by omega), if_pos hm]
      · refine ev_to (Ev.step (fun k => ?_) (h hlt)) (by rw [entE, if_neg hm])
        simp only [spec_Entries.l0, rd_166, getD_166 hlt]
        rw [if_pos (by omega), if_pos (by omega), if_neg hm, wrap_succ hlt (by omega)]
    · refine ev_to (ev_succ (fun k => ?_)) (by rw [List.drop_eq_nil_of_le (by omega)])
      simp only [spec_Entries.l0]
      rw [if_neg (by omega)]
      rfl
theorem ev_impl_Entries (a b : Int) (l : List S166) (c : Int) (d : List Int) (at_ : Int) (hl : l.length ≤ 1048576) : Ev (fun k => impl_Entries.f k a b l c d at_) (entE at_ l) := by
  have key := ev_down (g := fun k i => impl_Entries.l0 k at_ l (l.length : Int) i) (R := fun i => entE at_ (l.drop i)) (n := l.length) (fun i hi h => ?_) 0 (by omega)
  · simpa [impl_Entries.f] using key
  · by_cases hlt : i < l.length
    · rw [List.drop_eq_getElem_cons hlt]
      by_cases hm : l[i].f0 = at_
      · refine ev_to (ev_succ (fun k => ?_)) (by rw [entE, if_pos hm])
        simp only [impl_Entries.l0, rd_166, getD_166 hlt]
        rw [if_pos (by omega), if_pos (by omega), if_pos (by omega), if_pos hm]
      · refine ev_to (Ev.step (fun k => ?_) (h hlt)) (by rw [entE, if_neg hm])
        simp only [impl_Entries.l0, rd_166, getD_166 hlt]
        rw [if_pos (by omega), if_pos (by omega), if_pos (by omega), if_neg hm, wrap_succ hlt (by omega)]
    · refine ev_to (ev_succ (fun k => ?_)) (by rw [List.drop_eq_nil_of_le (by omega)])
      simp only [impl_Entries.l0]
      rw [if_neg (by omega)]
      rfl

def entB (l : List S166) (i : Nat) : Bool :=
  inB (l.getD i z166).f0 0 19 && (inB (l.getD i z166).f1 0 1000 && (inB (l.getD i z166).f2 0 1000 && (decide (i = 0) || decide ((l.getD (i - 1) z166).f0 < (l.getD i z166).f0))))
def descB (a b : Int) (l : List S166) (c : Int) (d : List Int) : Bool :=
  if a = 0 then decide (b = 0) && (decide (l.length = 0) && (decide (c = 0) && decide (d.length = 0)))
  else (List.range l.length).all (entB l) && (inB a 1 1000000 && (inB b 1 3 && decide (l.length ≤ 20)))
theorem rd_prev {l : List S166} {i : Nat} (h : i < l.length) (h0 : 0 < i) (hl : l.length ≤ 1048576) : wrap64 ((i : Int) - 1) = ((i - 1 : Nat) : Int) := by
  rw [wrap_in (by omega) (by omega)]; omega
theorem ev_impl_DescOk (a b : Int) (l : List S166) (c : Int) (d : List Int) (hl : l.length ≤ 1048576) : Ev (fun k => impl_DescOk.f k a b l c d) (descB a b l c d) := by
  unfold impl_DescOk.f descB
  by_cases ha : a = 0
  · simp only [if_pos ha]
    refine ev_of (fun k => ?_)
    by_cases hb : b = 0
    · by_cases hl0 : l.length = 0
      · by_cases hc : c = 0
        · simp only [hb, hl0, hc, if_true, Int.natCast_zero, decide_true, Bool.true_and, Option.some.injEq]
          rw [Bool.eq_iff_iff]; simp
        · simp [hb, hl0, hc]
      · have : ¬ (l.length : Int) = 0 := by omega
        simp only [if_pos hb, if_neg this, hl0, decide_false, Bool.false_and, Bool.and_false]
    · simp [hb]
  · simp only [if_neg ha]
    refine ev_idx (g := fun k i => impl_DescOk.l0 k l (l.length : Int) i a b l c d) l.length (entB l) _ (fun i hi => ?_) ?_
    · have hp : 0 < i → wrap64 ((i : Int) - 1) = ((i - 1 : Nat) : Int) := fun h0 => rd_prev hi h0 hl
      constructor
      · intro hq r hr
        unfold entB at hq
        simp only [Bool.and_eq_true, Bool.or_eq_true, decide_eq_true_eq] at hq
        obtain ⟨q0, q1, q2, q3⟩ := hq
        refine Ev.step (fun k => ?_) hr
        simp only [impl_DescOk.l0, impl_isPlace.f, impl_isWordNum.f, from_eq, Option.bind_some, rd_166, q0, q1, q2, if_true]
        rw [if_pos (by omega), if_pos (by omega), if_pos (by omega), wrap_succ hi (by omega)]
        by_cases h0 : i = 0
        · rw [if_neg (by omega)]
        · have q3' : (l.getD (i - 1) z166).f0 < (l.getD i z166).f0 := by
            rcases q3 with h | h
            · exact absurd h h0
            · exact h
          rw [if_pos (by omega), hp (by omega), if_pos (by omega), if_pos (by omega), rd_166, if_neg (by omega)]
      · intro hq
        refine ev_succ (fun k => ?_)
        simp only [impl_DescOk.l0, impl_isPlace.f, impl_isWordNum.f, from_eq, Option.bind_some, rd_166]
        rw [if_pos (by omega), if_pos (by omega), if_pos (by omega)]
        unfold entB at hq
        cases q0 : inB (l.getD i z166).f0 0 19 with
        | false => simp
        | true =>
          cases q1 : inB (l.getD i z166).f1 0 1000 with
          | false => simp
          | true =>
            cases q2 : inB (l.getD i z166).f2 0 1000 with
            | false => simp
            | true =>
              simp only [q0, q1, q2, Bool.true_and, Bool.or_eq_false_iff, decide_eq_false_iff_not] at hq
              simp only [if_true]
              rw [if_pos (by omega), hp (by omega), if_pos (by omega), if_pos (by omega), rd_166, if_pos (by omega)]
    · refine ev_succ (fun k => ?_)
      simp only [impl_DescOk.l0, from_eq, Option.bind_some]
      rw [if_neg (by omega)]
      cases inB a 1 1000000 <;> cases inB b 1 3 <;> simp
      exact Iff.intro (by omega) (by omega)
theorem ev_spec_DescOk (a b : Int) (l : List S166) (c : Int) (d : List Int) (hl : l.length ≤ 1048576) : Ev (fun k => spec_DescOk.f k a b l c d) (descB a b l c d) := by
  have J : ∀ x : Bool, Ev (fun k => spec_DescOk.j0 k x a b l c d) (!x && (List.range l.length).all (entB l)) := by
    intro x
    cases x with
    | true => exact ev_succ (fun k => by simp [spec_DescOk.j0])
    | false =>
      refine Ev.step (f := fun k => spec_DescOk.l0 k 0 a b l c d) (fun k => by simp [spec_DescOk.j0]) ?_
      refine ev_to (ev_idx (g := fun k i => spec_DescOk.l0 k i a b l c d) l.length (entB l) true (fun i hi => ?_) ?_) (by simp)
      · have hp : 0 < i → wrap64 ((i : Int) - 1) = ((i - 1 : Nat) : Int) := fun h0 => rd_prev hi h0 hl
        constructor
        · intro hq r hr
          unfold entB at hq
          simp only [Bool.and_eq_true, Bool.or_eq_true, decide_eq_true_eq] at hq
          obtain ⟨q0, q1, q2, q3⟩ := hq
          refine Ev.step (fun k => ?_) hr
          simp only [spec_DescOk.l0, l1In_eq, Option.bind_some, rd_166, q0, q1, q2, if_true]
          rw [if_pos (by omega), if_pos (by omega), wrap_succ hi (by omega)]
          by_cases h0 : i = 0
          · rw [if_neg (by omega)]
          · have q3' : (l.getD (i - 1) z166).f0 < (l.getD i z166).f0 := by
              rcases q3 with h | h
              · exact absurd h h0
              · exact h
            rw [if_pos (by omega), hp (by omega), if_pos (by omega), if_pos (by omega), rd_166, if_neg (by omega)]
        · intro hq
          refine ev_succ (fun k => ?_)
          simp only [spec_DescOk.l0, l1In_eq, Option.bind_some, rd_166]
          rw [if_pos (by omega), if_pos (by omega)]
          unfold entB at hq
          cases q0 : inB (l.getD i z166).f0 0 19 with
          | false => simp
          | true =>
            cases q1 : inB (l.getD i z166).f1 0 1000 with
            | false => simp
            | true =>
              cases q2 : inB (l.getD i z166).f2 0 1000 with
              | false => simp
              | true =>
                simp only [q0, q1, q2, Bool.true_and, Bool.or_eq_false_iff, decide_eq_false_iff_not] at hq
                simp only [if_true]
                rw [if_pos (by omega), hp (by omega), if_pos (by omega), if_pos (by omega), rd_166, if_pos (by omega)]
      · refine ev_succ (fun k => ?_)
        simp only [spec_DescOk.l0]
        rw [if_neg (by omega)]
  unfold spec_DescOk.f descB
  by_cases ha : a = 0
  · simp only [if_pos ha]
    refine ev_of (fun k => ?_)
    by_cases hb : b = 0
    · by_cases hl0 : l.length = 0
      · by_cases hc : c = 0
        · simp only [hb, hl0, hc, if_true, Int.natCast_zero, decide_true, Bool.true_and, Option.some.injEq]
          rw [Bool.eq_iff_iff]; simp
        · simp [hb, hl0, hc]
      · have : ¬ (l.length : Int) = 0 := by omega
        simp only [if_pos hb, if_neg this, hl0, decide_false, Bool.false_and, Bool.and_false]
    · simp [hb]
  · simp only [if_neg ha, l1In_eq, Option.bind_some]
    cases inB a 1 1000000 with
    | false => exact ev_neg (by simp) (ev_to (J true) (by simp))
    | true =>
      refine ev_pos rfl ?_
      cases inB b 1 3 with
      | false => exact ev_neg (by simp) (ev_to (J true) (by simp))
      | true =>
        refine ev_pos rfl (ev_to (J _) ?_)
        have e : (!decide ((l.length : Int) > 20)) = decide (l.length ≤ 20) := by
          by_cases h : l.length ≤ 20
          · rw [decide_eq_true h, decide_eq_false (by omega)]; rfl
          · rw [decide_eq_false h, decide_eq_true (by omega)]; rfl
        rw [e, Bool.and_comm]
        simp

def wordB (a b c n : Int) : Bool := if b = 0 then inB a 0 1000 && decide (c = 0) else decide (a = 0) && (inB b 1 n && inB c 1 1000000)
theorem impl_WordOk_eq (a b c n : Int) : impl_WordOk.f a b c n = some (wordB a b c n) := by
  unfold impl_WordOk.f wordB
  simp only [impl_isWordNum.f, from_eq, Option.bind_some]
  by_cases hb : b = 0
  · rw [if_pos hb, if_pos hb]
    cases inB a 0 1000 <;> simp
    rw [Bool.eq_iff_iff]; simp
  · rw [if_neg hb, if_neg hb]
    by_cases ha : a = 0
    · rw [if_pos ha]; cases inB b 1 n <;> simp [ha]
    · rw [if_neg ha]; simp [ha]
theorem spec_WordOk_eq (a b c n : Int) : spec_WordOk.f a b c n = some (wordB a b c n) := by
  unfold spec_WordOk.f wordB
  simp only [l1In_eq, Option.bind_some]
  by_cases hb : b = 0
  · rw [if_pos hb, if_pos hb]
    by_cases hc : c = 0
    · rw [if_pos hc]; simp [hc]
    · rw [if_neg hc]; simp [hc]
  · rw [if_neg hb, if_neg hb]
    by_cases ha : a = 0
    · rw [if_pos ha]; cases inB b 1 n <;> simp [ha]
    · rw [if_neg ha]; simp [ha]

def descV (x : S145) : Bool := descB x.f0 x.f1 x.f2 x.f3.f0 x.f3.f1
/-- A mark names a try that has an entry there. -/
def markB (ds : List S145) (w : S141) (i : Nat) : Bool :=
  decide (w.f1 = 0) || ((entE (i : Int) (ds.getD (w.f1 - 1).toNat z145).f2).2.2.2 && decide ((ds.getD (w.f1 - 1).toNat z145).f0 = w.f2))
def wordV (ws : List S141) (ds : List S145) (i : Nat) : Bool :=
  wordB (ws.getD i z141).f0 (ws.getD i z141).f1 (ws.getD i z141).f2 ds.length && markB ds (ws.getD i z141) i
def memB (ws : List S141) (ds : List S145) : Bool :=
  decide (ws.length = 20) && (inB ds.length 1 4 && (ds.all descV && (List.range ws.length).all (wordV ws ds)))
def fitM (ds : List S145) : Prop := ∀ x ∈ ds, x.f2.length ≤ 1048576
theorem wordB_range {a b c n : Int} (h : wordB a b c n = true) (hb : ¬ b = 0) : 1 ≤ b ∧ b ≤ n := by
  unfold wordB at h
  rw [if_neg hb] at h
  simp only [Bool.and_eq_true] at h
  simpa [inB] using h.2.1
theorem getD_145 {l : List S145} {i : Nat} (h : i < l.length) : l.getD i z145 = l[i] := by simp [List.getD_eq_getElem?_getD, List.getElem?_eq_getElem h]
theorem ev_impl_words (ws : List S141) (ds : List S145) (hw : ws.length ≤ 1048576) (hd : ds.length ≤ 1048576) (hf : fitM ds) :
    Ev (fun k => impl_MemOk.l0 k ws (ws.length : Int) 0 ws ds) ((List.range ws.length).all (wordV ws ds)) := by
  refine ev_to (ev_idx (g := fun k i => impl_MemOk.l0 k ws (ws.length : Int) i ws ds) ws.length (wordV ws ds) true (fun i hi => ?_) ?_) (by simp)
  · have e : rd_T141 ws (i : Int) = ws.getD i z141 := rfl
    unfold wordV
    generalize hx : ws.getD i z141 = w at e ⊢
    by_cases hb : w.f1 = 0
    · constructor
      · intro hq r hr
        simp only [Bool.and_eq_true] at hq
        refine Ev.step (fun k => ?_) hr
        simp only [impl_MemOk.l0, impl_WordOk_eq, Option.bind_some, e, hq.1]
        rw [if_pos (by omega), if_pos (by omega), if_pos (by omega), if_pos trivial, if_pos hb, wrap_succ hi (by omega)]
      · intro hq
        have hq' : wordB w.f0 w.f1 w.f2 (ds.length : Int) = false := by
          unfold markB at hq
          simpa [hb] using hq
        refine ev_succ (fun k => ?_)
        simp only [impl_MemOk.l0, impl_WordOk_eq, Option.bind_some, e, hq']
        rw [if_pos (by omega), if_pos (by omega), if_pos (by omega), if_neg (by simp)]
    · cases hwb : wordB w.f0 w.f1 w.f2 (ds.length : Int) with
      | false =>
        refine ⟨fun hq => by simp at hq, fun _ => ev_succ (fun k => ?_)⟩
        simp only [impl_MemOk.l0, impl_WordOk_eq, Option.bind_some, e, hwb]
        rw [if_pos (by omega), if_pos (by omega), if_pos (by omega), if_neg (by simp)]
      | true =>
        have hr := wordB_range hwb hb
        have ht : wrap64 (w.f1 - 1) = ((w.f1 - 1).toNat : Int) := by rw [wrap_in (by omega) (by omega)]; omega
        have hlt : (w.f1 - 1).toNat < ds.length := by omega
        have ed : rd_T145 ds (((w.f1 - 1).toNat : Nat) : Int) = ds.getD (w.f1 - 1).toNat z145 := rfl
        have hfit := hf _ (List.getElem_mem hlt)
        rw [← getD_145 hlt] at hfit
        unfold markB
        generalize hdd : ds.getD (w.f1 - 1).toNat z145 = dd at ed hfit ⊢
        have hE := ev_impl_Entries dd.f0 dd.f1 dd.f2 dd.f3.f0 dd.f3.f1 (i : Int) hfit
        have hm : decide (w.f1 = 0) = false := decide_eq_false hb
        rw [hm]
        constructor
        · intro hq r hrr
          simp only [Bool.true_and, Bool.false_or, Bool.and_eq_true, decide_eq_true_eq] at hq
          refine Ev.step (f := fun k => (impl_Entries.f k dd.f0 dd.f1 dd.f2 dd.f3.f0 dd.f3.f1 (i : Int)).bind fun bt => if bt.2.2.2 = true then (if dd.f0 = w.f2 then impl_MemOk.l0 k ws (ws.length : Int) ((i + 1 : Nat) : Int) ws ds else some false) else some false) (fun k => ?_) (Ev.bind hE (ev_pos hq.1 (ev_pos hq.2 hrr)))
          simp only [impl_MemOk.l0, impl_WordOk_eq, Option.bind_some, e, hwb, ht, ed]
          rw [if_pos (by omega), if_pos (by omega), if_pos (by omega), if_pos trivial, if_neg hb, if_pos (by omega), if_pos (by omega), wrap_succ hi (by omega)]
        · intro hq
          simp only [Bool.true_and, Bool.false_or] at hq
          refine Ev.step (f := fun k => (impl_Entries.f k dd.f0 dd.f1 dd.f2 dd.f3.f0 dd.f3.f1 (i : Int)).bind fun bt => if bt.2.2.2 = true then (if dd.f0 = w.f2 then impl_MemOk.l0 k ws (ws.length : Int) ((i + 1 : Nat) : Int) ws ds else some false) else some false) (fun k => ?_) (Ev.bind hE ?_)
          · simp only [impl_MemOk.l0, impl_WordOk_eq, Option.bind_some, e, hwb, ht, ed]
            rw [if_pos (by omega), if_pos (by omega), if_pos (by omega), if_pos trivial, if_neg hb, if_pos (by omega), if_pos (by omega), wrap_succ hi (by omega)]
          · cases h4 : (entE (i : Int) dd.f2).2.2.2 with
            | false => exact ev_neg (by simp) (Ev.now _)
            | true =>
              refine ev_pos rfl (ev_neg ?_ (Ev.now _))
              simpa [h4] using hq
  · refine ev_succ (fun k => ?_)
    simp only [impl_MemOk.l0]
    rw [if_neg (by omega)]
theorem ev_spec_words (ws : List S141) (ds : List S145) (hw : ws.length ≤ 1048576) (hd : ds.length ≤ 1048576) (hf : fitM ds) :
    Ev (fun k => spec_MemOk.l1 k 0 ws ds) ((List.range ws.length).all (wordV ws ds)) := by
  refine ev_to (ev_idx (g := fun k i => spec_MemOk.l1 k i ws ds) ws.length (wordV ws ds) true (fun i hi => ?_) ?_) (by simp)
  · have e : rd_T141 ws (i : Int) = ws.getD i z141 := rfl
    unfold wordV
    generalize hx : ws.getD i z141 = w at e ⊢
    by_cases hb : w.f1 = 0
    · constructor
      · intro hq r hr
        simp only [Bool.and_eq_true] at hq
        refine Ev.step (fun k => ?_) hr
        simp only [spec_MemOk.l1, spec_WordOk_eq, Option.bind_some, e, hq.1]
        rw [if_pos (by omega), if_pos (by omega), if_pos trivial, if_neg (by omega), wrap_succ hi (by omega)]
      · intro hq
        have hq' : wordB w.f0 w.f1 w.f2 (ds.length : Int) = false := by
          unfold markB at hq
          simpa [hb] using hq
        refine ev_succ (fun k => ?_)
        simp only [spec_MemOk.l1, spec_WordOk_eq, Option.bind_some, e, hq']
        rw [if_pos (by omega), if_pos (by omega), if_neg (by simp)]
    · cases hwb : wordB w.f0 w.f1 w.f2 (ds.length : Int) with
      | false =>
        refine ⟨fun hq => by simp at hq, fun _ => ev_succ (fun k => ?_)⟩
        simp only [spec_MemOk.l1, spec_WordOk_eq, Option.bind_some, e, hwb]
        rw [if_pos (by omega), if_pos (by omega), if_neg (by simp)]
      | true =>
        have hr := wordB_range hwb hb
        have ht : wrap64 (w.f1 - 1) = ((w.f1 - 1).toNat : Int) := by rw [wrap_in (by omega) (by omega)]; omega
        have hlt : (w.f1 - 1).toNat < ds.length := by omega
        have ed : rd_T145 ds (((w.f1 - 1).toNat : Nat) : Int) = ds.getD (w.f1 - 1).toNat z145 := rfl
        have hfit := hf _ (List.getElem_mem hlt)
        rw [← getD_145 hlt] at hfit
        unfold markB
        generalize hdd : ds.getD (w.f1 - 1).toNat z145 = dd at ed hfit ⊢
        have hE := ev_spec_Entries dd.f0 dd.f1 dd.f2 dd.f3.f0 dd.f3.f1 (i : Int) hfit
        have hm : decide (w.f1 = 0) = false := decide_eq_false hb
        rw [hm]
        constructor
        · intro hq r hrr
          simp only [Bool.true_and, Bool.false_or, Bool.and_eq_true, decide_eq_true_eq] at hq
          refine Ev.step (f := fun k => (spec_Entries.f k dd.f0 dd.f1 dd.f2 dd.f3.f0 dd.f3.f1 (i : Int)).bind fun bt => if bt.2.2.2 = true then (if dd.f0 = w.f2 then spec_MemOk.l1 k ((i + 1 : Nat) : Int) ws ds else some false) else some false) (fun k => ?_) (Ev.bind hE (ev_pos hq.1 (ev_pos hq.2 hrr)))
          simp only [spec_MemOk.l1, spec_WordOk_eq, Option.bind_some, e, hwb, ht, ed]
          rw [if_pos (by omega), if_pos (by omega), if_pos trivial, if_pos (by omega), if_pos (by omega), if_pos (by omega), wrap_succ hi (by omega)]
        · intro hq
          simp only [Bool.true_and, Bool.false_or] at hq
          refine Ev.step (f := fun k => (spec_Entries.f k dd.f0 dd.f1 dd.f2 dd.f3.f0 dd.f3.f1 (i : Int)).bind fun bt => if bt.2.2.2 = true then (if dd.f0 = w.f2 then spec_MemOk.l1 k ((i + 1 : Nat) : Int) ws ds else some false) else some false) (fun k => ?_) (Ev.bind hE ?_)
          · simp only [spec_MemOk.l1, spec_WordOk_eq, Option.bind_some, e, hwb, ht, ed]
            rw [if_pos (by omega), if_pos (by omega), if_pos trivial, if_pos (by omega), if_pos (by omega), if_pos (by omega), wrap_succ hi (by omega)]
          · cases h4 : (entE (i : Int) dd.f2).2.2.2 with
            | false => exact ev_neg (by simp) (Ev.now _)
            | true =>
              refine ev_pos rfl (ev_neg ?_ (Ev.now _))
              simpa [h4] using hq
  · refine ev_succ (fun k => ?_)
    simp only [spec_MemOk.l1]
    rw [if_neg (by omega)]
theorem ev_impl_MemOk (ws : List S141) (ds : List S145) (hw : ws.length ≤ 1048576) (hd : ds.length ≤ 1048576) (hf : fitM ds) : Ev (fun k => impl_MemOk.f k ws ds) (memB ws ds) := by
  have hany : Ev (fun k => impl_MemOk_1_any.f k ds) (ds.any fun x => !descV x) := by
    unfold impl_MemOk_1_any.f
    refine ev_any (p := fun k (x : S145) => impl_MemOk_1.f k x.f0 x.f1 x.f2 x.f3.f0 x.f3.f1) _ (fun x hx => ?_)
    unfold impl_MemOk_1.f
    exact Ev.bind (f := fun _ b => some (!b)) (ev_impl_DescOk _ _ _ _ _ (hf x hx)) (Ev.now _)
  have e1 : ds.all descV = !(ds.any fun x => !descV x) := by simp [List.all_eq_not_any_not]
  have J : ∀ b : Bool, Ev (fun k => impl_MemOk.j0 k b ws ds) (!b && (List.range ws.length).all (wordV ws ds)) := by
    intro b
    cases b with
    | true => exact ev_succ (fun k => by simp [impl_MemOk.j0])
    | false => exact ev_to (Ev.step (fun k => by simp [impl_MemOk.j0]) (ev_impl_words ws ds hw hd hf)) (by simp)
  unfold impl_MemOk.f memB
  simp only [from_eq, Option.bind_some]
  by_cases h20 : ws.length = 20
  · refine ev_pos (by omega) ?_
    rw [decide_eq_true h20, Bool.true_and]
    cases inB (ds.length : Int) 1 4 with
    | false => exact ev_neg (by simp) (ev_to (J true) (by simp))
    | true => exact ev_pos rfl (Ev.bind hany (ev_to (J _) (by rw [e1]; simp)))
  · refine ev_neg (by omega) (ev_to (J true) ?_)
    rw [decide_eq_false h20]; simp
theorem ev_spec_MemOk (ws : List S141) (ds : List S145) (hw : ws.length ≤ 1048576) (hd : ds.length ≤ 1048576) (hf : fitM ds) : Ev (fun k => spec_MemOk.f k ws ds) (memB ws ds) := by
  have L : Ev (fun k => spec_MemOk.l0 k 0 ws ds) (ds.all descV && (List.range ws.length).all (wordV ws ds)) := by
    refine ev_all (g := fun k i => spec_MemOk.l0 k i ws ds) ds z145 descV _ (fun i hi => ?_) ?_
    · have e : rd_T145 ds (i : Int) = ds.getD i z145 := rfl
      have hfit := hf _ (List.getElem_mem hi)
      rw [← getD_145 hi] at hfit
      generalize hx : ds.getD i z145 = x at e hfit ⊢
      have hev := ev_spec_DescOk x.f0 x.f1 x.f2 x.f3.f0 x.f3.f1 hfit
      constructor
      · intro hq r hr
        rw [show descB x.f0 x.f1 x.f2 x.f3.f0 x.f3.f1 = true from hq] at hev
        refine Ev.step (fun k => ?_) (Ev.bind (f := fun k b => if b = true then spec_MemOk.l0 k ((i + 1 : Nat) : Int) ws ds else some false) hev (by simpa using hr))
        simp only [spec_MemOk.l0, e]
        rw [if_pos (by omega), if_pos (by omega), wrap_succ hi (by omega)]
      · intro hq
        rw [show descB x.f0 x.f1 x.f2 x.f3.f0 x.f3.f1 = false from hq] at hev
        refine Ev.step (fun k => ?_) (Ev.bind (f := fun k b => if b = true then spec_MemOk.l0 k ((i + 1 : Nat) : Int) ws ds else some false) hev (by simpa using Ev.now false))
        simp only [spec_MemOk.l0, e]
        rw [if_pos (by omega), if_pos (by omega), wrap_succ hi (by omega)]
    · refine Ev.step (fun k => ?_) (ev_spec_words ws ds hw hd hf)
      simp only [spec_MemOk.l0]
      rw [if_neg (by omega)]
  have J : ∀ b : Bool, Ev (fun k => spec_MemOk.j0 k b ws ds) (!b && (ds.all descV && (List.range ws.length).all (wordV ws ds))) := by
    intro b
    cases b with
    | true => exact ev_succ (fun k => by simp [spec_MemOk.j0])
    | false => exact ev_to (Ev.step (fun k => by simp [spec_MemOk.j0]) L) (by simp)
  unfold spec_MemOk.f memB
  simp only [l1In_eq, Option.bind_some]
  by_cases h20 : ws.length = 20
  · refine ev_pos (by omega) (ev_to (J _) ?_)
    rw [decide_eq_true h20]; simp
  · refine ev_neg (by omega) (ev_to (J true) ?_)
    rw [decide_eq_false h20]; simp
end Go.Proofs.Ytopikhjcbcpiaaa.Q
end
section
namespace Go.Proofs.Ytopikhjcbcpiaaa.Q
open Go.RowKit Go.Proofs.YtopikhjcbcpiaaaW.PrintWords Go.Proofs.YtopikhjcbcpiaaaW.PrintLast Go.Proofs.YtopikhjcbcpiaaaW.PrintMore
attribute [local go_sem] max2_int min2_int max_two min_two max_three min_three max_four min_four
set_option linter.unusedVariables false
set_option linter.unusedSimpArgs false
set_option maxHeartbeats 8000000 in
set_option maxRecDepth 100000 in
theorem impl_Begin.way1 (k : Nat) (A0 : Option Addr) (c0 : Nat) (ws : List S141) (A1 : Option Addr) (c1 : Nat) (ds : List S145) (t : Int) (A2 : Option Addr) (c2 : Nat) (es : List S166) (code : Int) (A3 : Option Addr) (c3 : Nat) (rs : List Int) (w : World) (hr0 : Kd.C k141 w A0 ws.length ws) (hc0 : ws.length ≤ c0) (hr1 : Kd.C k145 w A1 ds.length ds) (hc1 : ds.length ≤ c1) (hr2 : Kd.C k166 w A2 es.length es) (hc2 : es.length ≤ c2) (hr3 : Kd.C (Kd.int .i64) w A3 rs.length rs) (hc3 : rs.length ≤ c3)
    (hH1 : impl_copyMem.f k ws ds = some (ws, ds)) (hH2 : impl_MemOk.f k ws ds = some false) :
    Calls Try.prog 66 #[.agg #[.slice A0 ws.length c0, .slice A1 ds.length c1], .int .i64 t, .slice A2 es.length c2, .agg #[.int .i64 code, .slice A3 rs.length c3]] w fun e w' => ∃ v0_ v1_ : Value, e = .returned (.tuple #[.agg #[v0_, v1_], .agg #[.int .i64 0, .int .i64 0, .int .i64 0, .int .i64 0], .bool false]) ∧ Kd.R k141 141 w' w.heap.size (fun _ => True) v0_ ws ∧ Kd.S k145 145 w' w.heap.size (fun _ => True) v1_ ds ∧ Below w.heap.size w w' := by
  have hu88 := Try.underlying88
  have hu70 := Try.underlying70
  have hu100 := Try.underlying100
  have hu145 := Try.underlying145
  have HR0 := Aside0.mk hr0
  have HC0 := Aside0.mk hc0
  have HR1 := Aside0.mk hr1
  have HC1 := Aside0.mk hc1
  have HR2 := Aside0.mk hr2
  have HC2 := Aside0.mk hc2
  have HR3 := Aside0.mk hr3
  have HC3 := Aside0.mk hc3
  clear hr0 hc0 hr1 hc1 hr2 hc2 hr3 hc3
  have H1 := Aside0.mk hH1
  have H2 := Aside0.mk hH2
  clear hH1 hH2
  have S := Aside0.mk (St.start w)
  go_enter Try.func66, Try.ntmps66
  go_wp2_with (first
      | ((with_reducible refine gate_dst (N := 4) rfl ?_)
         refine box_event ?hg (N := 4) ?hd (cs := #[.slice A0 ws.length c0, .slice A1 ds.length c1]) (t := 88) ?hr ?_
         (case hd => rfl)
         (case hg => rfl)
         (case hr => first | (go_simp; done) | (go_simp; rfl) | (go_simp; exact ⟨rfl, rfl⟩))
         intro g1 hg w2 hbox hb
         replace S := Aside0.mk (S.out.box hg hbox hb)
         clear hg hbox hb)
      | ((with_reducible refine gate_dst (N := 5) rfl ?_)
         refine box_event ?hg (N := 5) ?hd (cs := #[.int .i64 t]) (t := 3) ?hr ?_
         (case hd => rfl)
         (case hg => rfl)
         (case hr => first | (go_simp; done) | (go_simp; rfl) | (go_simp; exact ⟨rfl, rfl⟩))
         intro g3 hg w4 hbox hb
         replace S := Aside0.mk (S.out.box hg hbox hb)
         clear hg hbox hb)
      | ((with_reducible refine gate_dst (N := 7) rfl ?_)
         refine box_event ?hg (N := 7) ?hd (cs := #[.int .i64 code, .slice A3 rs.length c3]) (t := 70) ?hr ?_
         (case hd => rfl)
         (case hg => rfl)
         (case hr => first | (go_simp; done) | (go_simp; rfl) | (go_simp; exact ⟨rfl, rfl⟩))
         intro g5 hg w6 hbox hb
         replace S := Aside0.mk (S.out.box hg hbox hb)
         clear hg hbox hb)
      | ((with_reducible refine gate_dst (N := 8) rfl ?_)
         refine box_event ?hg (N := 8) ?hd (cs := #[.slice none 0 0, .slice none 0 0]) (t := 88) ?hr ?_
         (case hd => rfl)
         (case hg => rfl)
         (case hr => first | (go_simp; done) | (go_simp; rfl) | (go_simp; exact ⟨rfl, rfl⟩))
         intro g7 hg w8 hbox hb
         replace S := Aside0.mk (S.out.box hg hbox hb)
         clear hg hbox hb)
      | ((with_reducible refine gate_dst (N := 9) rfl ?_)
         refine box_event ?hg (N := 9) ?hd (cs := #[.int .i64 0, .int .i64 0, .int .i64 0, .int .i64 0]) (t := 100) ?hr ?_
         (case hd => rfl)
         (case hg => rfl)
         (case hr => first | (go_simp; done) | (go_simp; rfl) | (go_simp; exact ⟨rfl, rfl⟩))
         intro g9 hg w10 hbox hb
         replace S := Aside0.mk (S.out.box hg hbox hb)
         clear hg hbox hb
         have kg1_0 : w10.cell? ⟨g1, 0, none⟩ = some (.slice A0 ws.length c0) := (blk_cell (S.out.blk 4 rfl) 0).trans rfl
         have kg1_1 : w10.cell? ⟨g1, 1, none⟩ = some (.slice A1 ds.length c1) := (blk_cell (S.out.blk 4 rfl) 1).trans rfl)
      | ((with_reducible refine gate_callee (f := 137) rfl ?_)
         (try clear kg1_0 kg1_1)
         refine goesL_ (some 15) rfl rfl Try.func137 (by kernel_rfl) rfl #[.agg #[.slice A0 ws.length c0, .slice A1 ds.length c1]] rfl (by (try simp only [List.map_toArray, List.map_cons, List.map_nil]); first | done | rfl) ?_
         (with_reducible refine (impl_copyMem.calls k A0 c0 ws A1 c1 ds _ _ _ (Kd.C_below HR0.out S.out.below) HC0.out (Kd.C_below HR1.out S.out.below) HC1.out H1.out).mono ?_)
         rintro e w11 ⟨v12, v13, rfl, h0, h1, hb⟩
         obtain ⟨A14, c15, rfl⟩ := Kd.R_slice h0
         obtain ⟨A16, c17, rfl⟩ := Kd.S_slice h1
         refine ⟨_, rfl, ?_⟩
         replace S := Aside0.mk (S.out.madeM h0 h1 hb)
         clear hb h0 h1)
      | ((with_reducible refine gate_dst (N := 11) rfl ?_)
         refine box_event ?hg (N := 11) ?hd (cs := #[.slice none 0 0, .slice none 0 0]) (t := 88) ?hr ?_
         (case hd => rfl)
         (case hg => rfl)
         (case hr => first | (go_simp; done) | (go_simp; rfl) | (go_simp; exact ⟨rfl, rfl⟩))
         intro g18 hg w19 hbox hb
         replace S := Aside0.mk (S.out.box hg hbox hb)
         clear hg hbox hb
         have kg18_0 : w19.cell? ⟨g18, 0, none⟩ = some (.slice none 0 0) := (blk_cell (S.out.blk 0 rfl) 0).trans rfl
         have kg18_1 : w19.cell? ⟨g18, 1, none⟩ = some (.slice none 0 0) := (blk_cell (S.out.blk 0 rfl) 1).trans rfl)
      | ((with_reducible refine gate_store (t := 88) (p := 11) rfl ?_)
         have zg18_0 := blk_frozen (S.out.blk 0 rfl) 0
         have zg18_1 := blk_frozen (S.out.blk 0 rfl) 1
         refine store_event (t := 88) (p := 11) (v := ?vo_w20) (w1 := ((w19.setCell ⟨g18, 0, none⟩ (.slice A14 ws.length c15)).setCell ⟨g18, 1, none⟩ (.slice A16 ds.length c17))) ?hg ?ho ?hn ?hr ?_
         (case ho => rfl)
         (case hg => rfl)
         (case hn => rfl)
         (case hr => first | (go_simp; done) | (go_simp; rfl) | (go_simp; exact ⟨rfl, rfl⟩))
         (try clear zg18_0 zg18_1)
         (try clear kg18_0 kg18_1)
         intro w20 hw
         replace S : Aside0 (St w w (fun _ => False) [hB g18 #[.slice A14 ws.length c15, .slice A16 ds.length c17] 88, hM w.heap.size (.slice A14 ws.length c15) (.slice A16 ds.length c17) ws ds, hB g9 #[.int .i64 0, .int .i64 0, .int .i64 0, .int .i64 0] 100, hB g7 #[.slice none 0 0, .slice none 0 0] 88, hB g5 #[.int .i64 code, .slice A3 rs.length c3] 70, hB g3 #[.int .i64 t] 3, hB g1 #[.slice A0 ws.length c0, .slice A1 ds.length c1] 88] w20) := Aside0.mk (by rw [hw]; exact ((S.out.put 0 (.slice A14 ws.length c15) rfl).put 1 (.slice A16 ds.length c17) rfl))
         clear hw
         have kg1_0 : w20.cell? ⟨g1, 0, none⟩ = some (.slice A0 ws.length c0) := (blk_cell (S.out.blk 6 rfl) 0).trans rfl
         have kg1_1 : w20.cell? ⟨g1, 1, none⟩ = some (.slice A1 ds.length c1) := (blk_cell (S.out.blk 6 rfl) 1).trans rfl)
      | ((with_reducible refine gate_callee (f := 130) rfl ?_)
         (try clear kg1_0 kg1_1)
         refine goesL_ (some 17) rfl rfl Try.func130 (by kernel_rfl) rfl #[.agg #[.slice A0 ws.length c0, .slice A1 ds.length c1]] rfl (by (try simp only [List.map_toArray, List.map_cons, List.map_nil]); first | done | rfl) ?_
         (with_reducible refine (impl_MemOk.calls k A0 c0 ws A1 c1 ds _ _ (Kd.C_below HR0.out S.out.below) HC0.out (Kd.C_below HR1.out S.out.below) HC1.out H2.out).mono ?_)
         rintro e w21 ⟨rfl, hb⟩
         refine ⟨_, rfl, ?_⟩
         replace S := Aside0.mk (S.out.moved hb)
         clear hb
         have kg18_0 : w21.cell? ⟨g18, 0, none⟩ = some (.slice A14 ws.length c15) := (blk_cell (S.out.blk 0 rfl) 0).trans rfl
         have kg18_1 : w21.cell? ⟨g18, 1, none⟩ = some (.slice A16 ds.length c17) := (blk_cell (S.out.blk 0 rfl) 1).trans rfl
         have kg7_0 : w21.cell? ⟨g7, 0, none⟩ = some (.slice none 0 0) := (blk_cell (S.out.blk 3 rfl) 0).trans rfl
         have kg7_1 : w21.cell? ⟨g7, 1, none⟩ = some (.slice none 0 0) := (blk_cell (S.out.blk 3 rfl) 1).trans rfl)
      | ((with_reducible refine gate_store (t := 88) (p := 8) rfl ?_)
         have zg7_0 := blk_frozen (S.out.blk 3 rfl) 0
         have zg7_1 := blk_frozen (S.out.blk 3 rfl) 1
         refine store_event (t := 88) (p := 8) (v := ?vo_w22) (w1 := ((w21.setCell ⟨g7, 0, none⟩ (.slice A14 ws.length c15)).setCell ⟨g7, 1, none⟩ (.slice A16 ds.length c17))) ?hg ?ho ?hn ?hr ?_
         (case ho => rfl)
         (case hg => rfl)
         (case hn => rfl)
         (case hr => first | (go_simp; done) | (go_simp; rfl) | (go_simp; exact ⟨rfl, rfl⟩))
         (try clear zg7_0 zg7_1)
         (try clear kg18_0 kg18_1 kg7_0 kg7_1)
         intro w22 hw
         replace S := Aside0.mk (show St w w (fun _ => False) [hB g7 #[.slice none 0 0, .slice none 0 0] 88, hB g18 #[.slice A14 ws.length c15, .slice A16 ds.length c17] 88, hM w.heap.size (.slice A14 ws.length c15) (.slice A16 ds.length c17) ws ds, hB g9 #[.int .i64 0, .int .i64 0, .int .i64 0, .int .i64 0] 100, hB g5 #[.int .i64 code, .slice A3 rs.length c3] 70, hB g3 #[.int .i64 t] 3, hB g1 #[.slice A0 ws.length c0, .slice A1 ds.length c1] 88] _ from S.out.bring 3 rfl)
         replace S : Aside0 (St w w (fun _ => False) [hB g7 #[.slice A14 ws.length c15, .slice A16 ds.length c17] 88, hB g18 #[.slice A14 ws.length c15, .slice A16 ds.length c17] 88, hM w.heap.size (.slice A14 ws.length c15) (.slice A16 ds.length c17) ws ds, hB g9 #[.int .i64 0, .int .i64 0, .int .i64 0, .int .i64 0] 100, hB g5 #[.int .i64 code, .slice A3 rs.length c3] 70, hB g3 #[.int .i64 t] 3, hB g1 #[.slice A0 ws.length c0, .slice A1 ds.length c1] 88] w22) := Aside0.mk (by rw [hw]; exact ((S.out.put 0 (.slice A14 ws.length c15) rfl).put 1 (.slice A16 ds.length c17) rfl))
         clear hw
         have kg9_0 : w22.cell? ⟨g9, 0, none⟩ = some (.int .i64 0) := (blk_cell (S.out.blk 3 rfl) 0).trans rfl
         have kg9_1 : w22.cell? ⟨g9, 1, none⟩ = some (.int .i64 0) := (blk_cell (S.out.blk 3 rfl) 1).trans rfl
         have kg9_2 : w22.cell? ⟨g9, 2, none⟩ = some (.int .i64 0) := (blk_cell (S.out.blk 3 rfl) 2).trans rfl
         have kg9_3 : w22.cell? ⟨g9, 3, none⟩ = some (.int .i64 0) := (blk_cell (S.out.blk 3 rfl) 3).trans rfl)
      | ((with_reducible refine gate_store (t := 100) (p := 9) rfl ?_)
         have zg9_0 := blk_frozen (S.out.blk 3 rfl) 0
         have zg9_1 := blk_frozen (S.out.blk 3 rfl) 1
         have zg9_2 := blk_frozen (S.out.blk 3 rfl) 2
         have zg9_3 := blk_frozen (S.out.blk 3 rfl) 3
         refine store_event (t := 100) (p := 9) (v := ?vo_w23) (w1 := ((((w22.setCell ⟨g9, 0, none⟩ (.int .i64 0)).setCell ⟨g9, 1, none⟩ (.int .i64 0)).setCell ⟨g9, 2, none⟩ (.int .i64 0)).setCell ⟨g9, 3, none⟩ (.int .i64 0))) ?hg ?ho ?hn ?hr ?_
         (case ho => rfl)
         (case hg => rfl)
         (case hn => rfl)
         (case hr => first | (go_simp; done) | (go_simp; rfl) | (go_simp; exact ⟨rfl, rfl⟩))
         (try clear zg9_0 zg9_1 zg9_2 zg9_3)
         (try clear kg9_0 kg9_1 kg9_2 kg9_3)
         intro w23 hw
         replace S := Aside0.mk (show St w w (fun _ => False) [hB g9 #[.int .i64 0, .int .i64 0, .int .i64 0, .int .i64 0] 100, hB g7 #[.slice A14 ws.length c15, .slice A16 ds.length c17] 88, hB g18 #[.slice A14 ws.length c15, .slice A16 ds.length c17] 88, hM w.heap.size (.slice A14 ws.length c15) (.slice A16 ds.length c17) ws ds, hB g5 #[.int .i64 code, .slice A3 rs.length c3] 70, hB g3 #[.int .i64 t] 3, hB g1 #[.slice A0 ws.length c0, .slice A1 ds.length c1] 88] _ from S.out.bring 3 rfl)
         replace S : Aside0 (St w w (fun _ => False) [hB g9 #[.int .i64 0, .int .i64 0, .int .i64 0, .int .i64 0] 100, hB g7 #[.slice A14 ws.length c15, .slice A16 ds.length c17] 88, hB g18 #[.slice A14 ws.length c15, .slice A16 ds.length c17] 88, hM w.heap.size (.slice A14 ws.length c15) (.slice A16 ds.length c17) ws ds, hB g5 #[.int .i64 code, .slice A3 rs.length c3] 70, hB g3 #[.int .i64 t] 3, hB g1 #[.slice A0 ws.length c0, .slice A1 ds.length c1] 88] w23) := Aside0.mk (by rw [hw]; exact ((((S.out.put 0 (.int .i64 0) rfl).put 1 (.int .i64 0) rfl).put 2 (.int .i64 0) rfl).put 3 (.int .i64 0) rfl))
         clear hw))
  refine bodyPost_ret (results_list (rs := [.cell 8 88, .cell 9 100, .tmp 10]) rfl (by simp) (.cell g7 88 #[.slice A14 ws.length c15, .slice A16 ds.length c17] (0, 0) _ rfl (S.out.blk 1 rfl) Try.underlying88 rfl (by kernel_rfl) (.cell g9 100 #[.int .i64 0, .int .i64 0, .int .i64 0, .int .i64 0] (0, 0) _ rfl (S.out.blk 0 rfl) Try.underlying100 rfl (by kernel_rfl) (.tmp .nil)))) rfl ?_
  obtain ⟨D_, hD_⟩ := S.out.nth 3 rfl
  exact ⟨_, _, by first | rfl | (simp; done), Kd.R_mono (M_R hD_) (fun _ _ => trivial), Kd.S_mono (M_S hD_) (fun _ _ => trivial), S.out.done⟩
set_option maxHeartbeats 8000000 in
set_option maxRecDepth 100000 in
theorem impl_Begin.way2 (k : Nat) (A0 : Option Addr) (c0 : Nat) (ws : List S141) (A1 : Option Addr) (c1 : Nat) (ds : List S145) (t : Int) (A2 : Option Addr) (c2 : Nat) (es : List S166) (code : Int) (A3 : Option Addr) (c3 : Nat) (rs : List Int) (w : World) (hr0 : Kd.C k141 w A0 ws.length ws) (hc0 : ws.length ≤ c0) (hr1 : Kd.C k145 w A1 ds.length ds) (hc1 : ds.length ≤ c1) (hr2 : Kd.C k166 w A2 es.length es) (hc2 : es.length ≤ c2) (hr3 : Kd.C (Kd.int .i64) w A3 rs.length rs) (hc3 : rs.length ≤ c3)
    (hH1 : impl_copyMem.f k ws ds = some (ws, ds)) (hH2 : impl_MemOk.f k ws ds = some true) (hH3 : impl_from.f t 0 (wrap64 ((ds.length : Int) - 1)) = some false) :
    Calls Try.prog 66 #[.agg #[.slice A0 ws.length c0, .slice A1 ds.length c1], .int .i64 t, .slice A2 es.length c2, .agg #[.int .i64 code, .slice A3 rs.length c3]] w fun e w' => ∃ v0_ v1_ : Value, e = .returned (.tuple #[.agg #[v0_, v1_], .agg #[.int .i64 0, .int .i64 0, .int .i64 0, .int .i64 0], .bool false]) ∧ Kd.R k141 141 w' w.heap.size (fun _ => True) v0_ ws ∧ Kd.S k145 145 w' w.heap.size (fun _ => True) v1_ ds ∧ Below w.heap.size w w' := by
  have hu88 := Try.underlying88
  have hu70 := Try.underlying70
  have hu100 := Try.underlying100
  have hu145 := Try.underlying145
  have HR0 := Aside0.mk hr0
  have HC0 := Aside0.mk hc0
  have HR1 := Aside0.mk hr1
  have HC1 := Aside0.mk hc1
  have HR2 := Aside0.mk hr2
  have HC2 := Aside0.mk hc2
  have HR3 := Aside0.mk hr3
  have HC3 := Aside0.mk hc3
  clear hr0 hc0 hr1 hc1 hr2 hc2 hr3 hc3
  have H1 := Aside0.mk hH1
  have H2 := Aside0.mk hH2
  have H3 := Aside0.mk hH3
  clear hH1 hH2 hH3
  have S := Aside0.mk (St.start w)
  go_enter Try.func66, Try.ntmps66
  go_wp2_with (first
      | ((with_reducible refine gate_dst (N := 4) rfl ?_)
         refine box_event ?hg (N := 4) ?hd (cs := #[.slice A0 ws.length c0, .slice A1 ds.length c1]) (t := 88) ?hr ?_
         (case hd => rfl)
         (case hg => rfl)
         (case hr => first | (go_simp; done) | (go_simp; rfl) | (go_simp; exact ⟨rfl, rfl⟩))
         intro g1 hg w2 hbox hb
         replace S := Aside0.mk (S.out.box hg hbox hb)
         clear hg hbox hb)
      | ((with_reducible refine gate_dst (N := 5) rfl ?_)
         refine box_event ?hg (N := 5) ?hd (cs := #[.int .i64 t]) (t := 3) ?hr ?_
         (case hd => rfl)
         (case hg => rfl)
         (case hr => first | (go_simp; done) | (go_simp; rfl) | (go_simp; exact ⟨rfl, rfl⟩))
         intro g3 hg w4 hbox hb
         replace S := Aside0.mk (S.out.box hg hbox hb)
         clear hg hbox hb)
      | ((with_reducible refine gate_dst (N := 7) rfl ?_)
         refine box_event ?hg (N := 7) ?hd (cs := #[.int .i64 code, .slice A3 rs.length c3]) (t := 70) ?hr ?_
         (case hd => rfl)
         (case hg => rfl)
         (case hr => first | (go_simp; done) | (go_simp; rfl) | (go_simp; exact ⟨rfl, rfl⟩))
         intro g5 hg w6 hbox hb
         replace S := Aside0.mk (S.out.box hg hbox hb)
         clear hg hbox hb)
      | ((with_reducible refine gate_dst (N := 8) rfl ?_)
         refine box_event ?hg (N := 8) ?hd (cs := #[.slice none 0 0, .slice none 0 0]) (t := 88) ?hr ?_
         (case hd => rfl)
         (case hg => rfl)
         (case hr => first | (go_simp; done) | (go_simp; rfl) | (go_simp; exact ⟨rfl, rfl⟩))
         intro g7 hg w8 hbox hb
         replace S := Aside0.mk (S.out.box hg hbox hb)
         clear hg hbox hb)
      | ((with_reducible refine gate_dst (N := 9) rfl ?_)
         refine box_event ?hg (N := 9) ?hd (cs := #[.int .i64 0, .int .i64 0, .int .i64 0, .int .i64 0]) (t := 100) ?hr ?_
         (case hd => rfl)
         (case hg => rfl)
         (case hr => first | (go_simp; done) | (go_simp; rfl) | (go_simp; exact ⟨rfl, rfl⟩))
         intro g9 hg w10 hbox hb
         replace S := Aside0.mk (S.out.box hg hbox hb)
         clear hg hbox hb
         have kg1_0 : w10.cell? ⟨g1, 0, none⟩ = some (.slice A0 ws.length c0) := (blk_cell (S.out.blk 4 rfl) 0).trans rfl
         have kg1_1 : w10.cell? ⟨g1, 1, none⟩ = some (.slice A1 ds.length c1) := (blk_cell (S.out.blk 4 rfl) 1).trans rfl)
      | ((with_reducible refine gate_callee (f := 137) rfl ?_)
         (try clear kg1_0 kg1_1)
         refine goesL_ (some 15) rfl rfl Try.func137 (by kernel_rfl) rfl #[.agg #[.slice A0 ws.length c0, .slice A1 ds.length c1]] rfl (by (try simp only [List.map_toArray, List.map_cons, List.map_nil]); first | done | rfl) ?_
         (with_reducible refine (impl_copyMem.calls k A0 c0 ws A1 c1 ds _ _ _ (Kd.C_below HR0.out S.out.below) HC0.out (Kd.C_below HR1.out S.out.below) HC1.out H1.out).mono ?_)
         rintro e w11 ⟨v12, v13, rfl, h0, h1, hb⟩
         obtain ⟨A14, c15, rfl⟩ := Kd.R_slice h0
         obtain ⟨A16, c17, rfl⟩ := Kd.S_slice h1
         refine ⟨_, rfl, ?_⟩
         replace S := Aside0.mk (S.out.madeM h0 h1 hb)
         clear hb h0 h1)
      | ((with_reducible refine gate_dst (N := 11) rfl ?_)
         refine box_event ?hg (N := 11) ?hd (cs := #[.slice none 0 0, .slice none 0 0]) (t := 88) ?hr ?_
         (case hd => rfl)
         (case hg => rfl)
         (case hr => first | (go_simp; done) | (go_simp; rfl) | (go_simp; exact ⟨rfl, rfl⟩))
         intro g18 hg w19 hbox hb
         replace S := Aside0.mk (S.out.box hg hbox hb)
         clear hg hbox hb
         have kg18_0 : w19.cell? ⟨g18, 0, none⟩ = some (.slice none 0 0) := (blk_cell (S.out.blk 0 rfl) 0).trans rfl
         have kg18_1 : w19.cell? ⟨g18, 1, none⟩ = some (.slice none 0 0) := (blk_cell (S.out.blk 0 rfl) 1).trans rfl)
      | ((with_reducible refine gate_store (t := 88) (p := 11) rfl ?_)
         have zg18_0 := blk_frozen (S.out.blk 0 rfl) 0
         have zg18_1 := blk_frozen (S.out.blk 0 rfl) 1
         refine store_event (t := 88) (p := 11) (v := ?vo_w20) (w1 := ((w19.setCell ⟨g18, 0, none⟩ (.slice A14 ws.length c15)).setCell ⟨g18, 1, none⟩ (.slice A16 ds.length c17))) ?hg ?ho ?hn ?hr ?_
         (case ho => rfl)
         (case hg => rfl)
         (case hn => rfl)
         (case hr => first | (go_simp; done) | (go_simp; rfl) | (go_simp; exact ⟨rfl, rfl⟩))
         (try clear zg18_0 zg18_1)
         (try clear kg18_0 kg18_1)
         intro w20 hw
         replace S : Aside0 (St w w (fun _ => False) [hB g18 #[.slice A14 ws.length c15, .slice A16 ds.length c17] 88, hM w.heap.size (.slice A14 ws.length c15) (.slice A16 ds.length c17) ws ds, hB g9 #[.int .i64 0, .int .i64 0, .int .i64 0, .int .i64 0] 100, hB g7 #[.slice none 0 0, .slice none 0 0] 88, hB g5 #[.int .i64 code, .slice A3 rs.length c3] 70, hB g3 #[.int .i64 t] 3, hB g1 #[.slice A0 ws.length c0, .slice A1 ds.length c1] 88] w20) := Aside0.mk (by rw [hw]; exact ((S.out.put 0 (.slice A14 ws.length c15) rfl).put 1 (.slice A16 ds.length c17) rfl))
         clear hw
         have kg1_0 : w20.cell? ⟨g1, 0, none⟩ = some (.slice A0 ws.length c0) := (blk_cell (S.out.blk 6 rfl) 0).trans rfl
         have kg1_1 : w20.cell? ⟨g1, 1, none⟩ = some (.slice A1 ds.length c1) := (blk_cell (S.out.blk 6 rfl) 1).trans rfl)
      | ((with_reducible refine gate_callee (f := 130) rfl ?_)
         (try clear kg1_0 kg1_1)
         refine goesL_ (some 17) rfl rfl Try.func130 (by kernel_rfl) rfl #[.agg #[.slice A0 ws.length c0, .slice A1 ds.length c1]] rfl (by (try simp only [List.map_toArray, List.map_cons, List.map_nil]); first | done | rfl) ?_
         (with_reducible refine (impl_MemOk.calls k A0 c0 ws A1 c1 ds _ _ (Kd.C_below HR0.out S.out.below) HC0.out (Kd.C_below HR1.out S.out.below) HC1.out H2.out).mono ?_)
         rintro e w21 ⟨rfl, hb⟩
         refine ⟨_, rfl, ?_⟩
         replace S := Aside0.mk (S.out.moved hb)
         clear hb
         have kg3_0 : w21.cell? ⟨g3, 0, none⟩ = some (.int .i64 t) := (blk_cell (S.out.blk 5 rfl) 0).trans rfl
         have kg1_0 : w21.cell? ⟨g1, 0, none⟩ = some (.slice A0 ws.length c0) := (blk_cell (S.out.blk 6 rfl) 0).trans rfl
         have kg1_1 : w21.cell? ⟨g1, 1, none⟩ = some (.slice A1 ds.length c1) := (blk_cell (S.out.blk 6 rfl) 1).trans rfl)
      | (go_at_call 85
         (try clear kg3_0 kg1_0 kg1_1)
         (with_reducible refine (impl_from.calls t 0 (wrap64 ((ds.length : Int) - 1)) _ _ H3.out).mono ?_)
         rintro e w22 ⟨rfl, hb⟩
         replace hb : Below w21.heap.size w21 w22 := by obtain ⟨nd, rfl⟩ := hb; exact pw_below_drewN (Below.refl _ _) nd
         replace S := Aside0.mk (S.out.moved hb)
         clear hb
         have kg18_0 : w22.cell? ⟨g18, 0, none⟩ = some (.slice A14 ws.length c15) := (blk_cell (S.out.blk 0 rfl) 0).trans rfl
         have kg18_1 : w22.cell? ⟨g18, 1, none⟩ = some (.slice A16 ds.length c17) := (blk_cell (S.out.blk 0 rfl) 1).trans rfl
         have kg7_0 : w22.cell? ⟨g7, 0, none⟩ = some (.slice none 0 0) := (blk_cell (S.out.blk 3 rfl) 0).trans rfl
         have kg7_1 : w22.cell? ⟨g7, 1, none⟩ = some (.slice none 0 0) := (blk_cell (S.out.blk 3 rfl) 1).trans rfl)
      | ((with_reducible refine gate_store (t := 88) (p := 8) rfl ?_)
         have zg7_0 := blk_frozen (S.out.blk 3 rfl) 0
         have zg7_1 := blk_frozen (S.out.blk 3 rfl) 1
         refine store_event (t := 88) (p := 8) (v := ?vo_w23) (w1 := ((w22.setCell ⟨g7, 0, none⟩ (.slice A14 ws.length c15)).setCell ⟨g7, 1, none⟩ (.slice A16 ds.length c17))) ?hg ?ho ?hn ?hr ?_
         (case ho => rfl)
         (case hg => rfl)
         (case hn => rfl)
         (case hr => first | (go_simp; done) | (go_simp; rfl) | (go_simp; exact ⟨rfl, rfl⟩))
         (try clear zg7_0 zg7_1)
         (try clear kg18_0 kg18_1 kg7_0 kg7_1)
         intro w23 hw
         replace S := Aside0.mk (show St w w (fun _ => False) [hB g7 #[.slice none 0 0, .slice none 0 0] 88, hB g18 #[.slice A14 ws.length c15, .slice A16 ds.length c17] 88, hM w.heap.size (.slice A14 ws.length c15) (.slice A16 ds.length c17) ws ds, hB g9 #[.int .i64 0, .int .i64 0, .int .i64 0, .int .i64 0] 100, hB g5 #[.int .i64 code, .slice A3 rs.length c3] 70, hB g3 #[.int .i64 t] 3, hB g1 #[.slice A0 ws.length c0, .slice A1 ds.length c1] 88] _ from S.out.bring 3 rfl)
         replace S : Aside0 (St w w (fun _ => False) [hB g7 #[.slice A14 ws.length c15, .slice A16 ds.length c17] 88, hB g18 #[.slice A14 ws.length c15, .slice A16 ds.length c17] 88, hM w.heap.size (.slice A14 ws.length c15) (.slice A16 ds.length c17) ws ds, hB g9 #[.int .i64 0, .int .i64 0, .int .i64 0, .int .i64 0] 100, hB g5 #[.int .i64 code, .slice A3 rs.length c3] 70, hB g3 #[.int .i64 t] 3, hB g1 #[.slice A0 ws.length c0, .slice A1 ds.length c1] 88] w23) := Aside0.mk (by rw [hw]; exact ((S.out.put 0 (.slice A14 ws.length c15) rfl).put 1 (.slice A16 ds.length c17) rfl))
         clear hw
         have kg9_0 : w23.cell? ⟨g9, 0, none⟩ = some (.int .i64 0) := (blk_cell (S.out.blk 3 rfl) 0).trans rfl
         have kg9_1 : w23.cell? ⟨g9, 1, none⟩ = some (.int .i64 0) := (blk_cell (S.out.blk 3 rfl) 1).trans rfl
         have kg9_2 : w23.cell? ⟨g9, 2, none⟩ = some (.int .i64 0) := (blk_cell (S.out.blk 3 rfl) 2).trans rfl
         have kg9_3 : w23.cell? ⟨g9, 3, none⟩ = some (.int .i64 0) := (blk_cell (S.out.blk 3 rfl) 3).trans rfl)
      | ((with_reducible refine gate_store (t := 100) (p := 9) rfl ?_)
         have zg9_0 := blk_frozen (S.out.blk 3 rfl) 0
         have zg9_1 := blk_frozen (S.out.blk 3 rfl) 1
         have zg9_2 := blk_frozen (S.out.blk 3 rfl) 2
         have zg9_3 := blk_frozen (S.out.blk 3 rfl) 3
         refine store_event (t := 100) (p := 9) (v := ?vo_w24) (w1 := ((((w23.setCell ⟨g9, 0, none⟩ (.int .i64 0)).setCell ⟨g9, 1, none⟩ (.int .i64 0)).setCell ⟨g9, 2, none⟩ (.int .i64 0)).setCell ⟨g9, 3, none⟩ (.int .i64 0))) ?hg ?ho ?hn ?hr ?_
         (case ho => rfl)
         (case hg => rfl)
         (case hn => rfl)
         (case hr => first | (go_simp; done) | (go_simp; rfl) | (go_simp; exact ⟨rfl, rfl⟩))
         (try clear zg9_0 zg9_1 zg9_2 zg9_3)
         (try clear kg9_0 kg9_1 kg9_2 kg9_3)
         intro w24 hw
         replace S := Aside0.mk (show St w w (fun _ => False) [hB g9 #[.int .i64 0, .int .i64 0, .int .i64 0, .int .i64 0] 100, hB g7 #[.slice A14 ws.length c15, .slice A16 ds.length c17] 88, hB g18 #[.slice A14 ws.length c15, .slice A16 ds.length c17] 88, hM w.heap.size (.slice A14 ws.length c15) (.slice A16 ds.length c17) ws ds, hB g5 #[.int .i64 code, .slice A3 rs.length c3] 70, hB g3 #[.int .i64 t] 3, hB g1 #[.slice A0 ws.length c0, .slice A1 ds.length c1] 88] _ from S.out.bring 3 rfl)
         replace S : Aside0 (St w w (fun _ => False) [hB g9 #[.int .i64 0, .int .i64 0, .int .i64 0, .int .i64 0] 100, hB g7 #[.slice A14 ws.length c15, .slice A16 ds.length c17] 88, hB g18 #[.slice A14 ws.length c15, .slice A16 ds.length c17] 88, hM w.heap.size (.slice A14 ws.length c15) (.slice A16 ds.length c17) ws ds, hB g5 #[.int .i64 code, .slice A3 rs.length c3] 70, hB g3 #[.int .i64 t] 3, hB g1 #[.slice A0 ws.length c0, .slice A1 ds.length c1] 88] w24) := Aside0.mk (by rw [hw]; exact ((((S.out.put 0 (.int .i64 0) rfl).put 1 (.int .i64 0) rfl).put 2 (.int .i64 0) rfl).put 3 (.int .i64 0) rfl))
         clear hw))
  refine bodyPost_ret (results_list (rs := [.cell 8 88, .cell 9 100, .tmp 10]) rfl (by simp) (.cell g7 88 #[.slice A14 ws.length c15, .slice A16 ds.length c17] (0, 0) _ rfl (S.out.blk 1 rfl) Try.underlying88 rfl (by kernel_rfl) (.cell g9 100 #[.int .i64 0, .int .i64 0, .int .i64 0, .int .i64 0] (0, 0) _ rfl (S.out.blk 0 rfl) Try.underlying100 rfl (by kernel_rfl) (.tmp .nil)))) rfl ?_
  obtain ⟨D_, hD_⟩ := S.out.nth 3 rfl
  exact ⟨_, _, by first | rfl | (simp; done), Kd.R_mono (M_R hD_) (fun _ _ => trivial), Kd.S_mono (M_S hD_) (fun _ _ => trivial), S.out.done⟩
set_option maxHeartbeats 8000000 in
set_option maxRecDepth 100000 in
theorem impl_Begin.way3 (k : Nat) (A0 : Option Addr) (c0 : Nat) (ws : List S141) (A1 : Option Addr) (c1 : Nat) (ds : List S145) (t : Int) (A2 : Option Addr) (c2 : Nat) (es : List S166) (code : Int) (A3 : Option Addr) (c3 : Nat) (rs : List Int) (w : World) (hr0 : Kd.C k141 w A0 ws.length ws) (hc0 : ws.length ≤ c0) (hr1 : Kd.C k145 w A1 ds.length ds) (hc1 : ds.length ≤ c1) (hr2 : Kd.C k166 w A2 es.length es) (hc2 : es.length ≤ c2) (hr3 : Kd.C (Kd.int .i64) w A3 rs.length rs) (hc3 : rs.length ≤ c3)
    (hH1 : impl_copyMem.f k ws ds = some (ws, ds)) (hH2 : impl_MemOk.f k ws ds = some true) (hH3 : impl_from.f t 0 (wrap64 ((ds.length : Int) - 1)) = some true) (hH4 : impl_Begin_1_any.f ws t = some true) :
    Calls Try.prog 66 #[.agg #[.slice A0 ws.length c0, .slice A1 ds.length c1], .int .i64 t, .slice A2 es.length c2, .agg #[.int .i64 code, .slice A3 rs.length c3]] w fun e w' => ∃ v0_ v1_ : Value, e = .returned (.tuple #[.agg #[v0_, v1_], .agg #[.int .i64 0, .int .i64 0, .int .i64 0, .int .i64 0], .bool false]) ∧ Kd.R k141 141 w' w.heap.size (fun _ => True) v0_ ws ∧ Kd.S k145 145 w' w.heap.size (fun _ => True) v1_ ds ∧ Below w.heap.size w w' := by
  have hu88 := Try.underlying88
  have hu70 := Try.underlying70
  have hu100 := Try.underlying100
  have hu145 := Try.underlying145
  have HR0 := Aside0.mk hr0
  have HC0 := Aside0.mk hc0
  have HR1 := Aside0.mk hr1
  have HC1 := Aside0.mk hc1
  have HR2 := Aside0.mk hr2
  have HC2 := Aside0.mk hc2
  have HR3 := Aside0.mk hr3
  have HC3 := Aside0.mk hc3
  clear hr0 hc0 hr1 hc1 hr2 hc2 hr3 hc3
  have H1 := Aside0.mk hH1
  have H2 := Aside0.mk hH2
  have H3 := Aside0.mk hH3
  have H4 := Aside0.mk hH4
  clear hH1 hH2 hH3 hH4
  have S := Aside0.mk (St.start w)
  go_enter Try.func66, Try.ntmps66
  go_wp2_with (first
      | ((with_reducible refine gate_dst (N := 4) rfl ?_)
         refine box_event ?hg (N := 4) ?hd (cs := #[.slice A0 ws.length c0, .slice A1 ds.length c1]) (t := 88) ?hr ?_
         (case hd => rfl)
         (case hg => rfl)
         (case hr => first | (go_simp; done) | (go_simp; rfl) | (go_simp; exact ⟨rfl, rfl⟩))
         intro g1 hg w2 hbox hb
         replace S := Aside0.mk (S.out.box hg hbox hb)
         clear hg hbox hb)
      | ((with_reducible refine gate_dst (N := 5) rfl ?_)
         refine box_event ?hg (N := 5) ?hd (cs := #[.int .i64 t]) (t := 3) ?hr ?_
         (case hd => rfl)
         (case hg => rfl)
         (case hr => first | (go_simp; done) | (go_simp; rfl) | (go_simp; exact ⟨rfl, rfl⟩))
         intro g3 hg w4 hbox hb
         replace S := Aside0.mk (S.out.box hg hbox hb)
         clear hg hbox hb)
      | ((with_reducible refine gate_dst (N := 7) rfl ?_)
         refine box_event ?hg (N := 7) ?hd (cs := #[.int .i64 code, .slice A3 rs.length c3]) (t := 70) ?hr ?_
         (case hd => rfl)
         (case hg => rfl)
         (case hr => first | (go_simp; done) | (go_simp; rfl) | (go_simp; exact ⟨rfl, rfl⟩))
         intro g5 hg w6 hbox hb
         replace S := Aside0.mk (S.out.box hg hbox hb)
         clear hg hbox hb)
      | ((with_reducible refine gate_dst (N := 8) rfl ?_)
         refine box_event ?hg (N := 8) ?hd (cs := #[.slice none 0 0, .slice none 0 0]) (t := 88) ?hr ?_
         (case hd => rfl)
         (case hg => rfl)
         (case hr => first | (go_simp; done) | (go_simp; rfl) | (go_simp; exact ⟨rfl, rfl⟩))
         intro g7 hg w8 hbox hb
         replace S := Aside0.mk (S.out.box hg hbox hb)
         clear hg hbox hb)
      | ((with_reducible refine gate_dst (N := 9) rfl ?_)
         refine box_event ?hg (N := 9) ?hd (cs := #[.int .i64 0, .int .i64 0, .int .i64 0, .int .i64 0]) (t := 100) ?hr ?_
         (case hd => rfl)
         (case hg => rfl)
         (case hr => first | (go_simp; done) | (go_simp; rfl) | (go_simp; exact ⟨rfl, rfl⟩))
         intro g9 hg w10 hbox hb
         replace S := Aside0.mk (S.out.box hg hbox hb)
         clear hg hbox hb
         have kg1_0 : w10.cell? ⟨g1, 0, none⟩ = some (.slice A0 ws.length c0) := (blk_cell (S.out.blk 4 rfl) 0).trans rfl
         have kg1_1 : w10.cell? ⟨g1, 1, none⟩ = some (.slice A1 ds.length c1) := (blk_cell (S.out.blk 4 rfl) 1).trans rfl)
      | ((with_reducible refine gate_callee (f := 137) rfl ?_)
         (try clear kg1_0 kg1_1)
         refine goesL_ (some 15) rfl rfl Try.func137 (by kernel_rfl) rfl #[.agg #[.slice A0 ws.length c0, .slice A1 ds.length c1]] rfl (by (try simp only [List.map_toArray, List.map_cons, List.map_nil]); first | done | rfl) ?_
         (with_reducible refine (impl_copyMem.calls k A0 c0 ws A1 c1 ds _ _ _ (Kd.C_below HR0.out S.out.below) HC0.out (Kd.C_below HR1.out S.out.below) HC1.out H1.out).mono ?_)
         rintro e w11 ⟨v12, v13, rfl, h0, h1, hb⟩
         obtain ⟨A14, c15, rfl⟩ := Kd.R_slice h0
         obtain ⟨A16, c17, rfl⟩ := Kd.S_slice h1
         refine ⟨_, rfl, ?_⟩
         replace S := Aside0.mk (S.out.madeM h0 h1 hb)
         clear hb h0 h1)
      | ((with_reducible refine gate_dst (N := 11) rfl ?_)
         refine box_event ?hg (N := 11) ?hd (cs := #[.slice none 0 0, .slice none 0 0]) (t := 88) ?hr ?_
         (case hd => rfl)
         (case hg => rfl)
         (case hr => first | (go_simp; done) | (go_simp; rfl) | (go_simp; exact ⟨rfl, rfl⟩))
         intro g18 hg w19 hbox hb
         replace S := Aside0.mk (S.out.box hg hbox hb)
         clear hg hbox hb
         have kg18_0 : w19.cell? ⟨g18, 0, none⟩ = some (.slice none 0 0) := (blk_cell (S.out.blk 0 rfl) 0).trans rfl
         have kg18_1 : w19.cell? ⟨g18, 1, none⟩ = some (.slice none 0 0) := (blk_cell (S.out.blk 0 rfl) 1).trans rfl)
      | ((with_reducible refine gate_store (t := 88) (p := 11) rfl ?_)
         have zg18_0 := blk_frozen (S.out.blk 0 rfl) 0
         have zg18_1 := blk_frozen (S.out.blk 0 rfl) 1
         refine store_event (t := 88) (p := 11) (v := ?vo_w20) (w1 := ((w19.setCell ⟨g18, 0, none⟩ (.slice A14 ws.length c15)).setCell ⟨g18, 1, none⟩ (.slice A16 ds.length c17))) ?hg ?ho ?hn ?hr ?_
         (case ho => rfl)
         (case hg => rfl)
         (case hn => rfl)
         (case hr => first | (go_simp; done) | (go_simp; rfl) | (go_simp; exact ⟨rfl, rfl⟩))
         (try clear zg18_0 zg18_1)
         (try clear kg18_0 kg18_1)
         intro w20 hw
         replace S : Aside0 (St w w (fun _ => False) [hB g18 #[.slice A14 ws.length c15, .slice A16 ds.length c17] 88, hM w.heap.size (.slice A14 ws.length c15) (.slice A16 ds.length c17) ws ds, hB g9 #[.int .i64 0, .int .i64 0, .int .i64 0, .int .i64 0] 100, hB g7 #[.slice none 0 0, .slice none 0 0] 88, hB g5 #[.int .i64 code, .slice A3 rs.length c3] 70, hB g3 #[.int .i64 t] 3, hB g1 #[.slice A0 ws.length c0, .slice A1 ds.length c1] 88] w20) := Aside0.mk (by rw [hw]; exact ((S.out.put 0 (.slice A14 ws.length c15) rfl).put 1 (.slice A16 ds.length c17) rfl))
         clear hw
         have kg1_0 : w20.cell? ⟨g1, 0, none⟩ = some (.slice A0 ws.length c0) := (blk_cell (S.out.blk 6 rfl) 0).trans rfl
         have kg1_1 : w20.cell? ⟨g1, 1, none⟩ = some (.slice A1 ds.length c1) := (blk_cell (S.out.blk 6 rfl) 1).trans rfl)
      | ((with_reducible refine gate_callee (f := 130) rfl ?_)
         (try clear kg1_0 kg1_1)
         refine goesL_ (some 17) rfl rfl Try.func130 (by kernel_rfl) rfl #[.agg #[.slice A0 ws.length c0, .slice A1 ds.length c1]] rfl (by (try simp only [List.map_toArray, List.map_cons, List.map_nil]); first | done | rfl) ?_
         (with_reducible refine (impl_MemOk.calls k A0 c0 ws A1 c1 ds _ _ (Kd.C_below HR0.out S.out.below) HC0.out (Kd.C_below HR1.out S.out.below) HC1.out H2.out).mono ?_)
         rintro e w21 ⟨rfl, hb⟩
         refine ⟨_, rfl, ?_⟩
         replace S := Aside0.mk (S.out.moved hb)
         clear hb
         have kg3_0 : w21.cell? ⟨g3, 0, none⟩ = some (.int .i64 t) := (blk_cell (S.out.blk 5 rfl) 0).trans rfl
         have kg1_0 : w21.cell? ⟨g1, 0, none⟩ = some (.slice A0 ws.length c0) := (blk_cell (S.out.blk 6 rfl) 0).trans rfl
         have kg1_1 : w21.cell? ⟨g1, 1, none⟩ = some (.slice A1 ds.length c1) := (blk_cell (S.out.blk 6 rfl) 1).trans rfl)
      | (go_at_call 85
         (try clear kg3_0 kg1_0 kg1_1)
         (with_reducible refine (impl_from.calls t 0 (wrap64 ((ds.length : Int) - 1)) _ _ H3.out).mono ?_)
         rintro e w22 ⟨rfl, hb⟩
         replace hb : Below w21.heap.size w21 w22 := by obtain ⟨nd, rfl⟩ := hb; exact pw_below_drewN (Below.refl _ _) nd
         replace S := Aside0.mk (S.out.moved hb)
         clear hb
         have kg1_0 : w22.cell? ⟨g1, 0, none⟩ = some (.slice A0 ws.length c0) := (blk_cell (S.out.blk 6 rfl) 0).trans rfl
         have kg1_1 : w22.cell? ⟨g1, 1, none⟩ = some (.slice A1 ds.length c1) := (blk_cell (S.out.blk 6 rfl) 1).trans rfl)
      | (go_at_call 138
         (try clear kg1_0 kg1_1)
         (with_reducible refine (impl_Begin_1_any.calls _ _ ws g3 t _ _ (Kd.C_below HR0.out S.out.below) HC0.out (S.out.blk 5 rfl) H4.out).mono ?_)
         rintro e w23 ⟨rfl, hb⟩
         replace S := Aside0.mk (S.out.moved hb)
         clear hb
         have kg18_0 : w23.cell? ⟨g18, 0, none⟩ = some (.slice A14 ws.length c15) := (blk_cell (S.out.blk 0 rfl) 0).trans rfl
         have kg18_1 : w23.cell? ⟨g18, 1, none⟩ = some (.slice A16 ds.length c17) := (blk_cell (S.out.blk 0 rfl) 1).trans rfl
         have kg7_0 : w23.cell? ⟨g7, 0, none⟩ = some (.slice none 0 0) := (blk_cell (S.out.blk 3 rfl) 0).trans rfl
         have kg7_1 : w23.cell? ⟨g7, 1, none⟩ = some (.slice none 0 0) := (blk_cell (S.out.blk 3 rfl) 1).trans rfl)
      | ((with_reducible refine gate_store (t := 88) (p := 8) rfl ?_)
         have zg7_0 := blk_frozen (S.out.blk 3 rfl) 0
         have zg7_1 := blk_frozen (S.out.blk 3 rfl) 1
         refine store_event (t := 88) (p := 8) (v := ?vo_w24) (w1 := ((w23.setCell ⟨g7, 0, none⟩ (.slice A14 ws.length c15)).setCell ⟨g7, 1, none⟩ (.slice A16 ds.length c17))) ?hg ?ho ?hn ?hr ?_
         (case ho => rfl)
         (case hg => rfl)
         (case hn => rfl)
         (case hr => first | (go_simp; done) | (go_simp; rfl) | (go_simp; exact ⟨rfl, rfl⟩))
         (try clear zg7_0 zg7_1)
         (try clear kg18_0 kg18_1 kg7_0 kg7_1)
         intro w24 hw
         replace S := Aside0.mk (show St w w (fun _ => False) [hB g7 #[.slice none 0 0, .slice none 0 0] 88, hB g18 #[.slice A14 ws.length c15, .slice A16 ds.length c17] 88, hM w.heap.size (.slice A14 ws.length c15) (.slice A16 ds.length c17) ws ds, hB g9 #[.int .i64 0, .int .i64 0, .int .i64 0, .int .i64 0] 100, hB g5 #[.int .i64 code, .slice A3 rs.length c3] 70, hB g3 #[.int .i64 t] 3, hB g1 #[.slice A0 ws.length c0, .slice A1 ds.length c1] 88] _ from S.out.bring 3 rfl)
         replace S : Aside0 (St w w (fun _ => False) [hB g7 #[.slice A14 ws.length c15, .slice A16 ds.length c17] 88, hB g18 #[.slice A14 ws.length c15, .slice A16 ds.length c17] 88, hM w.heap.size (.slice A14 ws.length c15) (.slice A16 ds.length c17) ws ds, hB g9 #[.int .i64 0, .int .i64 0, .int .i64 0, .int .i64 0] 100, hB g5 #[.int .i64 code, .slice A3 rs.length c3] 70, hB g3 #[.int .i64 t] 3, hB g1 #[.slice A0 ws.length c0, .slice A1 ds.length c1] 88] w24) := Aside0.mk (by rw [hw]; exact ((S.out.put 0 (.slice A14 ws.length c15) rfl).put 1 (.slice A16 ds.length c17) rfl))
         clear hw
         have kg9_0 : w24.cell? ⟨g9, 0, none⟩ = some (.int .i64 0) := (blk_cell (S.out.blk 3 rfl) 0).trans rfl
         have kg9_1 : w24.cell? ⟨g9, 1, none⟩ = some (.int .i64 0) := (blk_cell (S.out.blk 3 rfl) 1).trans rfl
         have kg9_2 : w24.cell? ⟨g9, 2, none⟩ = some (.int .i64 0) := (blk_cell (S.out.blk 3 rfl) 2).trans rfl
         have kg9_3 : w24.cell? ⟨g9, 3, none⟩ = some (.int .i64 0) := (blk_cell (S.out.blk 3 rfl) 3).trans rfl)
      | ((with_reducible refine gate_store (t := 100) (p := 9) rfl ?_)
         have zg9_0 := blk_frozen (S.out.blk 3 rfl) 0
         have zg9_1 := blk_frozen (S.out.blk 3 rfl) 1
         have zg9_2 := blk_frozen (S.out.blk 3 rfl) 2
         have zg9_3 := blk_frozen (S.out.blk 3 rfl) 3
         refine store_event (t := 100) (p := 9) (v := ?vo_w25) (w1 := ((((w24.setCell ⟨g9, 0, none⟩ (.int .i64 0)).setCell ⟨g9, 1, none⟩ (.int .i64 0)).setCell ⟨g9, 2, none⟩ (.int .i64 0)).setCell ⟨g9, 3, none⟩ (.int .i64 0))) ?hg ?ho ?hn ?hr ?_
         (case ho => rfl)
         (case hg => rfl)
         (case hn => rfl)
         (case hr => first | (go_simp; done) | (go_simp; rfl) | (go_simp; exact ⟨rfl, rfl⟩))
         (try clear zg9_0 zg9_1 zg9_2 zg9_3)
         (try clear kg9_0 kg9_1 kg9_2 kg9_3)
         intro w25 hw
         replace S := Aside0.mk (show St w w (fun _ => False) [hB g9 #[.int .i64 0, .int .i64 0, .int .i64 0, .int .i64 0] 100, hB g7 #[.slice A14 ws.length c15, .slice A16 ds.length c17] 88, hB g18 #[.slice A14 ws.length c15, .slice A16 ds.length c17] 88, hM w.heap.size (.slice A14 ws.length c15) (.slice A16 ds.length c17) ws ds, hB g5 #[.int .i64 code, .slice A3 rs.length c3] 70, hB g3 #[.int .i64 t] 3, hB g1 #[.slice A0 ws.length c0, .slice A1 ds.length c1] 88] _ from S.out.bring 3 rfl)
         replace S : Aside0 (St w w (fun _ => False) [hB g9 #[.int .i64 0, .int .i64 0, .int .i64 0, .int .i64 0] 100, hB g7 #[.slice A14 ws.length c15, .slice A16 ds.length c17] 88, hB g18 #[.slice A14 ws.length c15, .slice A16 ds.length c17] 88, hM w.heap.size (.slice A14 ws.length c15) (.slice A16 ds.length c17) ws ds, hB g5 #[.int .i64 code, .slice A3 rs.length c3] 70, hB g3 #[.int .i64 t] 3, hB g1 #[.slice A0 ws.length c0, .slice A1 ds.length c1] 88] w25) := Aside0.mk (by rw [hw]; exact ((((S.out.put 0 (.int .i64 0) rfl).put 1 (.int .i64 0) rfl).put 2 (.int .i64 0) rfl).put 3 (.int .i64 0) rfl))
         clear hw))
  refine bodyPost_ret (results_list (rs := [.cell 8 88, .cell 9 100, .tmp 10]) rfl (by simp) (.cell g7 88 #[.slice A14 ws.length c15, .slice A16 ds.length c17] (0, 0) _ rfl (S.out.blk 1 rfl) Try.underlying88 rfl (by kernel_rfl) (.cell g9 100 #[.int .i64 0, .int .i64 0, .int .i64 0, .int .i64 0] (0, 0) _ rfl (S.out.blk 0 rfl) Try.underlying100 rfl (by kernel_rfl) (.tmp .nil)))) rfl ?_
  obtain ⟨D_, hD_⟩ := S.out.nth 3 rfl
  exact ⟨_, _, by first | rfl | (simp; done), Kd.R_mono (M_R hD_) (fun _ _ => trivial), Kd.S_mono (M_S hD_) (fun _ _ => trivial), S.out.done⟩
set_option maxHeartbeats 8000000 in
set_option maxRecDepth 100000 in
theorem impl_Begin.way4 (k : Nat) (A0 : Option Addr) (c0 : Nat) (ws : List S141) (A1 : Option Addr) (c1 : Nat) (ds : List S145) (t : Int) (A2 : Option Addr) (c2 : Nat) (es : List S166) (code : Int) (A3 : Option Addr) (c3 : Nat) (rs : List Int) (w : World) (hr0 : Kd.C k141 w A0 ws.length ws) (hc0 : ws.length ≤ c0) (hr1 : Kd.C k145 w A1 ds.length ds) (hc1 : ds.length ≤ c1) (hr2 : Kd.C k166 w A2 es.length es) (hc2 : es.length ≤ c2) (hr3 : Kd.C (Kd.int .i64) w A3 rs.length rs) (hc3 : rs.length ≤ c3)
    (hH1 : impl_copyMem.f k ws ds = some (ws, ds)) (hH2 : impl_MemOk.f k ws ds = some true) (hH3 : impl_from.f t 0 (wrap64 ((ds.length : Int) - 1)) = some true) (hH4 : impl_Begin_1_any.f ws t = some false) (hH5 : impl_Entry.f es = some es) (hH6 : impl_copyRes.f code rs = some (code, rs)) (hH7 : impl_MemOk.f k ws (ds.set t.toNat ⟨(wrap64 ((rd_T145 ds t).f0 + 1)), 1, es, ⟨code, rs⟩⟩) = some false) (hb0 : 0 ≤ t) (hb1 : t < (ds.length : Int)) (hes : es.length ≤ 1048576) :
    Calls Try.prog 66 #[.agg #[.slice A0 ws.length c0, .slice A1 ds.length c1], .int .i64 t, .slice A2 es.length c2, .agg #[.int .i64 code, .slice A3 rs.length c3]] w fun e w' => ∃ v0_ v1_ : Value, e = .returned (.tuple #[.agg #[v0_, v1_], .agg #[.int .i64 0, .int .i64 0, .int .i64 0, .int .i64 0], .bool false]) ∧ Kd.R k141 141 w' w.heap.size (fun _ => True) v0_ ws ∧ Kd.S k145 145 w' w.heap.size (fun _ => True) v1_ ds ∧ Below w.heap.size w w' := by
  have hu88 := Try.underlying88
  have hu70 := Try.underlying70
  have hu100 := Try.underlying100
  have hu145 := Try.underlying145
  obtain ⟨ad1, E2_, d2_, E4_, d4_, rfl, X0, _⟩ := at_T145 hr1 t hb0 hb1
  have X0_ := Aside0.mk X0
  clear X0
  have p1 := eq_true hb0
  have q1 := eq_true hb1
  have HR0 := Aside0.mk hr0
  have HC0 := Aside0.mk hc0
  have HR1 := Aside0.mk hr1
  have HC1 := Aside0.mk hc1
  have HR2 := Aside0.mk hr2
  have HC2 := Aside0.mk hc2
  have HR3 := Aside0.mk hr3
  have HC3 := Aside0.mk hc3
  clear hr0 hc0 hr1 hc1 hr2 hc2 hr3 hc3
  have H1 := Aside0.mk hH1
  have H2 := Aside0.mk hH2
  have H3 := Aside0.mk hH3
  have H4 := Aside0.mk hH4
  have H5 := Aside0.mk hH5
  have H6 := Aside0.mk hH6
  have H7 := Aside0.mk hH7
  clear hH1 hH2 hH3 hH4 hH5 hH6 hH7
  have S := Aside0.mk (St.start w)
  go_enter Try.func66, Try.ntmps66
  go_wp2_with (first
      | ((with_reducible refine gate_dst (N := 4) rfl ?_)
         refine box_event ?hg (N := 4) ?hd (cs := #[.slice A0 ws.length c0, .slice (some ad1) ds.length c1]) (t := 88) ?hr ?_
         (case hd => rfl)
         (case hg => rfl)
         (case hr => first | (go_simp; done) | (go_simp; rfl) | (go_simp; exact ⟨rfl, rfl⟩))
         intro g1 hg w2 hbox hb
         replace S := Aside0.mk (S.out.box hg hbox hb)
         clear hg hbox hb)
      | ((with_reducible refine gate_dst (N := 5) rfl ?_)
         refine box_event ?hg (N := 5) ?hd (cs := #[.int .i64 t]) (t := 3) ?hr ?_
         (case hd => rfl)
         (case hg => rfl)
         (case hr => first | (go_simp; done) | (go_simp; rfl) | (go_simp; exact ⟨rfl, rfl⟩))
         intro g3 hg w4 hbox hb
         replace S := Aside0.mk (S.out.box hg hbox hb)
         clear hg hbox hb)
      | ((with_reducible refine gate_dst (N := 7) rfl ?_)
         refine box_event ?hg (N := 7) ?hd (cs := #[.int .i64 code, .slice A3 rs.length c3]) (t := 70) ?hr ?_
         (case hd => rfl)
         (case hg => rfl)
         (case hr => first | (go_simp; done) | (go_simp; rfl) | (go_simp; exact ⟨rfl, rfl⟩))
         intro g5 hg w6 hbox hb
         replace S := Aside0.mk (S.out.box hg hbox hb)
         clear hg hbox hb)
      | ((with_reducible refine gate_dst (N := 8) rfl ?_)
         refine box_event ?hg (N := 8) ?hd (cs := #[.slice none 0 0, .slice none 0 0]) (t := 88) ?hr ?_
         (case hd => rfl)
         (case hg => rfl)
         (case hr => first | (go_simp; done) | (go_simp; rfl) | (go_simp; exact ⟨rfl, rfl⟩))
         intro g7 hg w8 hbox hb
         replace S := Aside0.mk (S.out.box hg hbox hb)
         clear hg hbox hb)
      | ((with_reducible refine gate_dst (N := 9) rfl ?_)
         refine box_event ?hg (N := 9) ?hd (cs := #[.int .i64 0, .int .i64 0, .int .i64 0, .int .i64 0]) (t := 100) ?hr ?_
         (case hd => rfl)
         (case hg => rfl)
         (case hr => first | (go_simp; done) | (go_simp; rfl) | (go_simp; exact ⟨rfl, rfl⟩))
         intro g9 hg w10 hbox hb
         replace S := Aside0.mk (S.out.box hg hbox hb)
         clear hg hbox hb
         have kg1_0 : w10.cell? ⟨g1, 0, none⟩ = some (.slice A0 ws.length c0) := (blk_cell (S.out.blk 4 rfl) 0).trans rfl
         have kg1_1 : w10.cell? ⟨g1, 1, none⟩ = some (.slice (some ad1) ds.length c1) := (blk_cell (S.out.blk 4 rfl) 1).trans rfl)
      | ((with_reducible refine gate_callee (f := 137) rfl ?_)
         (try clear kg1_0 kg1_1)
         refine goesL_ (some 15) rfl rfl Try.func137 (by kernel_rfl) rfl #[.agg #[.slice A0 ws.length c0, .slice (some ad1) ds.length c1]] rfl (by (try simp only [List.map_toArray, List.map_cons, List.map_nil]); first | done | rfl) ?_
         (with_reducible refine (impl_copyMem.calls k A0 c0 ws (some ad1) c1 ds _ _ _ (Kd.C_below HR0.out S.out.below) HC0.out (Kd.C_below HR1.out S.out.below) HC1.out H1.out).mono ?_)
         rintro e w11 ⟨v12, v13, rfl, h0, h1, hb⟩
         obtain ⟨A14, c15, rfl⟩ := Kd.R_slice h0
         obtain ⟨A16, c17, rfl⟩ := Kd.S_slice h1
         refine ⟨_, rfl, ?_⟩
         replace S := Aside0.mk (S.out.madeM h0 h1 hb)
         clear hb h0 h1)
      | ((with_reducible refine gate_dst (N := 11) rfl ?_)
         refine box_event ?hg (N := 11) ?hd (cs := #[.slice none 0 0, .slice none 0 0]) (t := 88) ?hr ?_
         (case hd => rfl)
         (case hg => rfl)
         (case hr => first | (go_simp; done) | (go_simp; rfl) | (go_simp; exact ⟨rfl, rfl⟩))
         intro g18 hg w19 hbox hb
         replace S := Aside0.mk (S.out.box hg hbox hb)
         clear hg hbox hb
         have kg18_0 : w19.cell? ⟨g18, 0, none⟩ = some (.slice none 0 0) := (blk_cell (S.out.blk 0 rfl) 0).trans rfl
         have kg18_1 : w19.cell? ⟨g18, 1, none⟩ = some (.slice none 0 0) := (blk_cell (S.out.blk 0 rfl) 1).trans rfl)
      | ((with_reducible refine gate_store (t := 88) (p := 11) rfl ?_)
         have zg18_0 := blk_frozen (S.out.blk 0 rfl) 0
         have zg18_1 := blk_frozen (S.out.blk 0 rfl) 1
         refine store_event (t := 88) (p := 11) (v := ?vo_w20) (w1 := ((w19.setCell ⟨g18, 0, none⟩ (.slice A14 ws.length c15)).setCell ⟨g18, 1, none⟩ (.slice A16 ds.length c17))) ?hg ?ho ?hn ?hr ?_
         (case ho => rfl)
         (case hg => rfl)
         (case hn => rfl)
         (case hr => first | (go_simp; done) | (go_simp; rfl) | (go_simp; exact ⟨rfl, rfl⟩))
         (try clear zg18_0 zg18_1)
         (try clear kg18_0 kg18_1)
         intro w20 hw
         replace S : Aside0 (St w w (fun _ => False) [hB g18 #[.slice A14 ws.length c15, .slice A16 ds.length c17] 88, hM w.heap.size (.slice A14 ws.length c15) (.slice A16 ds.length c17) ws ds, hB g9 #[.int .i64 0, .int .i64 0, .int .i64 0, .int .i64 0] 100, hB g7 #[.slice none 0 0, .slice none 0 0] 88, hB g5 #[.int .i64 code, .slice A3 rs.length c3] 70, hB g3 #[.int .i64 t] 3, hB g1 #[.slice A0 ws.length c0, .slice (some ad1) ds.length c1] 88] w20) := Aside0.mk (by rw [hw]; exact ((S.out.put 0 (.slice A14 ws.length c15) rfl).put 1 (.slice A16 ds.length c17) rfl))
         clear hw
         have kg1_0 : w20.cell? ⟨g1, 0, none⟩ = some (.slice A0 ws.length c0) := (blk_cell (S.out.blk 6 rfl) 0).trans rfl
         have kg1_1 : w20.cell? ⟨g1, 1, none⟩ = some (.slice (some ad1) ds.length c1) := (blk_cell (S.out.blk 6 rfl) 1).trans rfl)
      | ((with_reducible refine gate_callee (f := 130) rfl ?_)
         (try clear kg1_0 kg1_1)
         refine goesL_ (some 17) rfl rfl Try.func130 (by kernel_rfl) rfl #[.agg #[.slice A0 ws.length c0, .slice (some ad1) ds.length c1]] rfl (by (try simp only [List.map_toArray, List.map_cons, List.map_nil]); first | done | rfl) ?_
         (with_reducible refine (impl_MemOk.calls k A0 c0 ws (some ad1) c1 ds _ _ (Kd.C_below HR0.out S.out.below) HC0.out (Kd.C_below HR1.out S.out.below) HC1.out H2.out).mono ?_)
         rintro e w21 ⟨rfl, hb⟩
         refine ⟨_, rfl, ?_⟩
         replace S := Aside0.mk (S.out.moved hb)
         clear hb
         have kg3_0 : w21.cell? ⟨g3, 0, none⟩ = some (.int .i64 t) := (blk_cell (S.out.blk 5 rfl) 0).trans rfl
         have kg1_0 : w21.cell? ⟨g1, 0, none⟩ = some (.slice A0 ws.length c0) := (blk_cell (S.out.blk 6 rfl) 0).trans rfl
         have kg1_1 : w21.cell? ⟨g1, 1, none⟩ = some (.slice (some ad1) ds.length c1) := (blk_cell (S.out.blk 6 rfl) 1).trans rfl)
      | (go_at_call 85
         (try clear kg3_0 kg1_0 kg1_1)
         (with_reducible refine (impl_from.calls t 0 (wrap64 ((ds.length : Int) - 1)) _ _ H3.out).mono ?_)
         rintro e w22 ⟨rfl, hb⟩
         replace hb : Below w21.heap.size w21 w22 := by obtain ⟨nd, rfl⟩ := hb; exact pw_below_drewN (Below.refl _ _) nd
         replace S := Aside0.mk (S.out.moved hb)
         clear hb
         have kg1_0 : w22.cell? ⟨g1, 0, none⟩ = some (.slice A0 ws.length c0) := (blk_cell (S.out.blk 6 rfl) 0).trans rfl
         have kg1_1 : w22.cell? ⟨g1, 1, none⟩ = some (.slice (some ad1) ds.length c1) := (blk_cell (S.out.blk 6 rfl) 1).trans rfl)
      | (go_at_call 138
         (try clear kg1_0 kg1_1)
         (with_reducible refine (impl_Begin_1_any.calls _ _ ws g3 t _ _ (Kd.C_below HR0.out S.out.below) HC0.out (S.out.blk 5 rfl) H4.out).mono ?_)
         rintro e w23 ⟨rfl, hb⟩
         replace S := Aside0.mk (S.out.moved hb)
         clear hb
         have kg3_0 : w23.cell? ⟨g3, 0, none⟩ = some (.int .i64 t) := (blk_cell (S.out.blk 5 rfl) 0).trans rfl
         have kg1_0 : w23.cell? ⟨g1, 0, none⟩ = some (.slice A0 ws.length c0) := (blk_cell (S.out.blk 6 rfl) 0).trans rfl
         have kg1_1 : w23.cell? ⟨g1, 1, none⟩ = some (.slice (some ad1) ds.length c1) := (blk_cell (S.out.blk 6 rfl) 1).trans rfl
         have x0h : w23.cell? (ad1.add (t.toNat * 5)) = some (.int .i64 (rd_T145 ds t).f0) := St.cell S.out X0_.out)
      | ((with_reducible refine gate_callee (f := 137) rfl ?_)
         (try clear kg3_0 kg1_0 kg1_1 x0h)
         refine goesL_ (some 44) rfl rfl Try.func137 (by kernel_rfl) rfl #[.agg #[.slice A0 ws.length c0, .slice (some ad1) ds.length c1]] rfl (by (try simp only [List.map_toArray, List.map_cons, List.map_nil]); first | done | rfl) ?_
         (with_reducible refine (impl_copyMem.calls k A0 c0 ws (some ad1) c1 ds _ _ _ (Kd.C_below HR0.out S.out.below) HC0.out (Kd.C_below HR1.out S.out.below) HC1.out H1.out).mono ?_)
         rintro e w24 ⟨v25, v26, rfl, h0, h1, hb⟩
         obtain ⟨A27, c28, rfl⟩ := Kd.R_slice h0
         obtain ⟨b31, c30, rfl, _, _, _⟩ := Kd.S_form h1 (by omega)
         refine ⟨_, rfl, ?_⟩
         replace S := Aside0.mk (S.out.madeM h0 h1 hb)
         clear hb h0 h1)
      | ((with_reducible refine gate_dst (N := 13) rfl ?_)
         refine box_event ?hg (N := 13) ?hd (cs := #[.slice none 0 0, .slice none 0 0]) (t := 88) ?hr ?_
         (case hd => rfl)
         (case hg => rfl)
         (case hr => first | (go_simp; done) | (go_simp; rfl) | (go_simp; exact ⟨rfl, rfl⟩))
         intro g32 hg w33 hbox hb
         replace S := Aside0.mk (S.out.box hg hbox hb)
         clear hg hbox hb
         have kg32_0 : w33.cell? ⟨g32, 0, none⟩ = some (.slice none 0 0) := (blk_cell (S.out.blk 0 rfl) 0).trans rfl
         have kg32_1 : w33.cell? ⟨g32, 1, none⟩ = some (.slice none 0 0) := (blk_cell (S.out.blk 0 rfl) 1).trans rfl)
      | ((with_reducible refine gate_store (t := 88) (p := 13) rfl ?_)
         have zg32_0 := blk_frozen (S.out.blk 0 rfl) 0
         have zg32_1 := blk_frozen (S.out.blk 0 rfl) 1
         refine store_event (t := 88) (p := 13) (v := ?vo_w34) (w1 := ((w33.setCell ⟨g32, 0, none⟩ (.slice A27 ws.length c28)).setCell ⟨g32, 1, none⟩ (.slice (some ⟨b31, 0, none⟩) ds.length c30))) ?hg ?ho ?hn ?hr ?_
         (case ho => rfl)
         (case hg => rfl)
         (case hn => rfl)
         (case hr => first | (go_simp; done) | (go_simp; rfl) | (go_simp; exact ⟨rfl, rfl⟩))
         (try clear zg32_0 zg32_1)
         (try clear kg32_0 kg32_1)
         intro w34 hw
         replace S : Aside0 (St w w (fun _ => False) [hB g32 #[.slice A27 ws.length c28, .slice (some ⟨b31, 0, none⟩) ds.length c30] 88, hM w.heap.size (.slice A27 ws.length c28) (.slice (some ⟨b31, 0, none⟩) ds.length c30) ws ds, hB g18 #[.slice A14 ws.length c15, .slice A16 ds.length c17] 88, hM w.heap.size (.slice A14 ws.length c15) (.slice A16 ds.length c17) ws ds, hB g9 #[.int .i64 0, .int .i64 0, .int .i64 0, .int .i64 0] 100, hB g7 #[.slice none 0 0, .slice none 0 0] 88, hB g5 #[.int .i64 code, .slice A3 rs.length c3] 70, hB g3 #[.int .i64 t] 3, hB g1 #[.slice A0 ws.length c0, .slice (some ad1) ds.length c1] 88] w34) := Aside0.mk (by rw [hw]; exact ((S.out.put 0 (.slice A27 ws.length c28) rfl).put 1 (.slice (some ⟨b31, 0, none⟩) ds.length c30) rfl))
         clear hw
         have kg32_0 : w34.cell? ⟨g32, 0, none⟩ = some (.slice A27 ws.length c28) := (blk_cell (S.out.blk 0 rfl) 0).trans rfl
         have kg32_1 : w34.cell? ⟨g32, 1, none⟩ = some (.slice (some ⟨b31, 0, none⟩) ds.length c30) := (blk_cell (S.out.blk 0 rfl) 1).trans rfl
         have kg5_0 : w34.cell? ⟨g5, 0, none⟩ = some (.int .i64 code) := (blk_cell (S.out.blk 6 rfl) 0).trans rfl
         have kg5_1 : w34.cell? ⟨g5, 1, none⟩ = some (.slice A3 rs.length c3) := (blk_cell (S.out.blk 6 rfl) 1).trans rfl
         have kg3_0 : w34.cell? ⟨g3, 0, none⟩ = some (.int .i64 t) := (blk_cell (S.out.blk 7 rfl) 0).trans rfl))
  refine start_ (n := 11) (S := fun w' => St w w (fun _ => False) [hB g32 #[.slice A27 ws.length c28, .slice (some ⟨b31, 0, none⟩) ds.length c30] 88, hB g18 #[.slice A14 ws.length c15, .slice A16 ds.length c17] 88, hM w.heap.size (.slice A14 ws.length c15) (.slice A16 ds.length c17) ws ds, hB g9 #[.int .i64 0, .int .i64 0, .int .i64 0, .int .i64 0] 100, hB g7 #[.slice none 0 0, .slice none 0 0] 88, hB g5 #[.int .i64 code, .slice A3 rs.length c3] 70, hB g3 #[.int .i64 t] 3, hB g1 #[.slice A0 ws.length c0, .slice (some ad1) ds.length c1] 88] w') (ds := []) #[false, false, false, false, false, false, false, false, false, false, false] (by kernel_rfl) rfl rfl (St.drew ((S.out.bring 1 rfl).drop)) (fun hS_ => ?_)
  (try clear kg32_0 kg32_1 kg5_0 kg5_1 kg3_0)
  replace S := Aside0.mk S.out.drew
  clear hS_
  generalize w34.drew = w35 at S ⊢
  refine take_ (i := 0) (N := some 45) (v := .pointer (some ⟨g32, 1, none⟩)) (a' := ?at36) #[true, false, false, false, false, false, false, false, false, false, false] rfl rfl (by kernel_rfl) (fun _ _ _ h => h) (Or.inl ⟨by rfl, ?yt36⟩) ((S.out.bring 1 rfl).drop) ?pt36 ?nt36
  case yt36 =>
    intro w' hS
    first | (go_simp; done) | (go_simp; rfl) | (go_simp; exact ⟨rfl, rfl⟩)
  case pt36 =>
    simp only [Act.put, List.setIfInBounds_toArray, List.set_cons_zero, List.set_cons_succ, i64_w, i32_w]
    rfl
  refine take_ (i := 1) (N := some 46) (v := .slice (some ⟨b31, 0, none⟩) ds.length c30) (a' := ?at37) #[true, true, false, false, false, false, false, false, false, false, false] rfl rfl (by kernel_rfl) (fun _ _ _ h => h) (Or.inl ⟨by rfl, ?yt37⟩) ((S.out.bring 1 rfl).drop) ?pt37 ?nt37
  case yt37 =>
    intro w' hS
    have kg32_0 : w'.cell? ⟨g32, 0, none⟩ = some (.slice A27 ws.length c28) := (blk_cell (hS.blk 0 rfl) 0).trans rfl
    have kg32_1 : w'.cell? ⟨g32, 1, none⟩ = some (.slice (some ⟨b31, 0, none⟩) ds.length c30) := (blk_cell (hS.blk 0 rfl) 1).trans rfl
    have x0h : w'.cell? (ad1.add (t.toNat * 5)) = some (.int .i64 (rd_T145 ds t).f0) := St.cell hS X0_.out
    first | (go_simp; done) | (go_simp; rfl) | (go_simp; exact ⟨rfl, rfl⟩)
  case pt37 =>
    simp only [Act.put, List.setIfInBounds_toArray, List.set_cons_zero, List.set_cons_succ, i64_w, i32_w]
    rfl
  refine take_ (i := 2) (N := some 47) (v := .int .i64 t) (a' := ?at38) #[true, true, true, false, false, false, false, false, false, false, false] rfl rfl (by kernel_rfl) (fun _ _ _ h => h) (Or.inl ⟨by rfl, ?yt38⟩) ((S.out.bring 1 rfl).drop) ?pt38 ?nt38
  case yt38 =>
    intro w' hS
    have kg3_0 : w'.cell? ⟨g3, 0, none⟩ = some (.int .i64 t) := (blk_cell (hS.blk 6 rfl) 0).trans rfl
    have x0h : w'.cell? (ad1.add (t.toNat * 5)) = some (.int .i64 (rd_T145 ds t).f0) := St.cell hS X0_.out
    first | (go_simp; done) | (go_simp; rfl) | (go_simp; exact ⟨rfl, rfl⟩)
  case pt38 =>
    simp only [Act.put, List.setIfInBounds_toArray, List.set_cons_zero, List.set_cons_succ, i64_w, i32_w]
    rfl
  refine take_ (i := 3) (N := some 48) (v := .int .i64 (wrap64 (((rd_T145 ds t).f0) + 1))) (a' := ?at39) #[true, true, true, true, false, false, false, false, false, false, false] rfl rfl (by kernel_rfl) (fun _ _ _ h => h) (Or.inl ⟨by rfl, ?yt39⟩) ((S.out.bring 1 rfl).drop) ?pt39 ?nt39
  case yt39 =>
    intro w' hS
    first | (go_simp; done) | (go_simp; rfl) | (go_simp; exact ⟨rfl, rfl⟩)
  case pt39 =>
    simp only [Act.put, List.setIfInBounds_toArray, List.set_cons_zero, List.set_cons_succ, i64_w, i32_w]
    rfl
  refine take_ (i := 4) (N := some 49) (v := .slice A2 es.length c2) (a' := ?at40) #[true, true, true, true, true, false, false, false, false, false, false] rfl rfl (by kernel_rfl) (fun _ _ _ h => h) (Or.inl ⟨by rfl, ?yt40⟩) ((S.out.bring 1 rfl).drop) ?pt40 ?nt40
  case yt40 =>
    intro w' hS
    first | (go_simp; done) | (go_simp; rfl) | (go_simp; exact ⟨rfl, rfl⟩)
  case pt40 =>
    simp only [Act.put, List.setIfInBounds_toArray, List.set_cons_zero, List.set_cons_succ, i64_w, i32_w]
    rfl
  refine take_ (i := 6) (N := some 51) (v := .agg #[.int .i64 code, .slice A3 rs.length c3]) (a' := ?at41) #[true, true, true, true, true, false, true, false, false, false, false] rfl rfl (by kernel_rfl) (fun _ _ _ h => h) (Or.inl ⟨by rfl, ?yt41⟩) ((S.out.bring 1 rfl).drop) ?pt41 ?nt41
  case yt41 =>
    intro w' hS
    have kg5_0 : w'.cell? ⟨g5, 0, none⟩ = some (.int .i64 code) := (blk_cell (hS.blk 5 rfl) 0).trans rfl
    have kg5_1 : w'.cell? ⟨g5, 1, none⟩ = some (.slice A3 rs.length c3) := (blk_cell (hS.blk 5 rfl) 1).trans rfl
    have x0h : w'.cell? (ad1.add (t.toNat * 5)) = some (.int .i64 (rd_T145 ds t).f0) := St.cell hS X0_.out
    first | (go_simp; done) | (go_simp; rfl) | (go_simp; exact ⟨rfl, rfl⟩)
  case pt41 =>
    simp only [Act.put, List.setIfInBounds_toArray, List.set_cons_zero, List.set_cons_succ, i64_w, i32_w]
    rfl
  refine one_ (i := 5) (N := some 50) #[true, true, true, true, true, true, true, false, false, false, false] rfl rfl (by kernel_rfl) (by decide) (fun K hK => ?_)
  refine goes_ Try.func140 (by kernel_rfl) rfl #[.slice A2 es.length c2] (by rfl) rfl rfl (by (try simp only [List.map_toArray, List.map_cons, List.map_nil]); first | done | rfl) ?_
  (with_reducible refine (impl_Entry.calls A2 c2 es _ _ (Kd.C_below HR2.out S.out.below) HC2.out H5.out).mono ?_)
  rintro e w42 ⟨v43, rfl, h0, hb⟩
  obtain ⟨A44, c45, rfl⟩ := Kd.R_slice h0
  refine ⟨_, rfl, ?_⟩
  replace S := Aside0.mk (S.out.madeR h0 hb)
  clear hb h0
  refine hK _ _ ((S.out.drop.bring 1 rfl).drop) (fun _ => ?_)
  refine norm_ (a' := ?at46) ?pt46 ?nt46
  case pt46 =>
    show Act.put _ (some 50) _ = _
    simp only [Act.put, List.setIfInBounds_toArray, List.set_cons_zero, List.set_cons_succ, i64_w, i32_w]
    rfl
  refine one_ (i := 7) (N := some 52) #[true, true, true, true, true, true, true, true, false, false, false] rfl rfl (by kernel_rfl) (by decide) (fun K hK => ?_)
  refine goes_ Try.func141 (by kernel_rfl) rfl #[.agg #[.int .i64 code, .slice A3 rs.length c3]] (by rfl) rfl rfl (by (try simp only [List.map_toArray, List.map_cons, List.map_nil]); first | done | rfl) ?_
  (with_reducible refine (impl_copyRes.calls code A3 c3 rs _ _ _ (Kd.C_below HR3.out S.out.below) HC3.out H6.out).mono ?_)
  rintro e w47 ⟨v48, rfl, h0, hb⟩
  obtain ⟨A49, c50, rfl⟩ := Kd.R_slice h0
  refine ⟨_, rfl, ?_⟩
  replace S := Aside0.mk (S.out.madeR h0 hb)
  clear hb h0
  refine hK _ _ ((S.out.drop.drop.bring 1 rfl).drop) (fun _ => ?_)
  refine norm_ (a' := ?at51) ?pt51 ?nt51
  case pt51 =>
    show Act.put _ (some 52) _ = _
    simp only [Act.put, List.setIfInBounds_toArray, List.set_cons_zero, List.set_cons_succ, i64_w, i32_w]
    rfl
  refine take_ (i := 8) (N := some 53) (v := .agg #[.int .i64 (wrap64 (((rd_T145 ds t).f0) + 1)), .int .i64 1, .slice A44 es.length c45, .int .i64 code, .slice A49 rs.length c50]) (a' := ?at52) #[true, true, true, true, true, true, true, true, true, false, false] rfl rfl (by kernel_rfl) (fun _ _ _ h => h) (Or.inl ⟨by rfl, ?yt52⟩) ((S.out.drop.drop.bring 1 rfl).drop) ?pt52 ?nt52
  case yt52 =>
    intro w' hS
    first | (go_simp; done) | (go_simp; rfl) | (go_simp; exact ⟨rfl, rfl⟩)
  case pt52 =>
    simp only [Act.put, List.setIfInBounds_toArray, List.set_cons_zero, List.set_cons_succ, i64_w, i32_w]
    rfl
  refine take_ (i := 9) (N := some 54) (v := .pointer (some ⟨b31, t.toNat * 5, none⟩)) (a' := ?at53) #[true, true, true, true, true, true, true, true, true, true, false] rfl rfl (by kernel_rfl) (fun _ _ _ h => h) (Or.inl ⟨by rfl, ?yt53⟩) ((S.out.drop.drop.bring 1 rfl).drop) ?pt53 ?nt53
  case yt53 =>
    intro w' hS
    first | (go_simp; done) | (go_simp; rfl) | (go_simp; exact ⟨rfl, rfl⟩)
  case pt53 =>
    simp only [Act.put, List.setIfInBounds_toArray, List.set_cons_zero, List.set_cons_succ, i64_w, i32_w]
    rfl
  refine one_ (i := 10) (N := none) #[true, true, true, true, true, true, true, true, true, true, true] rfl rfl (by kernel_rfl) (by decide) (fun K hK => ?_)
  replace S := Aside0.mk (show St w w (fun _ => False) [hR k166 166 w.heap.size (.slice A44 es.length c45) es, hR (Kd.int .i64) 3 w.heap.size (.slice A49 rs.length c50) rs, hB g32 #[.slice A27 ws.length c28, .slice (some ⟨b31, 0, none⟩) ds.length c30] 88, hM w.heap.size (.slice A27 ws.length c28) (.slice (some ⟨b31, 0, none⟩) ds.length c30) ws ds, hB g18 #[.slice A14 ws.length c15, .slice A16 ds.length c17] 88, hM w.heap.size (.slice A14 ws.length c15) (.slice A16 ds.length c17) ws ds, hB g9 #[.int .i64 0, .int .i64 0, .int .i64 0, .int .i64 0] 100, hB g7 #[.slice none 0 0, .slice none 0 0] 88, hB g5 #[.int .i64 code, .slice A3 rs.length c3] 70, hB g3 #[.int .i64 t] 3, hB g1 #[.slice A0 ws.length c0, .slice (some ad1) ds.length c1] 88] _ from S.out.bring 1 rfl)
  replace S := Aside0.mk (show St w w (fun _ => False) [hM w.heap.size (.slice A27 ws.length c28) (.slice (some ⟨b31, 0, none⟩) ds.length c30) ws ds, hR k166 166 w.heap.size (.slice A44 es.length c45) es, hR (Kd.int .i64) 3 w.heap.size (.slice A49 rs.length c50) rs, hB g32 #[.slice A27 ws.length c28, .slice (some ⟨b31, 0, none⟩) ds.length c30] 88, hB g18 #[.slice A14 ws.length c15, .slice A16 ds.length c17] 88, hM w.heap.size (.slice A14 ws.length c15) (.slice A16 ds.length c17) ws ds, hB g9 #[.int .i64 0, .int .i64 0, .int .i64 0, .int .i64 0] 100, hB g7 #[.slice none 0 0, .slice none 0 0] 88, hB g5 #[.int .i64 code, .slice A3 rs.length c3] 70, hB g3 #[.int .i64 t] 3, hB g1 #[.slice A0 ws.length c0, .slice (some ad1) ds.length c1] 88] _ from S.out.bring 3 rfl)
  obtain ⟨D_, hD_⟩ := S.out.nth 0 rfl
  obtain ⟨E2_, d2_, E4_, d4_, oki_, hE_⟩ := El_open (M_S hD_) hb0 hb1
  obtain ⟨⟨x0_, x1_, x2_, x3_, x4_⟩, y0_, y1_, y2_, y3_, y4_⟩ := El_cells hE_ hb0 hb1
  refine skip_ (w1 := (((((w47.setCell ⟨b31, t.toNat * 5, none⟩ (.int .i64 (wrap64 (((rd_T145 ds t).f0) + 1)))).setCell ⟨b31, t.toNat * 5 + 1, none⟩ (.int .i64 1)).setCell ⟨b31, t.toNat * 5 + 2, none⟩ (.slice A44 es.length c45)).setCell ⟨b31, t.toNat * 5 + 3, none⟩ (.int .i64 code)).setCell ⟨b31, t.toNat * 5 + 4, none⟩ (.slice A49 rs.length c50))) (by rfl) rfl (by first | (go_simp; done) | (go_simp; rfl) | (go_simp; exact ⟨rfl, rfl⟩)) ?_
  clear x0_ x1_ x2_ x3_ x4_ y0_ y1_ y2_ y3_ y4_ hE_ hD_
  obtain ⟨w54, hw_⟩ : ∃ x_, x_ = (((((w47.setCell ⟨b31, t.toNat * 5, none⟩ (.int .i64 (wrap64 (((rd_T145 ds t).f0) + 1)))).setCell ⟨b31, t.toNat * 5 + 1, none⟩ (.int .i64 1)).setCell ⟨b31, t.toNat * 5 + 2, none⟩ (.slice A44 es.length c45)).setCell ⟨b31, t.toNat * 5 + 3, none⟩ (.int .i64 code)).setCell ⟨b31, t.toNat * 5 + 4, none⟩ (.slice A49 rs.length c50)) := ⟨_, rfl⟩
  rw [← hw_]
  replace S : Aside0 (St w w (fun _ => False) [hM w.heap.size (.slice A27 ws.length c28) (.slice (some ⟨b31, 0, none⟩) ds.length c30) ws (ds.set t.toNat ⟨wrap64 (((rd_T145 ds t).f0) + 1), 1, es, ⟨code, rs⟩⟩), hB g32 #[.slice A27 ws.length c28, .slice (some ⟨b31, 0, none⟩) ds.length c30] 88, hB g18 #[.slice A14 ws.length c15, .slice A16 ds.length c17] 88, hM w.heap.size (.slice A14 ws.length c15) (.slice A16 ds.length c17) ws ds, hB g9 #[.int .i64 0, .int .i64 0, .int .i64 0, .int .i64 0] 100, hB g7 #[.slice none 0 0, .slice none 0 0] 88, hB g5 #[.int .i64 code, .slice A3 rs.length c3] 70, hB g3 #[.int .i64 t] 3, hB g1 #[.slice A0 ws.length c0, .slice (some ad1) ds.length c1] 88] w54) := Aside0.mk (by rw [hw_]; exact S.out.setDesc t hb0 hb1 (wrap64 (((rd_T145 ds t).f0) + 1)) 1 code)
  clear hw_
  refine hK _ _ (S.out.drop) (fun _ => ?_)
  refine done_ (by kernel_rfl) ?_
  have kg32_0 : w54.cell? ⟨g32, 0, none⟩ = some (.slice A27 ws.length c28) := (blk_cell (S.out.blk 1 rfl) 0).trans rfl
  have kg32_1 : w54.cell? ⟨g32, 1, none⟩ = some (.slice (some ⟨b31, 0, none⟩) ds.length c30) := (blk_cell (S.out.blk 1 rfl) 1).trans rfl
  go_wp2_with (first
      | ((with_reducible refine gate_callee (f := 130) rfl ?_)
         (try clear kg32_0 kg32_1)
         obtain ⟨e56, q57, c58⟩ := St.readM0 S.out 0 rfl
         obtain ⟨e59, q60, c61⟩ := St.readM1 S.out 0 rfl
         refine goesL_ (some 56) rfl rfl Try.func130 (by kernel_rfl) rfl #[.agg #[.slice A27 ws.length c28, .slice (some ⟨b31, 0, none⟩) ds.length c30]] rfl (by (try simp only [List.map_toArray, List.map_cons, List.map_nil]); first | done | rfl) ?_
         refine calls_of_args (args' := #[.agg #[.slice A27 ws.length c28, .slice (some ⟨b31, 0, none⟩) (ds.set t.toNat ⟨wrap64 (((rd_T145 ds t).f0) + 1), 1, es, ⟨code, rs⟩⟩).length c30]]) (by rw [e59]) ?_
         (with_reducible refine (impl_MemOk.calls k A27 c28 ws (some ⟨b31, 0, none⟩) c30 (ds.set t.toNat ⟨wrap64 (((rd_T145 ds t).f0) + 1), 1, es, ⟨code, rs⟩⟩) _ _ c58 q57 c61 q60 H7.out).mono ?_)
         rintro e w55 ⟨rfl, hb⟩
         refine ⟨_, rfl, ?_⟩
         replace S := Aside0.mk (S.out.moved hb)
         clear hb e56 q57 c58 e59 q60 c61
         have kg18_0 : w55.cell? ⟨g18, 0, none⟩ = some (.slice A14 ws.length c15) := (blk_cell (S.out.blk 2 rfl) 0).trans rfl
         have kg18_1 : w55.cell? ⟨g18, 1, none⟩ = some (.slice A16 ds.length c17) := (blk_cell (S.out.blk 2 rfl) 1).trans rfl
         have kg7_0 : w55.cell? ⟨g7, 0, none⟩ = some (.slice none 0 0) := (blk_cell (S.out.blk 5 rfl) 0).trans rfl
         have kg7_1 : w55.cell? ⟨g7, 1, none⟩ = some (.slice none 0 0) := (blk_cell (S.out.blk 5 rfl) 1).trans rfl)
      | ((with_reducible refine gate_store (t := 88) (p := 8) rfl ?_)
         have zg7_0 := blk_frozen (S.out.blk 5 rfl) 0
         have zg7_1 := blk_frozen (S.out.blk 5 rfl) 1
         refine store_event (t := 88) (p := 8) (v := ?vo_w62) (w1 := ((w55.setCell ⟨g7, 0, none⟩ (.slice A14 ws.length c15)).setCell ⟨g7, 1, none⟩ (.slice A16 ds.length c17))) ?hg ?ho ?hn ?hr ?_
         (case ho => rfl)
         (case hg => rfl)
         (case hn => rfl)
         (case hr => first | (go_simp; done) | (go_simp; rfl) | (go_simp; exact ⟨rfl, rfl⟩))
         (try clear zg7_0 zg7_1)
         (try clear kg18_0 kg18_1 kg7_0 kg7_1)
         intro w62 hw
         replace S := Aside0.mk (show St w w (fun _ => False) [hB g7 #[.slice none 0 0, .slice none 0 0] 88, hM w.heap.size (.slice A27 ws.length c28) (.slice (some ⟨b31, 0, none⟩) ds.length c30) ws (ds.set t.toNat ⟨wrap64 (((rd_T145 ds t).f0) + 1), 1, es, ⟨code, rs⟩⟩), hB g32 #[.slice A27 ws.length c28, .slice (some ⟨b31, 0, none⟩) ds.length c30] 88, hB g18 #[.slice A14 ws.length c15, .slice A16 ds.length c17] 88, hM w.heap.size (.slice A14 ws.length c15) (.slice A16 ds.length c17) ws ds, hB g9 #[.int .i64 0, .int .i64 0, .int .i64 0, .int .i64 0] 100, hB g5 #[.int .i64 code, .slice A3 rs.length c3] 70, hB g3 #[.int .i64 t] 3, hB g1 #[.slice A0 ws.length c0, .slice (some ad1) ds.length c1] 88] _ from S.out.bring 5 rfl)
         replace S : Aside0 (St w w (fun _ => False) [hB g7 #[.slice A14 ws.length c15, .slice A16 ds.length c17] 88, hM w.heap.size (.slice A27 ws.length c28) (.slice (some ⟨b31, 0, none⟩) ds.length c30) ws (ds.set t.toNat ⟨wrap64 (((rd_T145 ds t).f0) + 1), 1, es, ⟨code, rs⟩⟩), hB g32 #[.slice A27 ws.length c28, .slice (some ⟨b31, 0, none⟩) ds.length c30] 88, hB g18 #[.slice A14 ws.length c15, .slice A16 ds.length c17] 88, hM w.heap.size (.slice A14 ws.length c15) (.slice A16 ds.length c17) ws ds, hB g9 #[.int .i64 0, .int .i64 0, .int .i64 0, .int .i64 0] 100, hB g5 #[.int .i64 code, .slice A3 rs.length c3] 70, hB g3 #[.int .i64 t] 3, hB g1 #[.slice A0 ws.length c0, .slice (some ad1) ds.length c1] 88] w62) := Aside0.mk (by rw [hw]; exact ((S.out.put 0 (.slice A14 ws.length c15) rfl).put 1 (.slice A16 ds.length c17) rfl))
         clear hw
         have kg9_0 : w62.cell? ⟨g9, 0, none⟩ = some (.int .i64 0) := (blk_cell (S.out.blk 5 rfl) 0).trans rfl
         have kg9_1 : w62.cell? ⟨g9, 1, none⟩ = some (.int .i64 0) := (blk_cell (S.out.blk 5 rfl) 1).trans rfl
         have kg9_2 : w62.cell? ⟨g9, 2, none⟩ = some (.int .i64 0) := (blk_cell (S.out.blk 5 rfl) 2).trans rfl
         have kg9_3 : w62.cell? ⟨g9, 3, none⟩ = some (.int .i64 0) := (blk_cell (S.out.blk 5 rfl) 3).trans rfl)
      | ((with_reducible refine gate_store (t := 100) (p := 9) rfl ?_)
         have zg9_0 := blk_frozen (S.out.blk 5 rfl) 0
         have zg9_1 := blk_frozen (S.out.blk 5 rfl) 1
         have zg9_2 := blk_frozen (S.out.blk 5 rfl) 2
         have zg9_3 := blk_frozen (S.out.blk 5 rfl) 3
         refine store_event (t := 100) (p := 9) (v := ?vo_w63) (w1 := ((((w62.setCell ⟨g9, 0, none⟩ (.int .i64 0)).setCell ⟨g9, 1, none⟩ (.int .i64 0)).setCell ⟨g9, 2, none⟩ (.int .i64 0)).setCell ⟨g9, 3, none⟩ (.int .i64 0))) ?hg ?ho ?hn ?hr ?_
         (case ho => rfl)
         (case hg => rfl)
         (case hn => rfl)
         (case hr => first | (go_simp; done) | (go_simp; rfl) | (go_simp; exact ⟨rfl, rfl⟩))
         (try clear zg9_0 zg9_1 zg9_2 zg9_3)
         (try clear kg9_0 kg9_1 kg9_2 kg9_3)
         intro w63 hw
         replace S := Aside0.mk (show St w w (fun _ => False) [hB g9 #[.int .i64 0, .int .i64 0, .int .i64 0, .int .i64 0] 100, hB g7 #[.slice A14 ws.length c15, .slice A16 ds.length c17] 88, hM w.heap.size (.slice A27 ws.length c28) (.slice (some ⟨b31, 0, none⟩) ds.length c30) ws (ds.set t.toNat ⟨wrap64 (((rd_T145 ds t).f0) + 1), 1, es, ⟨code, rs⟩⟩), hB g32 #[.slice A27 ws.length c28, .slice (some ⟨b31, 0, none⟩) ds.length c30] 88, hB g18 #[.slice A14 ws.length c15, .slice A16 ds.length c17] 88, hM w.heap.size (.slice A14 ws.length c15) (.slice A16 ds.length c17) ws ds, hB g5 #[.int .i64 code, .slice A3 rs.length c3] 70, hB g3 #[.int .i64 t] 3, hB g1 #[.slice A0 ws.length c0, .slice (some ad1) ds.length c1] 88] _ from S.out.bring 5 rfl)
         replace S : Aside0 (St w w (fun _ => False) [hB g9 #[.int .i64 0, .int .i64 0, .int .i64 0, .int .i64 0] 100, hB g7 #[.slice A14 ws.length c15, .slice A16 ds.length c17] 88, hM w.heap.size (.slice A27 ws.length c28) (.slice (some ⟨b31, 0, none⟩) ds.length c30) ws (ds.set t.toNat ⟨wrap64 (((rd_T145 ds t).f0) + 1), 1, es, ⟨code, rs⟩⟩), hB g32 #[.slice A27 ws.length c28, .slice (some ⟨b31, 0, none⟩) ds.length c30] 88, hB g18 #[.slice A14 ws.length c15, .slice A16 ds.length c17] 88, hM w.heap.size (.slice A14 ws.length c15) (.slice A16 ds.length c17) ws ds, hB g5 #[.int .i64 code, .slice A3 rs.length c3] 70, hB g3 #[.int .i64 t] 3, hB g1 #[.slice A0 ws.length c0, .slice (some ad1) ds.length c1] 88] w63) := Aside0.mk (by rw [hw]; exact ((((S.out.put 0 (.int .i64 0) rfl).put 1 (.int .i64 0) rfl).put 2 (.int .i64 0) rfl).put 3 (.int .i64 0) rfl))
         clear hw))
  refine bodyPost_ret (results_list (rs := [.cell 8 88, .cell 9 100, .tmp 10]) rfl (by simp) (.cell g7 88 #[.slice A14 ws.length c15, .slice A16 ds.length c17] (0, 0) _ rfl (S.out.blk 1 rfl) Try.underlying88 rfl (by kernel_rfl) (.cell g9 100 #[.int .i64 0, .int .i64 0, .int .i64 0, .int .i64 0] (0, 0) _ rfl (S.out.blk 0 rfl) Try.underlying100 rfl (by kernel_rfl) (.tmp .nil)))) rfl ?_
  obtain ⟨D_, hD_⟩ := S.out.nth 5 rfl
  exact ⟨_, _, by first | rfl | (simp; done), Kd.R_mono (M_R hD_) (fun _ _ => trivial), Kd.S_mono (M_S hD_) (fun _ _ => trivial), S.out.done⟩
set_option maxHeartbeats 8000000 in
set_option maxRecDepth 100000 in
theorem impl_Begin.way5 (k : Nat) (A0 : Option Addr) (c0 : Nat) (ws : List S141) (A1 : Option Addr) (c1 : Nat) (ds : List S145) (t : Int) (A2 : Option Addr) (c2 : Nat) (es : List S166) (code : Int) (A3 : Option Addr) (c3 : Nat) (rs : List Int) (w : World) (hr0 : Kd.C k141 w A0 ws.length ws) (hc0 : ws.length ≤ c0) (hr1 : Kd.C k145 w A1 ds.length ds) (hc1 : ds.length ≤ c1) (hr2 : Kd.C k166 w A2 es.length es) (hc2 : es.length ≤ c2) (hr3 : Kd.C (Kd.int .i64) w A3 rs.length rs) (hc3 : rs.length ≤ c3)
    (hH1 : impl_copyMem.f k ws ds = some (ws, ds)) (hH2 : impl_MemOk.f k ws ds = some true) (hH3 : impl_from.f t 0 (wrap64 ((ds.length : Int) - 1)) = some true) (hH4 : impl_Begin_1_any.f ws t = some false) (hH5 : impl_Entry.f es = some es) (hH6 : impl_copyRes.f code rs = some (code, rs)) (hH7 : impl_MemOk.f k ws (ds.set t.toNat ⟨(wrap64 ((rd_T145 ds t).f0 + 1)), 1, es, ⟨code, rs⟩⟩) = some true) (hb0 : 0 ≤ t) (hb1 : t < (ds.length : Int)) (hes : es.length ≤ 1048576) :
    Calls Try.prog 66 #[.agg #[.slice A0 ws.length c0, .slice A1 ds.length c1], .int .i64 t, .slice A2 es.length c2, .agg #[.int .i64 code, .slice A3 rs.length c3]] w fun e w' => ∃ v0_ v1_ : Value, e = .returned (.tuple #[.agg #[v0_, v1_], .agg #[.int .i64 t, .int .i64 (wrap64 ((rd_T145 ds t).f0 + 1)), .int .i64 0, .int .i64 0], .bool true]) ∧ Kd.R k141 141 w' w.heap.size (fun _ => True) v0_ ws ∧ Kd.S k145 145 w' w.heap.size (fun _ => True) v1_ (ds.set t.toNat ⟨(wrap64 ((rd_T145 ds t).f0 + 1)), 1, es, ⟨code, rs⟩⟩) ∧ Below w.heap.size w w' := by
  have hu88 := Try.underlying88
  have hu70 := Try.underlying70
  have hu100 := Try.underlying100
  have hu145 := Try.underlying145
  obtain ⟨ad1, E2_, d2_, E4_, d4_, rfl, X0, _⟩ := at_T145 hr1 t hb0 hb1
  have X0_ := Aside0.mk X0
  clear X0
  have p1 := eq_true hb0
  have q1 := eq_true hb1
  have HR0 := Aside0.mk hr0
  have HC0 := Aside0.mk hc0
  have HR1 := Aside0.mk hr1
  have HC1 := Aside0.mk hc1
  have HR2 := Aside0.mk hr2
  have HC2 := Aside0.mk hc2
  have HR3 := Aside0.mk hr3
  have HC3 := Aside0.mk hc3
  clear hr0 hc0 hr1 hc1 hr2 hc2 hr3 hc3
  have H1 := Aside0.mk hH1
  have H2 := Aside0.mk hH2
  have H3 := Aside0.mk hH3
  have H4 := Aside0.mk hH4
  have H5 := Aside0.mk hH5
  have H6 := Aside0.mk hH6
  have H7 := Aside0.mk hH7
  clear hH1 hH2 hH3 hH4 hH5 hH6 hH7
  have S := Aside0.mk (St.start w)
  go_enter Try.func66, Try.ntmps66
  go_wp2_with (first
      | ((with_reducible refine gate_dst (N := 4) rfl ?_)
         refine box_event ?hg (N := 4) ?hd (cs := #[.slice A0 ws.length c0, .slice (some ad1) ds.length c1]) (t := 88) ?hr ?_
         (case hd => rfl)
         (case hg => rfl)
         (case hr => first | (go_simp; done) | (go_simp; rfl) | (go_simp; exact ⟨rfl, rfl⟩))
         intro g1 hg w2 hbox hb
         replace S := Aside0.mk (S.out.box hg hbox hb)
         clear hg hbox hb)
      | ((with_reducible refine gate_dst (N := 5) rfl ?_)
         refine box_event ?hg (N := 5) ?hd (cs := #[.int .i64 t]) (t := 3) ?hr ?_
         (case hd => rfl)
         (case hg => rfl)
         (case hr => first | (go_simp; done) | (go_simp; rfl) | (go_simp; exact ⟨rfl, rfl⟩))
         intro g3 hg w4 hbox hb
         replace S := Aside0.mk (S.out.box hg hbox hb)
         clear hg hbox hb)
      | ((with_reducible refine gate_dst (N := 7) rfl ?_)
         refine box_event ?hg (N := 7) ?hd (cs := #[.int .i64 code, .slice A3 rs.length c3]) (t := 70) ?hr ?_
         (case hd => rfl)
         (case hg => rfl)
         (case hr => first | (go_simp; done) | (go_simp; rfl) | (go_simp; exact ⟨rfl, rfl⟩))
         intro g5 hg w6 hbox hb
         replace S := Aside0.mk (S.out.box hg hbox hb)
         clear hg hbox hb)
      | ((with_reducible refine gate_dst (N := 8) rfl ?_)
         refine box_event ?hg (N := 8) ?hd (cs := #[.slice none 0 0, .slice none 0 0]) (t := 88) ?hr ?_
         (case hd => rfl)
         (case hg => rfl)
         (case hr => first | (go_simp; done) | (go_simp; rfl) | (go_simp; exact ⟨rfl, rfl⟩))
         intro g7 hg w8 hbox hb
         replace S := Aside0.mk (S.out.box hg hbox hb)
         clear hg hbox hb)
      | ((with_reducible refine gate_dst (N := 9) rfl ?_)
         refine box_event ?hg (N := 9) ?hd (cs := #[.int .i64 0, .int .i64 0, .int .i64 0, .int .i64 0]) (t := 100) ?hr ?_
         (case hd => rfl)
         (case hg => rfl)
         (case hr => first | (go_simp; done) | (go_simp; rfl) | (go_simp; exact ⟨rfl, rfl⟩))
         intro g9 hg w10 hbox hb
         replace S := Aside0.mk (S.out.box hg hbox hb)
         clear hg hbox hb
         have kg1_0 : w10.cell? ⟨g1, 0, none⟩ = some (.slice A0 ws.length c0) := (blk_cell (S.out.blk 4 rfl) 0).trans rfl
         have kg1_1 : w10.cell? ⟨g1, 1, none⟩ = some (.slice (some ad1) ds.length c1) := (blk_cell (S.out.blk 4 rfl) 1).trans rfl)
      | ((with_reducible refine gate_callee (f := 137) rfl ?_)
         (try clear kg1_0 kg1_1)
         refine goesL_ (some 15) rfl rfl Try.func137 (by kernel_rfl) rfl #[.agg #[.slice A0 ws.length c0, .slice (some ad1) ds.length c1]] rfl (by (try simp only [List.map_toArray, List.map_cons, List.map_nil]); first | done | rfl) ?_
         (with_reducible refine (impl_copyMem.calls k A0 c0 ws (some ad1) c1 ds _ _ _ (Kd.C_below HR0.out S.out.below) HC0.out (Kd.C_below HR1.out S.out.below) HC1.out H1.out).mono ?_)
         rintro e w11 ⟨v12, v13, rfl, h0, h1, hb⟩
         obtain ⟨A14, c15, rfl⟩ := Kd.R_slice h0
         obtain ⟨A16, c17, rfl⟩ := Kd.S_slice h1
         refine ⟨_, rfl, ?_⟩
         replace S := Aside0.mk (S.out.madeM h0 h1 hb)
         clear hb h0 h1)
      | ((with_reducible refine gate_dst (N := 11) rfl ?_)
         refine box_event ?hg (N := 11) ?hd (cs := #[.slice none 0 0, .slice none 0 0]) (t := 88) ?hr ?_
         (case hd => rfl)
         (case hg => rfl)
         (case hr => first | (go_simp; done) | (go_simp; rfl) | (go_simp; exact ⟨rfl, rfl⟩))
         intro g18 hg w19 hbox hb
         replace S := Aside0.mk (S.out.box hg hbox hb)
         clear hg hbox hb
         have kg18_0 : w19.cell? ⟨g18, 0, none⟩ = some (.slice none 0 0) := (blk_cell (S.out.blk 0 rfl) 0).trans rfl
         have kg18_1 : w19.cell? ⟨g18, 1, none⟩ = some (.slice none 0 0) := (blk_cell (S.out.blk 0 rfl) 1).trans rfl)
      | ((with_reducible refine gate_store (t := 88) (p := 11) rfl ?_)
         have zg18_0 := blk_frozen (S.out.blk 0 rfl) 0
         have zg18_1 := blk_frozen (S.out.blk 0 rfl) 1
         refine store_event (t := 88) (p := 11) (v := ?vo_w20) (w1 := ((w19.setCell ⟨g18, 0, none⟩ (.slice A14 ws.length c15)).setCell ⟨g18, 1, none⟩ (.slice A16 ds.length c17))) ?hg ?ho ?hn ?hr ?_
         (case ho => rfl)
         (case hg => rfl)
         (case hn => rfl)
         (case hr => first | (go_simp; done) | (go_simp; rfl) | (go_simp; exact ⟨rfl, rfl⟩))
         (try clear zg18_0 zg18_1)
         (try clear kg18_0 kg18_1)
         intro w20 hw
         replace S : Aside0 (St w w (fun _ => False) [hB g18 #[.slice A14 ws.length c15, .slice A16 ds.length c17] 88, hM w.heap.size (.slice A14 ws.length c15) (.slice A16 ds.length c17) ws ds, hB g9 #[.int .i64 0, .int .i64 0, .int .i64 0, .int .i64 0] 100, hB g7 #[.slice none 0 0, .slice none 0 0] 88, hB g5 #[.int .i64 code, .slice A3 rs.length c3] 70, hB g3 #[.int .i64 t] 3, hB g1 #[.slice A0 ws.length c0, .slice (some ad1) ds.length c1] 88] w20) := Aside0.mk (by rw [hw]; exact ((S.out.put 0 (.slice A14 ws.length c15) rfl).put 1 (.slice A16 ds.length c17) rfl))
         clear hw
         have kg1_0 : w20.cell? ⟨g1, 0, none⟩ = some (.slice A0 ws.length c0) := (blk_cell (S.out.blk 6 rfl) 0).trans rfl
         have kg1_1 : w20.cell? ⟨g1, 1, none⟩ = some (.slice (some ad1) ds.length c1) := (blk_cell (S.out.blk 6 rfl) 1).trans rfl)
      | ((with_reducible refine gate_callee (f := 130) rfl ?_)
         (try clear kg1_0 kg1_1)
         refine goesL_ (some 17) rfl rfl Try.func130 (by kernel_rfl) rfl #[.agg #[.slice A0 ws.length c0, .slice (some ad1) ds.length c1]] rfl (by (try simp only [List.map_toArray, List.map_cons, List.map_nil]); first | done | rfl) ?_
         (with_reducible refine (impl_MemOk.calls k A0 c0 ws (some ad1) c1 ds _ _ (Kd.C_below HR0.out S.out.below) HC0.out (Kd.C_below HR1.out S.out.below) HC1.out H2.out).mono ?_)
         rintro e w21 ⟨rfl, hb⟩
         refine ⟨_, rfl, ?_⟩
         replace S := Aside0.mk (S.out.moved hb)
         clear hb
         have kg3_0 : w21.cell? ⟨g3, 0, none⟩ = some (.int .i64 t) := (blk_cell (S.out.blk 5 rfl) 0).trans rfl
         have kg1_0 : w21.cell? ⟨g1, 0, none⟩ = some (.slice A0 ws.length c0) := (blk_cell (S.out.blk 6 rfl) 0).trans rfl
         have kg1_1 : w21.cell? ⟨g1, 1, none⟩ = some (.slice (some ad1) ds.length c1) := (blk_cell (S.out.blk 6 rfl) 1).trans rfl)
      | (go_at_call 85
         (try clear kg3_0 kg1_0 kg1_1)
         (with_reducible refine (impl_from.calls t 0 (wrap64 ((ds.length : Int) - 1)) _ _ H3.out).mono ?_)
         rintro e w22 ⟨rfl, hb⟩
         replace hb : Below w21.heap.size w21 w22 := by obtain ⟨nd, rfl⟩ := hb; exact pw_below_drewN (Below.refl _ _) nd
         replace S := Aside0.mk (S.out.moved hb)
         clear hb
         have kg1_0 : w22.cell? ⟨g1, 0, none⟩ = some (.slice A0 ws.length c0) := (blk_cell (S.out.blk 6 rfl) 0).trans rfl
         have kg1_1 : w22.cell? ⟨g1, 1, none⟩ = some (.slice (some ad1) ds.length c1) := (blk_cell (S.out.blk 6 rfl) 1).trans rfl)
      | (go_at_call 138
         (try clear kg1_0 kg1_1)
         (with_reducible refine (impl_Begin_1_any.calls _ _ ws g3 t _ _ (Kd.C_below HR0.out S.out.below) HC0.out (S.out.blk 5 rfl) H4.out).mono ?_)
         rintro e w23 ⟨rfl, hb⟩
         replace S := Aside0.mk (S.out.moved hb)
         clear hb
         have kg3_0 : w23.cell? ⟨g3, 0, none⟩ = some (.int .i64 t) := (blk_cell (S.out.blk 5 rfl) 0).trans rfl
         have kg1_0 : w23.cell? ⟨g1, 0, none⟩ = some (.slice A0 ws.length c0) := (blk_cell (S.out.blk 6 rfl) 0).trans rfl
         have kg1_1 : w23.cell? ⟨g1, 1, none⟩ = some (.slice (some ad1) ds.length c1) := (blk_cell (S.out.blk 6 rfl) 1).trans rfl
         have x0h : w23.cell? (ad1.add (t.toNat * 5)) = some (.int .i64 (rd_T145 ds t).f0) := St.cell S.out X0_.out)
      | ((with_reducible refine gate_callee (f := 137) rfl ?_)
         (try clear kg3_0 kg1_0 kg1_1 x0h)
         refine goesL_ (some 44) rfl rfl Try.func137 (by kernel_rfl) rfl #[.agg #[.slice A0 ws.length c0, .slice (some ad1) ds.length c1]] rfl (by (try simp only [List.map_toArray, List.map_cons, List.map_nil]); first | done | rfl) ?_
         (with_reducible refine (impl_copyMem.calls k A0 c0 ws (some ad1) c1 ds _ _ _ (Kd.C_below HR0.out S.out.below) HC0.out (Kd.C_below HR1.out S.out.below) HC1.out H1.out).mono ?_)
         rintro e w24 ⟨v25, v26, rfl, h0, h1, hb⟩
         obtain ⟨A27, c28, rfl⟩ := Kd.R_slice h0
         obtain ⟨b31, c30, rfl, _, _, _⟩ := Kd.S_form h1 (by omega)
         refine ⟨_, rfl, ?_⟩
         replace S := Aside0.mk (S.out.madeM h0 h1 hb)
         clear hb h0 h1)
      | ((with_reducible refine gate_dst (N := 13) rfl ?_)
         refine box_event ?hg (N := 13) ?hd (cs := #[.slice none 0 0, .slice none 0 0]) (t := 88) ?hr ?_
         (case hd => rfl)
         (case hg => rfl)
         (case hr => first | (go_simp; done) | (go_simp; rfl) | (go_simp; exact ⟨rfl, rfl⟩))
         intro g32 hg w33 hbox hb
         replace S := Aside0.mk (S.out.box hg hbox hb)
         clear hg hbox hb
         have kg32_0 : w33.cell? ⟨g32, 0, none⟩ = some (.slice none 0 0) := (blk_cell (S.out.blk 0 rfl) 0).trans rfl
         have kg32_1 : w33.cell? ⟨g32, 1, none⟩ = some (.slice none 0 0) := (blk_cell (S.out.blk 0 rfl) 1).trans rfl)
      | ((with_reducible refine gate_store (t := 88) (p := 13) rfl ?_)
         have zg32_0 := blk_frozen (S.out.blk 0 rfl) 0
         have zg32_1 := blk_frozen (S.out.blk 0 rfl) 1
         refine store_event (t := 88) (p := 13) (v := ?vo_w34) (w1 := ((w33.setCell ⟨g32, 0, none⟩ (.slice A27 ws.length c28)).setCell ⟨g32, 1, none⟩ (.slice (some ⟨b31, 0, none⟩) ds.length c30))) ?hg ?ho ?hn ?hr ?_
         (case ho => rfl)
         (case hg => rfl)
         (case hn => rfl)
         (case hr => first | (go_simp; done) | (go_simp; rfl) | (go_simp; exact ⟨rfl, rfl⟩))
         (try clear zg32_0 zg32_1)
         (try clear kg32_0 kg32_1)
         intro w34 hw
         replace S : Aside0 (St w w (fun _ => False) [hB g32 #[.slice A27 ws.length c28, .slice (some ⟨b31, 0, none⟩) ds.length c30] 88, hM w.heap.size (.slice A27 ws.length c28) (.slice (some ⟨b31, 0, none⟩) ds.length c30) ws ds, hB g18 #[.slice A14 ws.length c15, .slice A16 ds.length c17] 88, hM w.heap.size (.slice A14 ws.length c15) (.slice A16 ds.length c17) ws ds, hB g9 #[.int .i64 0, .int .i64 0, .int .i64 0, .int .i64 0] 100, hB g7 #[.slice none 0 0, .slice none 0 0] 88, hB g5 #[.int .i64 code, .slice A3 rs.length c3] 70, hB g3 #[.int .i64 t] 3, hB g1 #[.slice A0 ws.length c0, .slice (some ad1) ds.length c1] 88] w34) := Aside0.mk (by rw [hw]; exact ((S.out.put 0 (.slice A27 ws.length c28) rfl).put 1 (.slice (some ⟨b31, 0, none⟩) ds.length c30) rfl))
         clear hw
         have kg32_0 : w34.cell? ⟨g32, 0, none⟩ = some (.slice A27 ws.length c28) := (blk_cell (S.out.blk 0 rfl) 0).trans rfl
         have kg32_1 : w34.cell? ⟨g32, 1, none⟩ = some (.slice (some ⟨b31, 0, none⟩) ds.length c30) := (blk_cell (S.out.blk 0 rfl) 1).trans rfl
         have kg5_0 : w34.cell? ⟨g5, 0, none⟩ = some (.int .i64 code) := (blk_cell (S.out.blk 6 rfl) 0).trans rfl
         have kg5_1 : w34.cell? ⟨g5, 1, none⟩ = some (.slice A3 rs.length c3) := (blk_cell (S.out.blk 6 rfl) 1).trans rfl
         have kg3_0 : w34.cell? ⟨g3, 0, none⟩ = some (.int .i64 t) := (blk_cell (S.out.blk 7 rfl) 0).trans rfl))
  refine start_ (n := 11) (S := fun w' => St w w (fun _ => False) [hB g32 #[.slice A27 ws.length c28, .slice (some ⟨b31, 0, none⟩) ds.length c30] 88, hB g18 #[.slice A14 ws.length c15, .slice A16 ds.length c17] 88, hM w.heap.size (.slice A14 ws.length c15) (.slice A16 ds.length c17) ws ds, hB g9 #[.int .i64 0, .int .i64 0, .int .i64 0, .int .i64 0] 100, hB g7 #[.slice none 0 0, .slice none 0 0] 88, hB g5 #[.int .i64 code, .slice A3 rs.length c3] 70, hB g3 #[.int .i64 t] 3, hB g1 #[.slice A0 ws.length c0, .slice (some ad1) ds.length c1] 88] w') (ds := []) #[false, false, false, false, false, false, false, false, false, false, false] (by kernel_rfl) rfl rfl (St.drew ((S.out.bring 1 rfl).drop)) (fun hS_ => ?_)
  (try clear kg32_0 kg32_1 kg5_0 kg5_1 kg3_0)
  replace S := Aside0.mk S.out.drew
  clear hS_
  generalize w34.drew = w35 at S ⊢
  refine take_ (i := 0) (N := some 45) (v := .pointer (some ⟨g32, 1, none⟩)) (a' := ?at36) #[true, false, false, false, false, false, false, false, false, false, false] rfl rfl (by kernel_rfl) (fun _ _ _ h => h) (Or.inl ⟨by rfl, ?yt36⟩) ((S.out.bring 1 rfl).drop) ?pt36 ?nt36
  case yt36 =>
    intro w' hS
    first | (go_simp; done) | (go_simp; rfl) | (go_simp; exact ⟨rfl, rfl⟩)
  case pt36 =>
    simp only [Act.put, List.setIfInBounds_toArray, List.set_cons_zero, List.set_cons_succ, i64_w, i32_w]
    rfl
  refine take_ (i := 1) (N := some 46) (v := .slice (some ⟨b31, 0, none⟩) ds.length c30) (a' := ?at37) #[true, true, false, false, false, false, false, false, false, false, false] rfl rfl (by kernel_rfl) (fun _ _ _ h => h) (Or.inl ⟨by rfl, ?yt37⟩) ((S.out.bring 1 rfl).drop) ?pt37 ?nt37
  case yt37 =>
    intro w' hS
    have kg32_0 : w'.cell? ⟨g32, 0, none⟩ = some (.slice A27 ws.length c28) := (blk_cell (hS.blk 0 rfl) 0).trans rfl
    have kg32_1 : w'.cell? ⟨g32, 1, none⟩ = some (.slice (some ⟨b31, 0, none⟩) ds.length c30) := (blk_cell (hS.blk 0 rfl) 1).trans rfl
    have x0h : w'.cell? (ad1.add (t.toNat * 5)) = some (.int .i64 (rd_T145 ds t).f0) := St.cell hS X0_.out
    first | (go_simp; done) | (go_simp; rfl) | (go_simp; exact ⟨rfl, rfl⟩)
  case pt37 =>
    simp only [Act.put, List.setIfInBounds_toArray, List.set_cons_zero, List.set_cons_succ, i64_w, i32_w]
    rfl
  refine take_ (i := 2) (N := some 47) (v := .int .i64 t) (a' := ?at38) #[true, true, true, false, false, false, false, false, false, false, false] rfl rfl (by kernel_rfl) (fun _ _ _ h => h) (Or.inl ⟨by rfl, ?yt38⟩) ((S.out.bring 1 rfl).drop) ?pt38 ?nt38
  case yt38 =>
    intro w' hS
    have kg3_0 : w'.cell? ⟨g3, 0, none⟩ = some (.int .i64 t) := (blk_cell (hS.blk 6 rfl) 0).trans rfl
    have x0h : w'.cell? (ad1.add (t.toNat * 5)) = some (.int .i64 (rd_T145 ds t).f0) := St.cell hS X0_.out
    first | (go_simp; done) | (go_simp; rfl) | (go_simp; exact ⟨rfl, rfl⟩)
  case pt38 =>
    simp only [Act.put, List.setIfInBounds_toArray, List.set_cons_zero, List.set_cons_succ, i64_w, i32_w]
    rfl
  refine take_ (i := 3) (N := some 48) (v := .int .i64 (wrap64 (((rd_T145 ds t).f0) + 1))) (a' := ?at39) #[true, true, true, true, false, false, false, false, false, false, false] rfl rfl (by kernel_rfl) (fun _ _ _ h => h) (Or.inl ⟨by rfl, ?yt39⟩) ((S.out.bring 1 rfl).drop) ?pt39 ?nt39
  case yt39 =>
    intro w' hS
    first | (go_simp; done) | (go_simp; rfl) | (go_simp; exact ⟨rfl, rfl⟩)
  case pt39 =>
    simp only [Act.put, List.setIfInBounds_toArray, List.set_cons_zero, List.set_cons_succ, i64_w, i32_w]
    rfl
  refine take_ (i := 4) (N := some 49) (v := .slice A2 es.length c2) (a' := ?at40) #[true, true, true, true, true, false, false, false, false, false, false] rfl rfl (by kernel_rfl) (fun _ _ _ h => h) (Or.inl ⟨by rfl, ?yt40⟩) ((S.out.bring 1 rfl).drop) ?pt40 ?nt40
  case yt40 =>
    intro w' hS
    first | (go_simp; done) | (go_simp; rfl) | (go_simp; exact ⟨rfl, rfl⟩)
  case pt40 =>
    simp only [Act.put, List.setIfInBounds_toArray, List.set_cons_zero, List.set_cons_succ, i64_w, i32_w]
    rfl
  refine take_ (i := 6) (N := some 51) (v := .agg #[.int .i64 code, .slice A3 rs.length c3]) (a' := ?at41) #[true, true, true, true, true, false, true, false, false, false, false] rfl rfl (by kernel_rfl) (fun _ _ _ h => h) (Or.inl ⟨by rfl, ?yt41⟩) ((S.out.bring 1 rfl).drop) ?pt41 ?nt41
  case yt41 =>
    intro w' hS
    have kg5_0 : w'.cell? ⟨g5, 0, none⟩ = some (.int .i64 code) := (blk_cell (hS.blk 5 rfl) 0).trans rfl
    have kg5_1 : w'.cell? ⟨g5, 1, none⟩ = some (.slice A3 rs.length c3) := (blk_cell (hS.blk 5 rfl) 1).trans rfl
    have x0h : w'.cell? (ad1.add (t.toNat * 5)) = some (.int .i64 (rd_T145 ds t).f0) := St.cell hS X0_.out
    first | (go_simp; done) | (go_simp; rfl) | (go_simp; exact ⟨rfl, rfl⟩)
  case pt41 =>
    simp only [Act.put, List.setIfInBounds_toArray, List.set_cons_zero, List.set_cons_succ, i64_w, i32_w]
    rfl
  refine one_ (i := 5) (N := some 50) #[true, true, true, true, true, true, true, false, false, false, false] rfl rfl (by kernel_rfl) (by decide) (fun K hK => ?_)
  refine goes_ Try.func140 (by kernel_rfl) rfl #[.slice A2 es.length c2] (by rfl) rfl rfl (by (try simp only [List.map_toArray, List.map_cons, List.map_nil]); first | done | rfl) ?_
  (with_reducible refine (impl_Entry.calls A2 c2 es _ _ (Kd.C_below HR2.out S.out.below) HC2.out H5.out).mono ?_)
  rintro e w42 ⟨v43, rfl, h0, hb⟩
  obtain ⟨A44, c45, rfl⟩ := Kd.R_slice h0
  refine ⟨_, rfl, ?_⟩
  replace S := Aside0.mk (S.out.madeR h0 hb)
  clear hb h0
  refine hK _ _ ((S.out.drop.bring 1 rfl).drop) (fun _ => ?_)
  refine norm_ (a' := ?at46) ?pt46 ?nt46
  case pt46 =>
    show Act.put _ (some 50) _ = _
    simp only [Act.put, List.setIfInBounds_toArray, List.set_cons_zero, List.set_cons_succ, i64_w, i32_w]
    rfl
  refine one_ (i := 7) (N := some 52) #[true, true, true, true, true, true, true, true, false, false, false] rfl rfl (by kernel_rfl) (by decide) (fun K hK => ?_)
  refine goes_ Try.func141 (by kernel_rfl) rfl #[.agg #[.int .i64 code, .slice A3 rs.length c3]] (by rfl) rfl rfl (by (try simp only [List.map_toArray, List.map_cons, List.map_nil]); first | done | rfl) ?_
  (with_reducible refine (impl_copyRes.calls code A3 c3 rs _ _ _ (Kd.C_below HR3.out S.out.below) HC3.out H6.out).mono ?_)
  rintro e w47 ⟨v48, rfl, h0, hb⟩
  obtain ⟨A49, c50, rfl⟩ := Kd.R_slice h0
  refine ⟨_, rfl, ?_⟩
  replace S := Aside0.mk (S.out.madeR h0 hb)
  clear hb h0
  refine hK _ _ ((S.out.drop.drop.bring 1 rfl).drop) (fun _ => ?_)
  refine norm_ (a' := ?at51) ?pt51 ?nt51
  case pt51 =>
    show Act.put _ (some 52) _ = _
    simp only [Act.put, List.setIfInBounds_toArray, List.set_cons_zero, List.set_cons_succ, i64_w, i32_w]
    rfl
  refine take_ (i := 8) (N := some 53) (v := .agg #[.int .i64 (wrap64 (((rd_T145 ds t).f0) + 1)), .int .i64 1, .slice A44 es.length c45, .int .i64 code, .slice A49 rs.length c50]) (a' := ?at52) #[true, true, true, true, true, true, true, true, true, false, false] rfl rfl (by kernel_rfl) (fun _ _ _ h => h) (Or.inl ⟨by rfl, ?yt52⟩) ((S.out.drop.drop.bring 1 rfl).drop) ?pt52 ?nt52
  case yt52 =>
    intro w' hS
    first | (go_simp; done) | (go_simp; rfl) | (go_simp; exact ⟨rfl, rfl⟩)
  case pt52 =>
    simp only [Act.put, List.setIfInBounds_toArray, List.set_cons_zero, List.set_cons_succ, i64_w, i32_w]
    rfl
  refine take_ (i := 9) (N := some 54) (v := .pointer (some ⟨b31, t.toNat * 5, none⟩)) (a' := ?at53) #[true, true, true, true, true, true, true, true, true, true, false] rfl rfl (by kernel_rfl) (fun _ _ _ h => h) (Or.inl ⟨by rfl, ?yt53⟩) ((S.out.drop.drop.bring 1 rfl).drop) ?pt53 ?nt53
  case yt53 =>
    intro w' hS
    first | (go_simp; done) | (go_simp; rfl) | (go_simp; exact ⟨rfl, rfl⟩)
  case pt53 =>
    simp only [Act.put, List.setIfInBounds_toArray, List.set_cons_zero, List.set_cons_succ, i64_w, i32_w]
    rfl
  refine one_ (i := 10) (N := none) #[true, true, true, true, true, true, true, true, true, true, true] rfl rfl (by kernel_rfl) (by decide) (fun K hK => ?_)
  replace S := Aside0.mk (show St w w (fun _ => False) [hR k166 166 w.heap.size (.slice A44 es.length c45) es, hR (Kd.int .i64) 3 w.heap.size (.slice A49 rs.length c50) rs, hB g32 #[.slice A27 ws.length c28, .slice (some ⟨b31, 0, none⟩) ds.length c30] 88, hM w.heap.size (.slice A27 ws.length c28) (.slice (some ⟨b31, 0, none⟩) ds.length c30) ws ds, hB g18 #[.slice A14 ws.length c15, .slice A16 ds.length c17] 88, hM w.heap.size (.slice A14 ws.length c15) (.slice A16 ds.length c17) ws ds, hB g9 #[.int .i64 0, .int .i64 0, .int .i64 0, .int .i64 0] 100, hB g7 #[.slice none 0 0, .slice none 0 0] 88, hB g5 #[.int .i64 code, .slice A3 rs.length c3] 70, hB g3 #[.int .i64 t] 3, hB g1 #[.slice A0 ws.length c0, .slice (some ad1) ds.length c1] 88] _ from S.out.bring 1 rfl)
  replace S := Aside0.mk (show St w w (fun _ => False) [hM w.heap.size (.slice A27 ws.length c28) (.slice (some ⟨b31, 0, none⟩) ds.length c30) ws ds, hR k166 166 w.heap.size (.slice A44 es.length c45) es, hR (Kd.int .i64) 3 w.heap.size (.slice A49 rs.length c50) rs, hB g32 #[.slice A27 ws.length c28, .slice (some ⟨b31, 0, none⟩) ds.length c30] 88, hB g18 #[.slice A14 ws.length c15, .slice A16 ds.length c17] 88, hM w.heap.size (.slice A14 ws.length c15) (.slice A16 ds.length c17) ws ds, hB g9 #[.int .i64 0, .int .i64 0, .int .i64 0, .int .i64 0] 100, hB g7 #[.slice none 0 0, .slice none 0 0] 88, hB g5 #[.int .i64 code, .slice A3 rs.length c3] 70, hB g3 #[.int .i64 t] 3, hB g1 #[.slice A0 ws.length c0, .slice (some ad1) ds.length c1] 88] _ from S.out.bring 3 rfl)
  obtain ⟨D_, hD_⟩ := S.out.nth 0 rfl
  obtain ⟨E2_, d2_, E4_, d4_, oki_, hE_⟩ := El_open (M_S hD_) hb0 hb1
  obtain ⟨⟨x0_, x1_, x2_, x3_, x4_⟩, y0_, y1_, y2_, y3_, y4_⟩ := El_cells hE_ hb0 hb1
  refine skip_ (w1 := (((((w47.setCell ⟨b31, t.toNat * 5, none⟩ (.int .i64 (wrap64 (((rd_T145 ds t).f0) + 1)))).setCell ⟨b31, t.toNat * 5 + 1, none⟩ (.int .i64 1)).setCell ⟨b31, t.toNat * 5 + 2, none⟩ (.slice A44 es.length c45)).setCell ⟨b31, t.toNat * 5 + 3, none⟩ (.int .i64 code)).setCell ⟨b31, t.toNat * 5 + 4, none⟩ (.slice A49 rs.length c50))) (by rfl) rfl (by first | (go_simp; done) | (go_simp; rfl) | (go_simp; exact ⟨rfl, rfl⟩)) ?_
  clear x0_ x1_ x2_ x3_ x4_ y0_ y1_ y2_ y3_ y4_ hE_ hD_
  obtain ⟨w54, hw_⟩ : ∃ x_, x_ = (((((w47.setCell ⟨b31, t.toNat * 5, none⟩ (.int .i64 (wrap64 (((rd_T145 ds t).f0) + 1)))).setCell ⟨b31, t.toNat * 5 + 1, none⟩ (.int .i64 1)).setCell ⟨b31, t.toNat * 5 + 2, none⟩ (.slice A44 es.length c45)).setCell ⟨b31, t.toNat * 5 + 3, none⟩ (.int .i64 code)).setCell ⟨b31, t.toNat * 5 + 4, none⟩ (.slice A49 rs.length c50)) := ⟨_, rfl⟩
  rw [← hw_]
  replace S : Aside0 (St w w (fun _ => False) [hM w.heap.size (.slice A27 ws.length c28) (.slice (some ⟨b31, 0, none⟩) ds.length c30) ws (ds.set t.toNat ⟨wrap64 (((rd_T145 ds t).f0) + 1), 1, es, ⟨code, rs⟩⟩), hB g32 #[.slice A27 ws.length c28, .slice (some ⟨b31, 0, none⟩) ds.length c30] 88, hB g18 #[.slice A14 ws.length c15, .slice A16 ds.length c17] 88, hM w.heap.size (.slice A14 ws.length c15) (.slice A16 ds.length c17) ws ds, hB g9 #[.int .i64 0, .int .i64 0, .int .i64 0, .int .i64 0] 100, hB g7 #[.slice none 0 0, .slice none 0 0] 88, hB g5 #[.int .i64 code, .slice A3 rs.length c3] 70, hB g3 #[.int .i64 t] 3, hB g1 #[.slice A0 ws.length c0, .slice (some ad1) ds.length c1] 88] w54) := Aside0.mk (by rw [hw_]; exact S.out.setDesc t hb0 hb1 (wrap64 (((rd_T145 ds t).f0) + 1)) 1 code)
  clear hw_
  refine hK _ _ (S.out.drop) (fun _ => ?_)
  refine done_ (by kernel_rfl) ?_
  have kg32_0 : w54.cell? ⟨g32, 0, none⟩ = some (.slice A27 ws.length c28) := (blk_cell (S.out.blk 1 rfl) 0).trans rfl
  have kg32_1 : w54.cell? ⟨g32, 1, none⟩ = some (.slice (some ⟨b31, 0, none⟩) ds.length c30) := (blk_cell (S.out.blk 1 rfl) 1).trans rfl
  go_wp2_with (first
      | ((with_reducible refine gate_callee (f := 130) rfl ?_)
         (try clear kg32_0 kg32_1)
         obtain ⟨e56, q57, c58⟩ := St.readM0 S.out 0 rfl
         obtain ⟨e59, q60, c61⟩ := St.readM1 S.out 0 rfl
         refine goesL_ (some 56) rfl rfl Try.func130 (by kernel_rfl) rfl #[.agg #[.slice A27 ws.length c28, .slice (some ⟨b31, 0, none⟩) ds.length c30]] rfl (by (try simp only [List.map_toArray, List.map_cons, List.map_nil]); first | done | rfl) ?_
         refine calls_of_args (args' := #[.agg #[.slice A27 ws.length c28, .slice (some ⟨b31, 0, none⟩) (ds.set t.toNat ⟨wrap64 (((rd_T145 ds t).f0) + 1), 1, es, ⟨code, rs⟩⟩).length c30]]) (by rw [e59]) ?_
         (with_reducible refine (impl_MemOk.calls k A27 c28 ws (some ⟨b31, 0, none⟩) c30 (ds.set t.toNat ⟨wrap64 (((rd_T145 ds t).f0) + 1), 1, es, ⟨code, rs⟩⟩) _ _ c58 q57 c61 q60 H7.out).mono ?_)
         rintro e w55 ⟨rfl, hb⟩
         refine ⟨_, rfl, ?_⟩
         replace S := Aside0.mk (S.out.moved hb)
         clear hb e56 q57 c58 e59 q60 c61
         have kg32_0 : w55.cell? ⟨g32, 0, none⟩ = some (.slice A27 ws.length c28) := (blk_cell (S.out.blk 1 rfl) 0).trans rfl
         have kg32_1 : w55.cell? ⟨g32, 1, none⟩ = some (.slice (some ⟨b31, 0, none⟩) ds.length c30) := (blk_cell (S.out.blk 1 rfl) 1).trans rfl
         have kg3_0 : w55.cell? ⟨g3, 0, none⟩ = some (.int .i64 t) := (blk_cell (S.out.blk 7 rfl) 0).trans rfl))
  refine start_ (n := 7) (S := fun w' => St w w (fun _ => False) [hM w.heap.size (.slice A27 ws.length c28) (.slice (some ⟨b31, 0, none⟩) ds.length c30) ws (ds.set t.toNat ⟨wrap64 (((rd_T145 ds t).f0) + 1), 1, es, ⟨code, rs⟩⟩), hB g32 #[.slice A27 ws.length c28, .slice (some ⟨b31, 0, none⟩) ds.length c30] 88, hB g18 #[.slice A14 ws.length c15, .slice A16 ds.length c17] 88, hM w.heap.size (.slice A14 ws.length c15) (.slice A16 ds.length c17) ws ds, hB g5 #[.int .i64 code, .slice A3 rs.length c3] 70, hB g3 #[.int .i64 t] 3, hB g1 #[.slice A0 ws.length c0, .slice (some ad1) ds.length c1] 88] w') (ds := []) #[false, false, false, false, false, false, false] (by kernel_rfl) rfl rfl (St.drew (((S.out.bring 4 rfl).drop.bring 4 rfl).drop)) (fun hS_ => ?_)
  (try clear kg32_0 kg32_1 kg3_0)
  replace S := Aside0.mk S.out.drew
  clear hS_
  generalize w55.drew = w62 at S ⊢
  refine take_ (i := 0) (N := some 60) (v := .agg #[.slice A27 ws.length c28, .slice (some ⟨b31, 0, none⟩) ds.length c30]) (a' := ?at63) #[true, false, false, false, false, false, false] rfl rfl (by kernel_rfl) (fun _ _ _ h => h) (Or.inl ⟨by rfl, ?yt63⟩) (((S.out.bring 4 rfl).drop.bring 4 rfl).drop) ?pt63 ?nt63
  case yt63 =>
    intro w' hS
    have kg32_0 : w'.cell? ⟨g32, 0, none⟩ = some (.slice A27 ws.length c28) := (blk_cell (hS.blk 1 rfl) 0).trans rfl
    have kg32_1 : w'.cell? ⟨g32, 1, none⟩ = some (.slice (some ⟨b31, 0, none⟩) ds.length c30) := (blk_cell (hS.blk 1 rfl) 1).trans rfl
    have x0h : w'.cell? (ad1.add (t.toNat * 5)) = some (.int .i64 (rd_T145 ds t).f0) := St.cell hS X0_.out
    first | (go_simp; done) | (go_simp; rfl) | (go_simp; exact ⟨rfl, rfl⟩)
  case pt63 =>
    simp only [Act.put, List.setIfInBounds_toArray, List.set_cons_zero, List.set_cons_succ, i64_w, i32_w]
    rfl
  refine take_ (i := 1) (N := some 61) (v := .int .i64 t) (a' := ?at64) #[true, true, false, false, false, false, false] rfl rfl (by kernel_rfl) (fun _ _ _ h => h) (Or.inl ⟨by rfl, ?yt64⟩) (((S.out.bring 4 rfl).drop.bring 4 rfl).drop) ?pt64 ?nt64
  case yt64 =>
    intro w' hS
    have kg3_0 : w'.cell? ⟨g3, 0, none⟩ = some (.int .i64 t) := (blk_cell (hS.blk 5 rfl) 0).trans rfl
    have x0h : w'.cell? (ad1.add (t.toNat * 5)) = some (.int .i64 (rd_T145 ds t).f0) := St.cell hS X0_.out
    first | (go_simp; done) | (go_simp; rfl) | (go_simp; exact ⟨rfl, rfl⟩)
  case pt64 =>
    simp only [Act.put, List.setIfInBounds_toArray, List.set_cons_zero, List.set_cons_succ, i64_w, i32_w]
    rfl
  refine take_ (i := 2) (N := some 62) (v := .int .i64 (wrap64 (((rd_T145 ds t).f0) + 1))) (a' := ?at65) #[true, true, true, false, false, false, false] rfl rfl (by kernel_rfl) (fun _ _ _ h => h) (Or.inl ⟨by rfl, ?yt65⟩) (((S.out.bring 4 rfl).drop.bring 4 rfl).drop) ?pt65 ?nt65
  case yt65 =>
    intro w' hS
    first | (go_simp; done) | (go_simp; rfl) | (go_simp; exact ⟨rfl, rfl⟩)
  case pt65 =>
    simp only [Act.put, List.setIfInBounds_toArray, List.set_cons_zero, List.set_cons_succ, i64_w, i32_w]
    rfl
  refine take_ (i := 3) (N := some 63) (v := .agg #[.int .i64 t, .int .i64 (wrap64 (((rd_T145 ds t).f0) + 1)), .int .i64 0, .int .i64 0]) (a' := ?at66) #[true, true, true, true, false, false, false] rfl rfl (by kernel_rfl) (fun _ _ _ h => h) (Or.inl ⟨by rfl, ?yt66⟩) (((S.out.bring 4 rfl).drop.bring 4 rfl).drop) ?pt66 ?nt66
  case yt66 =>
    intro w' hS
    first | (go_simp; done) | (go_simp; rfl) | (go_simp; exact ⟨rfl, rfl⟩)
  case pt66 =>
    simp only [Act.put, List.setIfInBounds_toArray, List.set_cons_zero, List.set_cons_succ, i64_w, i32_w]
    rfl
  refine one_ (i := 4) (N := none) #[true, true, true, true, true, false, false] rfl rfl (by kernel_rfl) (by decide) (fun K hK => ?_)
  replace S := Aside0.mk (show St w w (fun _ => False) [hB g7 #[.slice none 0 0, .slice none 0 0] 88, hM w.heap.size (.slice A27 ws.length c28) (.slice (some ⟨b31, 0, none⟩) ds.length c30) ws (ds.set t.toNat ⟨wrap64 (((rd_T145 ds t).f0) + 1), 1, es, ⟨code, rs⟩⟩), hB g32 #[.slice A27 ws.length c28, .slice (some ⟨b31, 0, none⟩) ds.length c30] 88, hB g18 #[.slice A14 ws.length c15, .slice A16 ds.length c17] 88, hM w.heap.size (.slice A14 ws.length c15) (.slice A16 ds.length c17) ws ds, hB g9 #[.int .i64 0, .int .i64 0, .int .i64 0, .int .i64 0] 100, hB g5 #[.int .i64 code, .slice A3 rs.length c3] 70, hB g3 #[.int .i64 t] 3, hB g1 #[.slice A0 ws.length c0, .slice (some ad1) ds.length c1] 88] _ from S.out.bring 5 rfl)
  have kg7_0 : w62.cell? ⟨g7, 0, none⟩ = some (.slice none 0 0) := (blk_cell (S.out.blk 0 rfl) 0).trans rfl
  have zg7_0 := blk_frozen (S.out.blk 0 rfl) 0
  have kg7_1 : w62.cell? ⟨g7, 1, none⟩ = some (.slice none 0 0) := (blk_cell (S.out.blk 0 rfl) 1).trans rfl
  have zg7_1 := blk_frozen (S.out.blk 0 rfl) 1
  refine skip_ (w1 := ((w62.setCell ⟨g7, 0, none⟩ (.slice A27 ws.length c28)).setCell ⟨g7, 1, none⟩ (.slice (some ⟨b31, 0, none⟩) ds.length c30))) (by rfl) rfl (by first | (go_simp; done) | (go_simp; rfl) | (go_simp; exact ⟨rfl, rfl⟩)) ?_
  clear kg7_0 zg7_0 kg7_1 zg7_1
  obtain ⟨w67, hw_⟩ : ∃ x_, x_ = ((w62.setCell ⟨g7, 0, none⟩ (.slice A27 ws.length c28)).setCell ⟨g7, 1, none⟩ (.slice (some ⟨b31, 0, none⟩) ds.length c30)) := ⟨_, rfl⟩
  rw [← hw_]
  replace S : Aside0 (St w w (fun _ => False) [hB g7 #[.slice A27 ws.length c28, .slice (some ⟨b31, 0, none⟩) ds.length c30] 88, hM w.heap.size (.slice A27 ws.length c28) (.slice (some ⟨b31, 0, none⟩) ds.length c30) ws (ds.set t.toNat ⟨wrap64 (((rd_T145 ds t).f0) + 1), 1, es, ⟨code, rs⟩⟩), hB g32 #[.slice A27 ws.length c28, .slice (some ⟨b31, 0, none⟩) ds.length c30] 88, hB g18 #[.slice A14 ws.length c15, .slice A16 ds.length c17] 88, hM w.heap.size (.slice A14 ws.length c15) (.slice A16 ds.length c17) ws ds, hB g9 #[.int .i64 0, .int .i64 0, .int .i64 0, .int .i64 0] 100, hB g5 #[.int .i64 code, .slice A3 rs.length c3] 70, hB g3 #[.int .i64 t] 3, hB g1 #[.slice A0 ws.length c0, .slice (some ad1) ds.length c1] 88] w67) := Aside0.mk (by rw [hw_]; exact ((S.out.put 0 (.slice A27 ws.length c28) rfl).put 1 (.slice (some ⟨b31, 0, none⟩) ds.length c30) rfl))
  clear hw_
  refine hK _ _ ((S.out.drop.bring 4 rfl).drop) (fun _ => ?_)
  refine one_ (i := 5) (N := none) #[true, true, true, true, true, true, false] rfl rfl (by kernel_rfl) (by decide) (fun K hK => ?_)
  replace S := Aside0.mk (show St w w (fun _ => False) [hB g9 #[.int .i64 0, .int .i64 0, .int .i64 0, .int .i64 0] 100, hB g7 #[.slice A27 ws.length c28, .slice (some ⟨b31, 0, none⟩) ds.length c30] 88, hM w.heap.size (.slice A27 ws.length c28) (.slice (some ⟨b31, 0, none⟩) ds.length c30) ws (ds.set t.toNat ⟨wrap64 (((rd_T145 ds t).f0) + 1), 1, es, ⟨code, rs⟩⟩), hB g32 #[.slice A27 ws.length c28, .slice (some ⟨b31, 0, none⟩) ds.length c30] 88, hB g18 #[.slice A14 ws.length c15, .slice A16 ds.length c17] 88, hM w.heap.size (.slice A14 ws.length c15) (.slice A16 ds.length c17) ws ds, hB g5 #[.int .i64 code, .slice A3 rs.length c3] 70, hB g3 #[.int .i64 t] 3, hB g1 #[.slice A0 ws.length c0, .slice (some ad1) ds.length c1] 88] _ from S.out.bring 5 rfl)
  have kg9_0 : w67.cell? ⟨g9, 0, none⟩ = some (.int .i64 0) := (blk_cell (S.out.blk 0 rfl) 0).trans rfl
  have zg9_0 := blk_frozen (S.out.blk 0 rfl) 0
  have kg9_1 : w67.cell? ⟨g9, 1, none⟩ = some (.int .i64 0) := (blk_cell (S.out.blk 0 rfl) 1).trans rfl
  have zg9_1 := blk_frozen (S.out.blk 0 rfl) 1
  have kg9_2 : w67.cell? ⟨g9, 2, none⟩ = some (.int .i64 0) := (blk_cell (S.out.blk 0 rfl) 2).trans rfl
  have zg9_2 := blk_frozen (S.out.blk 0 rfl) 2
  have kg9_3 : w67.cell? ⟨g9, 3, none⟩ = some (.int .i64 0) := (blk_cell (S.out.blk 0 rfl) 3).trans rfl
  have zg9_3 := blk_frozen (S.out.blk 0 rfl) 3
  refine skip_ (w1 := ((((w67.setCell ⟨g9, 0, none⟩ (.int .i64 t)).setCell ⟨g9, 1, none⟩ (.int .i64 (wrap64 (((rd_T145 ds t).f0) + 1)))).setCell ⟨g9, 2, none⟩ (.int .i64 0)).setCell ⟨g9, 3, none⟩ (.int .i64 0))) (by rfl) rfl (by first | (go_simp; done) | (go_simp; rfl) | (go_simp; exact ⟨rfl, rfl⟩)) ?_
  clear kg9_0 zg9_0 kg9_1 zg9_1 kg9_2 zg9_2 kg9_3 zg9_3
  obtain ⟨w68, hw_⟩ : ∃ x_, x_ = ((((w67.setCell ⟨g9, 0, none⟩ (.int .i64 t)).setCell ⟨g9, 1, none⟩ (.int .i64 (wrap64 (((rd_T145 ds t).f0) + 1)))).setCell ⟨g9, 2, none⟩ (.int .i64 0)).setCell ⟨g9, 3, none⟩ (.int .i64 0)) := ⟨_, rfl⟩
  rw [← hw_]
  replace S : Aside0 (St w w (fun _ => False) [hB g9 #[.int .i64 t, .int .i64 (wrap64 (((rd_T145 ds t).f0) + 1)), .int .i64 0, .int .i64 0] 100, hB g7 #[.slice A27 ws.length c28, .slice (some ⟨b31, 0, none⟩) ds.length c30] 88, hM w.heap.size (.slice A27 ws.length c28) (.slice (some ⟨b31, 0, none⟩) ds.length c30) ws (ds.set t.toNat ⟨wrap64 (((rd_T145 ds t).f0) + 1), 1, es, ⟨code, rs⟩⟩), hB g32 #[.slice A27 ws.length c28, .slice (some ⟨b31, 0, none⟩) ds.length c30] 88, hB g18 #[.slice A14 ws.length c15, .slice A16 ds.length c17] 88, hM w.heap.size (.slice A14 ws.length c15) (.slice A16 ds.length c17) ws ds, hB g5 #[.int .i64 code, .slice A3 rs.length c3] 70, hB g3 #[.int .i64 t] 3, hB g1 #[.slice A0 ws.length c0, .slice (some ad1) ds.length c1] 88] w68) := Aside0.mk (by rw [hw_]; exact ((((S.out.put 0 (.int .i64 t) rfl).put 1 (.int .i64 (wrap64 (((rd_T145 ds t).f0) + 1))) rfl).put 2 (.int .i64 0) rfl).put 3 (.int .i64 0) rfl))
  clear hw_
  refine hK _ _ (S.out.drop.drop) (fun _ => ?_)
  refine take_ (i := 6) (N := some 10) (v := .bool true) (a' := ?at69) #[true, true, true, true, true, true, true] rfl rfl (by kernel_rfl) (fun _ _ _ h => h) (Or.inl ⟨by rfl, ?yt69⟩) (S.out.drop.drop) ?pt69 ?nt69
  case yt69 =>
    intro w' hS
    first | (go_simp; done) | (go_simp; rfl) | (go_simp; exact ⟨rfl, rfl⟩)
  case pt69 =>
    simp only [Act.put, List.setIfInBounds_toArray, List.set_cons_zero, List.set_cons_succ, i64_w, i32_w]
    rfl
  refine done_ (by kernel_rfl) ?_
  go_wp2
  refine bodyPost_ret (results_list (rs := [.cell 8 88, .cell 9 100, .tmp 10]) rfl (by simp) (.cell g7 88 #[.slice A27 ws.length c28, .slice (some ⟨b31, 0, none⟩) ds.length c30] (0, 0) _ rfl (S.out.blk 1 rfl) Try.underlying88 rfl (by kernel_rfl) (.cell g9 100 #[.int .i64 t, .int .i64 (wrap64 (((rd_T145 ds t).f0) + 1)), .int .i64 0, .int .i64 0] (0, 0) _ rfl (S.out.blk 0 rfl) Try.underlying100 rfl (by kernel_rfl) (.tmp .nil)))) rfl ?_
  obtain ⟨D_, hD_⟩ := S.out.nth 2 rfl
  exact ⟨_, _, by first | rfl | (simp; done), Kd.R_mono (M_R hD_) (fun _ _ => trivial), Kd.S_mono (M_S hD_) (fun _ _ => trivial), S.out.done⟩
end Go.Proofs.Ytopikhjcbcpiaaa.Q
end
