/- Part 14 of the steps by which the law is shown: what each function of the program, of the reference and of the law computes. No condition. -/
import Derived.Test.YtopikhjcbcpiaaaGreatFin0
import Derived.Test.YtopikhjcbcpiaaaGreatFin1
import Derived.Test.YtopikhjcbcpiaaaGreatFin4
import Derived.Test.YtopikhjcbcpiaaaGreatFin9
import Derived.Test.YtopikhjcbcpiaaaGreatFin13
section
/- The one statement about numbers and lists that is left of the law FnExactFinished. -/
namespace Go.Proofs.YtopikhjcbcpiaaaGreat.Q
open Go.RowKit Go.Proofs.YtopikhjcbcpiaaaGreatW.PrintWords
def laws_FnExactFinished.Pure : Prop := ∀ (a0 : S68), ok68 a0 → ∃ k, laws_FnExactFinished.f k a0.f0.f0 a0.f0.f1 a0.f1 a0.f2 a0.f3 a0.f4 a0.f5.f0 a0.f5.f1 = some true
end Go.Proofs.YtopikhjcbcpiaaaGreat.Q
end
section
namespace Go.Proofs.YtopikhjcbcpiaaaGreat.Q
open Go.RowKit Go.Proofs.YtopikhjcbcpiaaaGreatW.PrintWords Go.Proofs.YtopikhjcbcpiaaaGreatX
def lastP (cs : List S134) (t : Int) : Nat → Int
  | 0 => -1
  | i + 1 => if (cs.getD i z134).f0 = t then (i : Int) else lastP cs t i
def endP (cs : List S134) (t : Int) : Nat → Nat
  | 0 => 0
  | i + 1 => if (cs.getD i z134).f0 = t ∧ 0 ≤ (cs.getD i z134).f4 then endP cs t i + 1 else endP cs t i
def openP (cs : List S134) (t : Int) : Nat → Nat
  | 0 => 0
  | i + 1 => if (cs.getD i z134).f0 = t ∧ ¬ 0 ≤ (cs.getD i z134).f4 then openP cs t i + 1 else openP cs t i
theorem lastP_bd (cs : List S134) (t : Int) : ∀ i, -1 ≤ lastP cs t i ∧ lastP cs t i < i
  | 0 => by simp [lastP]
  | i + 1 => by
    have := lastP_bd cs t i
    unfold lastP
    split <;> omega
theorem endP_le (cs : List S134) (t : Int) : ∀ i, endP cs t i ≤ i
  | 0 => Nat.le_refl _
  | i + 1 => by
    have := endP_le cs t i
    unfold endP
    split <;> omega
theorem openP_le (cs : List S134) (t : Int) : ∀ i, openP cs t i ≤ i
  | 0 => Nat.le_refl _
  | i + 1 => by
    have := openP_le cs t i
    unfold openP
    split <;> omega
def isOpen (cs : List S134) (t : Int) (i : Nat) : Prop := (cs.getD i z134).f0 = t ∧ ¬ 0 ≤ (cs.getD i z134).f4
instance (cs : List S134) (t : Int) (i : Nat) : Decidable (isOpen cs t i) := by unfold isOpen; infer_instance
theorem open_none (cs : List S134) (t : Int) : ∀ n, openP cs t n = 0 ↔ ∀ i, i < n → ¬ isOpen cs t i
  | 0 => by simp [openP]
  | n + 1 => by
    have ih := open_none cs t n
    by_cases h : isOpen cs t n
    · have hs : openP cs t (n + 1) = openP cs t n + 1 := by rw [openP]; exact if_pos h
      rw [hs]
      constructor
      · intro h0; omega
      · intro h0; exact absurd h (h0 n (by omega))
    · have hs : openP cs t (n + 1) = openP cs t n := by rw [openP]; exact if_neg h
      rw [hs, ih]
      constructor
      · intro h0 i hi
        rcases Nat.lt_or_ge i n with hlt | hge
        · exact h0 i hlt
        · obtain rfl : i = n := by omega
          exact h
      · intro h0 i hi
        exact h0 i (by omega)
theorem open_one (cs : List S134) (t : Int) : ∀ n, 0 ≤ lastP cs t n → (cs.getD (lastP cs t n).toNat z134).f4 = -1 → (openP cs t n = 1 ↔ ∀ i, i < n → isOpen cs t i → (i : Int) = lastP cs t n)
  | 0 => by simp [lastP]
  | n + 1 => by
    intro h0 h4
    by_cases ht : (cs.getD n z134).f0 = t
    · have hl : lastP cs t (n + 1) = (n : Int) := by rw [lastP, if_pos ht]
      rw [hl, Int.toNat_natCast] at h4
      have ho : isOpen cs t n := ⟨ht, by omega⟩
      have hs : openP cs t (n + 1) = openP cs t n + 1 := by rw [openP]; exact if_pos ho
      rw [hs, hl]
      constructor
      · intro h1 i hi hop
        have hz := (open_none cs t n).1 (by omega)
        rcases Nat.lt_or_ge i n with hlt | hge
        · exact absurd hop (hz i hlt)
        · omega
      · intro h1
        have hz := (open_none cs t n).2 (fun i hi hop => by have := h1 i (by omega) hop; omega)
        omega
    · have hl : lastP cs t (n + 1) = lastP cs t n := by rw [lastP, if_neg ht]
      have hno : ¬ isOpen cs t n := fun h => ht h.1
      have hs : openP cs t (n + 1) = openP cs t n := by rw [openP]; exact if_neg hno
      rw [hl] at h0 h4 ⊢
      rw [hs, open_one cs t n h0 h4]
      constructor
      · intro h1 i hi hop
        rcases Nat.lt_or_ge i n with hlt | hge
        · exact h1 i hlt hop
        · obtain rfl : i = n := by omega
          exact absurd hop hno
      · intro h1 i hi hop
        exact h1 i (by omega) hop
theorem ev_spec_Last (ws : List S39) (ds : List S52) (ts : List S82) (time : Int) (cs : List S134) (ord held : List Int) (st t : Int) (hc : cs.length ≤ 1048576) :
    Ev (fun k => spec_l9Last.f k ws ds ts time cs ord held st t) (lastP cs t cs.length) := by
  have key : ∀ i : Nat, i ≤ cs.length → Ev (fun k => spec_l9Last.l0 k t ((i : Int) - 1) ws ds ts time cs ord held st) (lastP cs t i) := by
    intro i
    induction i with
    | zero =>
      intro _
      refine ev_succ (fun k => ?_)
      simp only [spec_l9Last.l0]
      rw [if_neg (by omega)]
      rfl
    | succ i ih =>
      intro hi
      have e0 : (((i + 1 : Nat) : Int) - 1) = (i : Int) := by omega
      rw [e0]
      by_cases ht : (cs.getD i z134).f0 = t
      · refine ev_to (ev_succ (fun k => ?_)) (by rw [lastP, if_pos ht])
        simp only [spec_l9Last.l0, rd134]
        rw [if_pos (by omega), if_pos (by omega), if_pos (by omega), if_pos ht]
      · refine ev_to (Ev.step (fun k => ?_) (ih (by omega))) (by rw [lastP, if_neg ht])
        simp only [spec_l9Last.l0, rd134]
        rw [if_pos (by omega), if_pos (by omega), if_pos (by omega), if_neg ht, wrap_in (by omega) (by omega)]
  have h := key cs.length (Nat.le_refl _)
  unfold spec_l9Last.f
  rw [wrap_in (by omega) (by omega)]
  exact h
def opE (c : S134) (o : S132) : Bool := c.f1.f0 == o.f0 && (c.f1.f1 == o.f1 && (c.f1.f2 == o.f2))
def callsB (x : S82) (t : Int) (cs : List S134) : Bool :=
  decide ((endP cs t cs.length : Int) = x.f1) && (if x.f2 = true then decide (0 ≤ lastP cs t cs.length) && (decide (openP cs t cs.length = 1) && (decide ((cs.getD (lastP cs t cs.length).toNat z134).f4 = -1) && opE (cs.getD (lastP cs t cs.length).toNat z134) (x.f0.getD x.f1.toNat z132))) else decide (openP cs t cs.length = 0))
theorem rdO {l : List S132} {v : Int} : rd_T132 l v = l.getD v.toNat z132 := by
  show l.getD v.toNat z132 = _
  exact id rfl
theorem ev_impl_callsOk (ws : List S39) (ds : List S52) (ts : List S82) (time : Int) (cs : List S134) (ord held : List Int) (st : Int) (j : Nat) (hj : j < ts.length) (hc : cs.length ≤ 1048576)
    (hpc : 0 ≤ (ts.getD j z82).f1) (hon : (ts.getD j z82).f2 = true → (ts.getD j z82).f1 < ((ts.getD j z82).f0.length : Int)) :
    Ev (fun k => impl_callsOk.f k ws ds ts time cs ord held st (j : Int)) (callsB (ts.getD j z82) (j : Int) cs) := by
  have e : rd_T82 ts (j : Int) = ts.getD j z82 := rfl
  unfold impl_callsOk.f
  refine ev_pos (by omega) (ev_pos (by omega) ?_)
  simp only [e]
  generalize ts.getD j z82 = x at hpc hon ⊢
  have key : ∀ (d i : Nat), i + d = cs.length → Ev (fun k => impl_callsOk.l0 k (j : Int) (lastP cs (j : Int) i) (endP cs (j : Int) i : Int) (openP cs (j : Int) i : Int) cs (cs.length : Int) (i : Int) ws ds ts time cs ord held st x.f0 x.f1 x.f2 x.f3 x.f4) (callsB x (j : Int) cs) := by
    intro d
    induction d with
    | zero =>
      intro i hi
      obtain rfl : i = cs.length := by omega
      have hl := lastP_bd cs (j : Int) cs.length
      refine ev_succ (fun k => ?_)
      simp only [impl_callsOk.l0]
      rw [if_neg (by omega)]
      unfold callsB
      generalize hL : lastP cs (j : Int) cs.length = L at hl ⊢
      by_cases h1 : ((endP cs (j : Int) cs.length : Nat) : Int) = x.f1
      · rw [if_pos h1, decide_eq_true h1, Bool.true_and]
        cases hx : x.f2 with
        | false =>
          rw [if_neg (by simp), if_neg (by simp), Option.some.injEq, Bool.eq_iff_iff]
          simp only [beq_iff_eq, decide_eq_true_eq]
          omega
        | true =>
          rw [if_pos rfl, if_pos rfl]
          by_cases h2 : L ≥ 0
          · rw [if_pos h2, decide_eq_true (show 0 ≤ L by omega), Bool.true_and]
            by_cases h3 : ((openP cs (j : Int) cs.length : Nat) : Int) = 1
            · rw [if_pos h3, decide_eq_true (show openP cs (j : Int) cs.length = 1 by omega), Bool.true_and, if_pos (show 0 ≤ L by omega), if_pos (show L < (cs.length : Int) by omega)]
              simp only [rdC]
              by_cases h4 : (cs.getD L.toNat z134).f4 = -1
              · have hlt := hon hx
                rw [if_pos h4, if_pos hpc, if_pos hlt, decide_eq_true h4, Bool.true_and]
                simp only [rdO]
                rfl
              · rw [if_neg h4, decide_eq_false h4, Bool.false_and]
            · rw [if_neg h3, decide_eq_false (show ¬ openP cs (j : Int) cs.length = 1 by omega), Bool.false_and]
          · rw [if_neg h2, decide_eq_false (show ¬ 0 ≤ L by omega), Bool.false_and]
      · rw [if_neg h1, decide_eq_false h1, Bool.false_and]
    | succ d ih =>
      intro i hi
      have h := ih (i + 1) (by omega)
      have e1 : wrap64 ((i : Int) + 1) = ((i + 1 : Nat) : Int) := by rw [wrap_in (by omega) (by omega)]; omega
      have b1 := endP_le cs (j : Int) i
      have b2 := openP_le cs (j : Int) i
      unfold lastP endP openP at h
      by_cases ht : (cs.getD i z134).f0 = (j : Int)
      · rw [if_pos ht] at h
        by_cases h4 : 0 ≤ (cs.getD i z134).f4
        · rw [if_pos ⟨ht, h4⟩, if_neg (fun hc => hc.2 h4)] at h
          refine Ev.step (fun k => ?_) h
          simp only [impl_callsOk.l0, rd134]
          rw [if_pos (by omega), if_pos (by omega), if_pos (by omega), if_pos ht, if_pos (by omega), e1, wrap_in (x := ((endP cs (j : Int) i : Nat) : Int) + 1) (by omega) (by omega)]
          rfl
        · rw [if_neg (fun hc => h4 hc.2), if_pos ⟨ht, h4⟩] at h
          refine Ev.step (fun k => ?_) h
          simp only [impl_callsOk.l0, rd134]
          rw [if_pos (by omega), if_pos (by omega), if_pos (by omega), if_pos ht, if_neg (by omega), e1, wrap_in (x := ((openP cs (j : Int) i : Nat) : Int) + 1) (by omega) (by omega)]
          rfl
      · rw [if_neg ht, if_neg (fun hc => ht hc.1), if_neg (fun hc => ht hc.1)] at h
        refine Ev.step (fun k => ?_) h
        simp only [impl_callsOk.l0, rd134]
        rw [if_pos (by omega), if_pos (by omega), if_pos (by omega), if_neg ht, e1]
  exact key cs.length 0 (by omega)
theorem all_open_off (cs : List S134) (t : Int) (n : Nat) : (List.range n).all (fun i => decide (¬ isOpen cs t i)) = decide (openP cs t n = 0) := by
  rw [Bool.eq_iff_iff, List.all_eq_true, decide_eq_true_eq, open_none]
  constructor
  · intro h i hi
    have := h i (List.mem_range.2 hi)
    exact of_decide_eq_true this
  · intro h i hi
    exact decide_eq_true (h i (List.mem_range.1 hi))
theorem all_open_on (cs : List S134) (t : Int) (n : Nat) (h0 : 0 ≤ lastP cs t n) (h4 : (cs.getD (lastP cs t n).toNat z134).f4 = -1) :
    (List.range n).all (fun i => decide (isOpen cs t i → (i : Int) = lastP cs t n)) = decide (openP cs t n = 1) := by
  rw [Bool.eq_iff_iff, List.all_eq_true, decide_eq_true_eq, open_one cs t n h0 h4]
  constructor
  · intro h i hi
    have := h i (List.mem_range.2 hi)
    exact of_decide_eq_true this
  · intro h i hi
    exact decide_eq_true (h i (List.mem_range.1 hi))
theorem ev_spec_Thread (ws : List S39) (ds : List S52) (ts : List S82) (time : Int) (cs : List S134) (ord held : List Int) (st : Int) (j : Nat) (hj : j < ts.length) (hc : cs.length ≤ 1048576)
    (hpc : 0 ≤ (ts.getD j z82).f1) (hon : (ts.getD j z82).f2 = true → (ts.getD j z82).f1 < ((ts.getD j z82).f0.length : Int)) :
    Ev (fun k => spec_l9Thread.f k ws ds ts time cs ord held st (j : Int)) (callsB (ts.getD j z82) (j : Int) cs) := by
  have e : rd_T82 ts (j : Int) = ts.getD j z82 := rfl
  unfold spec_l9Thread.f
  refine ev_pos (by omega) (ev_pos (by omega) (Ev.bind (ev_spec_Last ws ds ts time cs ord held st (j : Int) hc) ?_))
  simp only [e]
  generalize ts.getD j z82 = x at hpc hon ⊢
  have hl := lastP_bd cs (j : Int) cs.length
  have hop1 := all_open_on cs (j : Int) cs.length
  unfold callsB
  generalize hL : lastP cs (j : Int) cs.length = L at hl hop1 ⊢
  -- what is asked behind the loop
  have G : Ev (fun k => spec_l9Thread.l0 k (j : Int) L ((endP cs (j : Int) cs.length : Nat) : Int) (cs.length : Int) ws ds ts time cs ord held st x.f0 x.f1 x.f2 x.f3 x.f4)
      (decide ((endP cs (j : Int) cs.length : Int) = x.f1) && (if x.f2 = true then decide (0 ≤ L) && (decide ((cs.getD L.toNat z134).f4 = -1) && opE (cs.getD L.toNat z134) (x.f0.getD x.f1.toNat z132)) else true)) := by
    refine ev_succ (fun k => ?_)
    simp only [spec_l9Thread.l0]
    rw [if_neg (by omega)]
    by_cases h1 : ((endP cs (j : Int) cs.length : Nat) : Int) = x.f1
    · rw [if_pos h1, decide_eq_true h1, Bool.true_and]
      cases hx : x.f2 with
      | false => rw [if_neg (by simp), if_neg (by simp)]
      | true =>
        rw [if_pos rfl, if_pos rfl]
        by_cases h2 : L ≥ 0
        · rw [if_pos h2, decide_eq_true (show 0 ≤ L by omega), Bool.true_and, if_pos (show 0 ≤ L by omega), if_pos (show L < (cs.length : Int) by omega)]
          simp only [rdC]
          by_cases h4 : (cs.getD L.toNat z134).f4 = -1
          · have hlt := hon hx
            rw [if_pos h4, if_pos hpc, if_pos hlt, decide_eq_true h4, Bool.true_and]
            simp only [rdO]
            rfl
          · rw [if_neg h4, decide_eq_false h4, Bool.false_and]
        · rw [if_neg h2, decide_eq_false (show ¬ 0 ≤ L by omega), Bool.false_and]
    · rw [if_neg h1, decide_eq_false h1, Bool.false_and]
  generalize hR : (decide ((endP cs (j : Int) cs.length : Int) = x.f1) && (if x.f2 = true then decide (0 ≤ L) && (decide ((cs.getD L.toNat z134).f4 = -1) && opE (cs.getD L.toNat z134) (x.f0.getD x.f1.toNat z132)) else true)) = R at G
  have F := ev_idx (g := fun k i => spec_l9Thread.l0 k (j : Int) L ((endP cs (j : Int) i.toNat : Nat) : Int) i ws ds ts time cs ord held st x.f0 x.f1 x.f2 x.f3 x.f4) cs.length (fun i => if x.f2 = true then decide (isOpen cs (j : Int) i → (i : Int) = L) else decide (¬ isOpen cs (j : Int) i)) R (fun i hi => ?_) (by simp only [Int.toNat_natCast]; exact G)
  · refine ev_to F ?_
    rw [← hR]
    cases hx : x.f2 with
    | false =>
      simp only [Bool.false_eq_true, if_false, Bool.and_true]
      rw [all_open_off, Bool.and_comm]
    | true =>
      simp only [if_true]
      by_cases h0 : 0 ≤ L
      · by_cases h4 : (cs.getD L.toNat z134).f4 = -1
        · rw [hop1 h0 h4, decide_eq_true h0, decide_eq_true h4]
          simp only [Bool.true_and]
          cases decide (openP cs (j : Int) cs.length = 1) <;> simp
        · rw [decide_eq_false h4]; simp
      · rw [decide_eq_false h0]; simp
  · have e1 : wrap64 ((i : Int) + 1) = ((i + 1 : Nat) : Int) := by rw [wrap_in (by omega) (by omega)]; omega
    have b1 := endP_le cs (j : Int) i
    simp only [Int.toNat_natCast]
    by_cases ht : (cs.getD i z134).f0 = (j : Int)
    · by_cases h4 : 0 ≤ (cs.getD i z134).f4
      · have hn : ¬ isOpen cs (j : Int) i := fun h => h.2 h4
        have he : endP cs (j : Int) (i + 1) = endP cs (j : Int) i + 1 := by rw [endP]; exact if_pos ⟨ht, h4⟩
        constructor
        · intro _ r hr
          rw [he] at hr
          refine Ev.step (fun k => ?_) hr
          simp only [spec_l9Thread.l0, rd134]
          rw [if_pos (by omega), if_pos (by omega), if_pos ht, if_pos (by omega), e1, wrap_in (by omega) (by omega)]
          rfl
        · intro hq
          exfalso
          cases hx : x.f2 <;> rw [hx] at hq <;> simp [hn] at hq
      · have ho : isOpen cs (j : Int) i := ⟨ht, h4⟩
        have he : endP cs (j : Int) (i + 1) = endP cs (j : Int) i := by rw [endP]; exact if_neg (fun h => h4 h.2)
        cases hx : x.f2 with
        | false =>
          refine ⟨fun hq => by simp [ho] at hq, fun _ => ev_succ (fun k => ?_)⟩
          simp only [spec_l9Thread.l0, rd134]
          rw [if_pos (by omega), if_pos (by omega), if_pos ht, if_neg (by omega), if_neg (by simp)]
        | true =>
          by_cases hiL : (i : Int) = L
          · refine ⟨fun _ r hr => ?_, fun hq => by simp [hiL] at hq⟩
            rw [he] at hr
            refine Ev.step (fun k => ?_) hr
            simp only [spec_l9Thread.l0, rd134]
            rw [if_pos (by omega), if_pos (by omega), if_pos ht, if_neg (by omega), if_pos trivial, if_pos hiL, e1]
          · refine ⟨fun hq => by simp [ho, hiL] at hq, fun _ => ev_succ (fun k => ?_)⟩
            simp only [spec_l9Thread.l0, rd134]
            rw [if_pos (by omega), if_pos (by omega), if_pos ht, if_neg (by omega), if_pos trivial, if_neg hiL]
    · have hn : ¬ isOpen cs (j : Int) i := fun h => ht h.1
      have he : endP cs (j : Int) (i + 1) = endP cs (j : Int) i := by rw [endP]; exact if_neg (fun h => ht h.1)
      constructor
      · intro _ r hr
        rw [he] at hr
        refine Ev.step (fun k => ?_) hr
        simp only [spec_l9Thread.l0, rd134]
        rw [if_pos (by omega), if_pos (by omega), if_neg ht, e1]
      · intro hq
        exfalso
        cases hx : x.f2 <;> rw [hx] at hq <;> simp [hn] at hq
structure FitM (ws : List S39) (ds : List S52) (ts : List S82) (cs : List S134) (ord held : List Int) : Prop where
  w : ws.length ≤ 1048576
  d : ds.length ≤ 1048576
  di : fitM ds
  t : ts.length ≤ 1048576
  ti : ∀ x ∈ ts, fitBThread x
  c : cs.length ≤ 1048576
  o : ord.length ≤ 1048576
  h : held.length ≤ 1048576
def thrV (ts : List S82) (cs : List S134) (i : Nat) : Bool :=
  threadB (ts.getD i z82).f0 (ts.getD i z82).f1 (ts.getD i z82).f2 (ts.getD i z82).f3 (ts.getD i z82).f4 ts.length && callsB (ts.getD i z82) (i : Int) cs
def machB (ws : List S39) (ds : List S52) (ts : List S82) (time : Int) (cs : List S134) (ord held : List Int) (st : Int) : Bool :=
  memB ws ds && (decide (ds.length = ts.length) && (inB time 0 100000 && (rowsOkB held st && (decide (cs.length ≤ 40) && (cs.all (callB ts.length time) && ((List.range ts.length).all (thrV ts cs) && orderB cs ord))))))
theorem threadB_pc {ops : List S132} {pc : Int} {on : Bool} {got : List S145} {stack : List S42} {n : Int} (h : threadB ops pc on got stack n = true) : 0 ≤ pc ∧ (on = true → pc < (ops.length : Int)) := by
  unfold threadB at h
  simp only [Bool.and_eq_true] at h
  obtain ⟨⟨⟨⟨⟨_, h1⟩, h2⟩, _⟩, _⟩, _⟩ := h
  have h1' : 0 ≤ pc ∧ pc ≤ (ops.length : Int) := by simpa [inB] using h1
  refine ⟨h1'.1, fun ho => ?_⟩
  rw [ho] at h2
  simpa using h2
theorem ev_impl_threads {ws : List S39} {ds : List S52} {ts : List S82} {cs : List S134} {ord held : List Int} (F : FitM ws ds ts cs ord held) (time st : Int) :
    Ev (fun k => impl_MachineOk.l1 k (ts.length : Int) ts (ts.length : Int) 0 ws ds ts time cs ord held st) ((List.range ts.length).all (thrV ts cs) && orderB cs ord) := by
  refine ev_idx (g := fun k i => impl_MachineOk.l1 k (ts.length : Int) ts (ts.length : Int) i ws ds ts time cs ord held st) ts.length (thrV ts cs) _ (fun i hi => ?_) ?_
  · have e : rd_T82 ts (i : Int) = ts.getD i z82 := rfl
    have hfit := F.ti _ (List.getElem_mem hi)
    rw [← getD82 hi] at hfit
    have hT := ev_impl_ThreadOk (ts.getD i z82).f0 (ts.getD i z82).f1 (ts.getD i z82).f2 (ts.getD i z82).f3 (ts.getD i z82).f4 ts.length (by omega) (by have := F.t; omega) hfit.2.1 hfit.2.2
    have hC := fun h1 h2 => ev_impl_callsOk ws ds ts time cs ord held st i hi F.c h1 h2
    have ht := F.t
    have e1 : wrap64 ((i : Int) + 1) = ((i + 1 : Nat) : Int) := by rw [wrap_in (by omega) (by omega)]; omega
    have E : ∀ r, Ev (fun k => impl_MachineOk.l1 k (ts.length : Int) ts (ts.length : Int) ((i + 1 : Nat) : Int) ws ds ts time cs ord held st) r ∨ thrV ts cs i = false → Ev (fun k => impl_MachineOk.l1 k (ts.length : Int) ts (ts.length : Int) (i : Int) ws ds ts time cs ord held st) (if thrV ts cs i = true then r else false) := by
      intro r hr
      refine Ev.step (f := fun k => (impl_ThreadOk.f k (ts.getD i z82).f0 (ts.getD i z82).f1 (ts.getD i z82).f2 (ts.getD i z82).f3 (ts.getD i z82).f4 (ts.length : Int)).bind fun t => if t = true then (impl_callsOk.f k ws ds ts time cs ord held st (i : Int)).bind fun t => (if t = true then impl_MachineOk.l1 k (ts.length : Int) ts (ts.length : Int) ((i + 1 : Nat) : Int) ws ds ts time cs ord held st else some false) else some false) (fun k => ?_) (Ev.bind hT ?_)
      · simp only [impl_MachineOk.l1, e]
        rw [if_pos (by omega), if_pos (by omega), if_pos (by omega), e1]
      · unfold thrV at hr ⊢
        cases hB : threadB (ts.getD i z82).f0 (ts.getD i z82).f1 (ts.getD i z82).f2 (ts.getD i z82).f3 (ts.getD i z82).f4 ts.length with
        | false => exact ev_neg (by simp) (Ev.now _)
        | true =>
          have hp := threadB_pc hB
          refine ev_pos rfl (Ev.bind (hC hp.1 hp.2) ?_)
          cases hD : callsB (ts.getD i z82) (i : Int) cs with
          | false => exact ev_neg (by simp) (Ev.now _)
          | true =>
            refine ev_pos rfl ?_
            rw [hB, hD] at hr
            simpa using hr
    constructor
    · intro hq r hr
      exact ev_to (E r (.inl hr)) (by rw [if_pos hq])
    · intro hq
      exact ev_to (E false (.inr hq)) (by rw [hq]; simp)
  · refine Ev.step (f := fun k => (impl_orderOk.f k ws ds ts time cs ord held st).bind fun t => some t) (fun k => ?_) (Ev.bind (ev_impl_orderOk ws ds ts time cs ord held st F.c F.o) (Ev.now _))
    simp only [impl_MachineOk.l1]
    rw [if_neg (by omega)]
theorem ev_spec_threads {ws : List S39} {ds : List S52} {ts : List S82} {cs : List S134} {ord held : List Int} (F : FitM ws ds ts cs ord held) (time st : Int) :
    Ev (fun k => spec_MachineOk.l0 k 0 ws ds ts time cs ord held st) ((List.range ts.length).all (thrV ts cs)) := by
  refine ev_to (ev_idx (g := fun k i => spec_MachineOk.l0 k i ws ds ts time cs ord held st) ts.length (thrV ts cs) true (fun i hi => ?_) ?_) (by simp)
  · have e : rd_T82 ts (i : Int) = ts.getD i z82 := rfl
    have hfit := F.ti _ (List.getElem_mem hi)
    rw [← getD82 hi] at hfit
    have hT := ev_spec_ThreadOk (ts.getD i z82).f0 (ts.getD i z82).f1 (ts.getD i z82).f2 (ts.getD i z82).f3 (ts.getD i z82).f4 ts.length hfit.1 hfit.2.1 hfit.2.2
    have hC := fun h1 h2 => ev_spec_Thread ws ds ts time cs ord held st i hi F.c h1 h2
    have ht := F.t
    have e1 : wrap64 ((i : Int) + 1) = ((i + 1 : Nat) : Int) := by rw [wrap_in (by omega) (by omega)]; omega
    have E : ∀ r, Ev (fun k => spec_MachineOk.l0 k ((i + 1 : Nat) : Int) ws ds ts time cs ord held st) r ∨ thrV ts cs i = false → Ev (fun k => spec_MachineOk.l0 k (i : Int) ws ds ts time cs ord held st) (if thrV ts cs i = true then r else false) := by
      intro r hr
      refine Ev.step (f := fun k => (spec_ThreadOk.f k (ts.getD i z82).f0 (ts.getD i z82).f1 (ts.getD i z82).f2 (ts.getD i z82).f3 (ts.getD i z82).f4 (ts.length : Int)).bind fun t => if t = true then (spec_l9Thread.f k ws ds ts time cs ord held st (i : Int)).bind fun t => (if t = true then spec_MachineOk.l0 k ((i + 1 : Nat) : Int) ws ds ts time cs ord held st else some false) else some false) (fun k => ?_) (Ev.bind hT ?_)
      · simp only [spec_MachineOk.l0, e]
        rw [if_pos (by omega), if_pos (by omega), e1]
      · unfold thrV at hr ⊢
        cases hB : threadB (ts.getD i z82).f0 (ts.getD i z82).f1 (ts.getD i z82).f2 (ts.getD i z82).f3 (ts.getD i z82).f4 ts.length with
        | false => exact ev_neg (by simp) (Ev.now _)
        | true =>
          have hp := threadB_pc hB
          refine ev_pos rfl (Ev.bind (hC hp.1 hp.2) ?_)
          cases hD : callsB (ts.getD i z82) (i : Int) cs with
          | false => exact ev_neg (by simp) (Ev.now _)
          | true =>
            refine ev_pos rfl ?_
            rw [hB, hD] at hr
            simpa using hr
    constructor
    · intro hq r hr
      exact ev_to (E r (.inl hr)) (by rw [if_pos hq])
    · intro hq
      exact ev_to (E false (.inr hq)) (by rw [hq]; simp)
  · refine ev_succ (fun k => ?_)
    simp only [spec_MachineOk.l0]
    rw [if_neg (by omega)]
theorem ev_impl_MachineOk {ws : List S39} {ds : List S52} {ts : List S82} {cs : List S134} {ord held : List Int} (F : FitM ws ds ts cs ord held) (time st : Int) :
    Ev (fun k => impl_MachineOk.f k ws ds ts time cs ord held st) (machB ws ds ts time cs ord held st) := by
  have hT := ev_impl_threads F time st
  have ht := F.t
  have L0 : Ev (fun k => impl_MachineOk.l0 k (ts.length : Int) cs (cs.length : Int) 0 ws ds ts time cs ord held st) (cs.all (callB ts.length time) && ((List.range ts.length).all (thrV ts cs) && orderB cs ord)) := by
    refine ev_all (g := fun k i => impl_MachineOk.l0 k (ts.length : Int) cs (cs.length : Int) i ws ds ts time cs ord held st) cs z134 (callB ts.length time) _ (fun i hi => ?_) ?_
    · have hc := F.c
      have e : rd_T134 cs (i : Int) = cs.getD i z134 := rfl
      generalize cs.getD i z134 = x at e ⊢
      have hS := ev_impl_call_step time x
      have e1 : wrap64 ((i : Int) + 1) = ((i + 1 : Nat) : Int) := by rw [wrap_in (by omega) (by omega)]; omega
      have E : ∀ r, Ev (fun k => impl_MachineOk.l0 k (ts.length : Int) cs (cs.length : Int) ((i + 1 : Nat) : Int) ws ds ts time cs ord held st) r ∨ callB ts.length time x = false → Ev (fun k => impl_MachineOk.l0 k (ts.length : Int) cs (cs.length : Int) (i : Int) ws ds ts time cs ord held st) (if callB ts.length time x = true then r else false) := by
        intro r hr
        refine Ev.step (f := fun k => if inB x.f0 0 ((ts.length : Int) - 1) = true then (impl_OpOk.f k x.f1.f0 x.f1.f1 x.f1.f2).bind fun t => (if t = true then (if inB x.f2 0 time = true then (if (decide (x.f3 = -1) || inB x.f3 x.f2 time) = true then (if (decide (x.f4 = -1) || inB x.f4 x.f2 time) = true then impl_MachineOk.l0 k (ts.length : Int) cs (cs.length : Int) ((i + 1 : Nat) : Int) ws ds ts time cs ord held st else some false) else some false) else some false) else some false) else some false) (fun k => ?_) ?_
        · simp only [impl_MachineOk.l0, e, from_eq, hS.1, hS.2, Option.bind_some]
          rw [if_pos (by omega), if_pos (by omega), if_pos (by omega), e1, wrap_in (x := (ts.length : Int) - 1) (by omega) (by omega)]
        · unfold callB at hr ⊢
          cases h0 : inB x.f0 0 ((ts.length : Int) - 1) with
          | false => exact ev_neg (by simp) (Ev.now _)
          | true =>
            refine ev_pos rfl (Ev.bind (ev_impl_OpOk x.f1.f0 x.f1.f1 x.f1.f2) ?_)
            cases h1 : opOkB x.f1.f0 x.f1.f1 x.f1.f2 with
            | false => exact ev_neg (by simp) (Ev.now _)
            | true =>
              refine ev_pos rfl ?_
              cases h2 : inB x.f2 0 time with
              | false => exact ev_neg (by simp) (Ev.now _)
              | true =>
                refine ev_pos rfl ?_
                cases h3 : (decide (x.f3 = -1) || inB x.f3 x.f2 time) with
                | false => exact ev_neg (by simp) (Ev.now _)
                | true =>
                  refine ev_pos rfl ?_
                  cases h4 : (decide (x.f4 = -1) || inB x.f4 x.f2 time) with
                  | false => exact ev_neg (by simp) (Ev.now _)
                  | true =>
                    refine ev_pos rfl ?_
                    rw [h0, h1, h2, h3, h4] at hr
                    simpa using hr
      constructor
      · intro hq r hr
        exact ev_to (E r (.inl hr)) (by rw [if_pos hq])
      · intro hq
        exact ev_to (E false (.inr hq)) (by rw [hq]; simp)
    · refine Ev.step (fun k => ?_) hT
      simp only [impl_MachineOk.l0]
      rw [if_neg (by omega)]
  have J : ∀ b : Bool, Ev (fun k => impl_MachineOk.j0 k (ts.length : Int) b ws ds ts time cs ord held st) (!b && (cs.all (callB ts.length time) && ((List.range ts.length).all (thrV ts cs) && orderB cs ord))) := by
    intro b
    cases b with
    | true => exact ev_succ (fun k => by simp [impl_MachineOk.j0])
    | false => exact ev_to (Ev.step (fun k => by simp [impl_MachineOk.j0]) L0) (by simp)
  unfold impl_MachineOk.f machB
  simp only [from_eq, Option.bind_some]
  refine Ev.bind (ev_impl_MemOk ws ds F.w F.d F.di) ?_
  cases memB ws ds with
  | false => exact ev_neg (by simp) (ev_to (J true) (by simp))
  | true =>
    refine ev_pos rfl ?_
    by_cases h1 : ds.length = ts.length
    · refine ev_pos (by omega) ?_
      cases inB time 0 100000 with
      | false => exact ev_neg (by simp) (ev_to (J true) (by simp))
      | true =>
        refine ev_pos rfl ?_
        by_cases h40 : cs.length ≤ 40
        · refine ev_neg (by omega) (Ev.bind (ev_impl_RowsOk held st F.h) (ev_to (J _) ?_))
          rw [decide_eq_true h1, decide_eq_true h40]
          simp
        · refine ev_pos (by omega) (ev_to (J true) ?_)
          rw [decide_eq_false h40]
          simp
    · refine ev_neg (by omega) (ev_to (J true) ?_)
      rw [decide_eq_false h1]
      simp
theorem ev_spec_MachineOk {ws : List S39} {ds : List S52} {ts : List S82} {cs : List S134} {ord held : List Int} (F : FitM ws ds ts cs ord held) (time st : Int) :
    Ev (fun k => spec_MachineOk.f k ws ds ts time cs ord held st) (machB ws ds ts time cs ord held st) := by
  have hT := ev_spec_threads F time st
  have J : ∀ b : Bool, Ev (fun k => spec_MachineOk.j0 k b ws ds ts time cs ord held st) (!b && (List.range ts.length).all (thrV ts cs)) := by
    intro b
    cases b with
    | true => exact ev_succ (fun k => by simp [spec_MachineOk.j0])
    | false => exact ev_to (Ev.step (fun k => by simp [spec_MachineOk.j0]) hT) (by simp)
  unfold spec_MachineOk.f machB
  simp only [l1In_eq, Option.bind_some]
  refine Ev.bind (ev_spec_MemOk ws ds F.w F.d F.di) ?_
  cases memB ws ds with
  | false => exact ev_neg (by simp) (ev_to (J true) (by simp))
  | true =>
    refine ev_pos rfl ?_
    by_cases h1 : ds.length = ts.length
    · refine ev_pos (by omega) ?_
      cases inB time 0 100000 with
      | false => exact ev_neg (by simp) (ev_to (J true) (by simp))
      | true =>
        refine ev_pos rfl (Ev.bind (ev_spec_RowsOk held st F.h) ?_)
        cases rowsOkB held st with
        | false => exact ev_neg (by simp) (ev_to (J true) (by simp))
        | true =>
          refine ev_pos rfl (Ev.bind (ev_spec_Calls ws ds ts time cs ord held st F.t F.c F.o) (ev_to (J _) ?_))
          rw [decide_eq_true h1]
          generalize cs.all (callB ts.length time) = a
          generalize decide (cs.length ≤ 40) = b
          generalize orderB cs ord = c
          generalize (List.range ts.length).all (thrV ts cs) = d
          cases a <;> cases b <;> cases c <;> cases d <;> rfl
    · refine ev_neg (by omega) (ev_to (J true) ?_)
      rw [decide_eq_false h1]
      simp
end Go.Proofs.YtopikhjcbcpiaaaGreat.Q
end
