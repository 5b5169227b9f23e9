/- Part 2 of the steps by which the law is shown: what each function of the program, of the reference and of the law computes. No condition. -/
import Derived.Test.YtopikhjcbcpiaaaDoorNum1
section
/- Numbers read from texts, what is drawn, and parts of a text joined again: plain facts. -/
namespace Go.Proofs.YtopikhjcbcpiaaaDoor.Q
open Go.RowKit Go.Proofs.YtopikhjcbcpiaaaDoorW.PrintWords Go.Proofs.YtopikhjcbcpiaaaDoorX Go.Proofs.YtopikhjcbcpiaaaDoor.S

theorem ev_Number_l (s : ByteArray) (hs : s.size ≤ 6) : ∀ (d i : Nat) (n : Int), i + d = s.size → 0 ≤ n → n < ((10 ^ i : Nat) : Int) →
    ∃ m b, Ev (fun k => impl_Number.l0 k s n (s.size : Int) (i : Int)) (m, b) ∧ Ev (fun k => spec_Number.l0 k s n (i : Int)) (m, b) ∧ -9223372036854775808 ≤ m ∧ m ≤ 9223372036854775807 ∧ (b = true → (bytesT (textD m)).toList = s.toList) := by
  intro d
  have hpow : ∀ i, i ≤ s.size → (10 ^ i : Nat) ≤ 1000000 := fun i hi => Nat.pow_le_pow_right (n := 10) (by omega) (show i ≤ 6 by omega)
  induction d with
  | zero =>
    intro i n hi h0 h1
    have hp := hpow i (by omega)
    have d1 := ev_impl_Digits n.natAbs n rfl (by omega) (by omega)
    have d2 := ev_spec_Digits n (by omega) (by omega)
    by_cases h : (bytesT (textD n)).toList = s.toList
    · refine ⟨n, true, Ev.step (f := fun k => (impl_Digits.f k n).bind fun t => if t.toList = s.toList then some (n, true) else some (0, false)) (fun k => ?_) (Ev.bind d1 (ev_pos h (Ev.now _))), Ev.step (f := fun k => (spec_Digits.f k n).bind fun t => if t.toList = s.toList then some (n, true) else some (0, false)) (fun k => ?_) (Ev.bind d2 (ev_pos h (Ev.now _))), by omega, by omega, fun _ => h⟩
      · simp only [impl_Number.l0]; rw [if_neg (by omega)]
      · simp only [spec_Number.l0]; rw [if_neg (by omega)]
    · refine ⟨0, false, Ev.step (f := fun k => (impl_Digits.f k n).bind fun t => if t.toList = s.toList then some (n, true) else some (0, false)) (fun k => ?_) (Ev.bind d1 (ev_neg h (Ev.now _))), Ev.step (f := fun k => (spec_Digits.f k n).bind fun t => if t.toList = s.toList then some (n, true) else some (0, false)) (fun k => ?_) (Ev.bind d2 (ev_neg h (Ev.now _))), by omega, by omega, fun hc => by cases hc⟩
      · simp only [impl_Number.l0]; rw [if_neg (by omega)]
      · simp only [spec_Number.l0]; rw [if_neg (by omega)]
  | succ d ih =>
    intro i n hi h0 h1
    have hp := hpow (i + 1) (by omega)
    have hpp : (10 ^ (i + 1) : Nat) = 10 * 10 ^ i := by rw [Nat.pow_succ, Nat.mul_comm]
    have hb := bt_range s (i : Int)
    have e1 : wrap64 ((i : Int) + 1) = ((i + 1 : Nat) : Int) := by rw [wrap_in (by omega) (by omega)]; omega
    by_cases c1 : bt s (i : Int) < 48
    · refine ⟨0, false, ev_succ (fun k => ?_), ev_succ (fun k => ?_), by omega, by omega, fun hc => by cases hc⟩
      · simp only [impl_Number.l0]; rw [if_pos (by omega), if_pos (by omega), if_pos (by omega), if_pos c1]
      · simp only [spec_Number.l0]; rw [if_pos (by omega), if_pos (by omega), if_pos c1]
    · by_cases c2 : bt s (i : Int) > 57
      · refine ⟨0, false, ev_succ (fun k => ?_), ev_succ (fun k => ?_), by omega, by omega, fun hc => by cases hc⟩
        · simp only [impl_Number.l0]; rw [if_pos (by omega), if_pos (by omega), if_pos (by omega), if_neg c1, if_pos c2]
        · simp only [spec_Number.l0]; rw [if_pos (by omega), if_pos (by omega), if_neg c1, if_pos c2]
      · obtain ⟨m, b, hA, hB, hC⟩ := ih (i + 1) (10 * n + (bt s (i : Int) - 48)) (by omega) (by omega) (by omega)
        have e2 : wrap64 (10 * n) = 10 * n := wrap_in (by omega) (by omega)
        refine ⟨m, b, Ev.step (fun k => ?_) hA, Ev.step (fun k => ?_) hB, hC⟩
        · simp only [impl_Number.l0]
          rw [if_pos (by omega), if_pos (by omega), if_pos (by omega), if_neg c1, if_neg c2, e1, e2, Int.emod_eq_of_lt (by omega) (by omega), wrap_in (by omega) (by omega)]
        · simp only [spec_Number.l0]
          rw [if_pos (by omega), if_pos (by omega), if_neg c1, if_neg c2, e1, e2, wrap_in (x := bt s (i : Int)) (by omega) (by omega), wrap_in (x := 10 * n + bt s (i : Int)) (by omega) (by omega), wrap_in (by omega) (by omega), Int.add_sub_assoc]
theorem ev_Number (s : ByteArray) : ∃ m b, Ev (fun k => impl_Number.f k s) (m, b) ∧ Ev (fun k => spec_Number.f k s) (m, b) ∧ -9223372036854775808 ≤ m ∧ m ≤ 9223372036854775807 ∧ (b = true → (bytesT (textD m)).toList = s.toList) := by
  have hz : s.toList = [] ↔ s.size = 0 := by
    rw [Lib.toList_data, ← data_length, List.length_eq_zero_iff]
  by_cases h0 : s.size = 0
  · refine ⟨0, false, ?_, ?_, by omega, by omega, fun hc => by cases hc⟩
    · unfold impl_Number.f
      exact ev_pos (hz.2 h0) (ev_succ fun k => by simp only [impl_Number.j0]; rw [if_pos trivial])
    · unfold spec_Number.f
      exact ev_pos (by omega) (ev_succ fun k => by simp only [spec_Number.j0]; rw [if_pos trivial])
  · by_cases h6 : (s.size : Int) > 6
    · refine ⟨0, false, ?_, ?_, by omega, by omega, fun hc => by cases hc⟩
      · unfold impl_Number.f
        exact ev_neg (fun hc => h0 (hz.1 hc)) (ev_succ fun k => by simp only [impl_Number.j0]; rw [if_pos (decide_eq_true h6)])
      · unfold spec_Number.f
        exact ev_neg (by omega) (ev_succ fun k => by simp only [spec_Number.j0]; rw [if_pos (decide_eq_true h6)])
    · obtain ⟨m, b, hA, hB, hC⟩ := ev_Number_l s (by omega) s.size 0 0 (by omega) (by omega) (by simp)
      refine ⟨m, b, ?_, ?_, hC⟩
      · unfold impl_Number.f
        refine ev_neg (fun hc => h0 (hz.1 hc)) (Ev.step (fun k => ?_) hA)
        simp only [impl_Number.j0]
        rw [if_neg (by rw [decide_eq_true_eq]; exact h6)]
        rfl
      · unfold spec_Number.f
        refine ev_neg (by omega) (Ev.step (fun k => ?_) hB)
        simp only [spec_Number.j0]
        rw [if_neg (by rw [decide_eq_true_eq]; exact h6)]
        rfl

theorem pick_mem (s : List Int) (p q : Int) (l : List Int) (h : 0 ≤ p) (hs : s.length ≤ 1048576) (h0 : 0 < l.length) (h1 : l.length ≤ 256) : ∃ v p' q', spec_l1PickInt.f s p q l = some (v, p', q') ∧ v ∈ l ∧ 0 ≤ p' := by
  obtain ⟨v, p', q', e, v0, v1, hp⟩ := below_ok s p q l.length h hs (by omega) (by omega)
  unfold spec_l1PickInt.f
  rw [e]
  refine ⟨rd l v, p', q', ?_, ?_, hp⟩
  · simp only [Option.bind_some]
    rw [if_pos v0, if_pos v1]
  · unfold rd
    rw [List.getD_eq_getElem?_getD, List.getElem?_eq_getElem (by omega)]
    exact List.getElem_mem _
theorem picks_mem (s : List Int) (p q : Int) (l : List ByteArray) (h : 0 ≤ p) (hs : s.length ≤ 1048576) (h0 : 0 < l.length) (h1 : l.length ≤ 256) : ∃ v p' q', spec_l1Pick.f s p q l = some (v, p', q') ∧ v ∈ l ∧ 0 ≤ p' := by
  obtain ⟨v, p', q', e, v0, v1, hp⟩ := below_ok s p q l.length h hs (by omega) (by omega)
  unfold spec_l1Pick.f
  rw [e]
  refine ⟨rdOf ByteArray.empty l v, p', q', ?_, ?_, hp⟩
  · simp only [Option.bind_some]
    rw [if_pos v0, if_pos v1]
  · unfold rdOf
    rw [List.getD_eq_getElem?_getD, List.getElem?_eq_getElem (by omega)]
    exact List.getElem_mem _
theorem ev_DrawDigits (l : List Int) (hl : l.length ≤ 1048576) : ∃ n, Ev (fun k => spec_DrawDigits.f k l) n ∧ -9223372036854775808 ≤ n ∧ n ≤ 9223372036854775807 := by
  obtain ⟨q, hq⟩ := ev_new l hl
  obtain ⟨v, p', q', e, hm, _⟩ := pick_mem l 0 q [0, 7, (-12), 100000, 9223372036854775807, (-9223372036854775808)] (by omega) hl (by simp) (by simp)
  refine ⟨v, ?_, ?_⟩
  · unfold spec_DrawDigits.f
    exact Ev.bind hq (ev_of fun k => by simp only [e, Option.bind_some])
  · simp only [List.mem_cons, List.not_mem_nil, or_false] at hm
    omega
theorem ev_DrawNumber (l : List Int) (hl : l.length ≤ 1048576) : ∃ s, Ev (fun k => spec_DrawNumber.f k l) s := by
  obtain ⟨q, hq⟩ := ev_new l hl
  unfold spec_DrawNumber.f
  obtain ⟨v, p', q', e, hm, _⟩ := picks_mem l 0 q [(⟨#[48]⟩ : ByteArray), (⟨#[55]⟩ : ByteArray), (⟨#[57, 57, 57, 57, 57, 57]⟩ : ByteArray), (⟨#[49, 48, 48, 48, 48, 48, 48]⟩ : ByteArray), (⟨#[48, 49]⟩ : ByteArray), (⟨#[]⟩ : ByteArray), (⟨#[45, 49]⟩ : ByteArray), (⟨#[120]⟩ : ByteArray), (⟨#[49, 50, 97]⟩ : ByteArray)] (by omega) hl (by simp) (by simp)
  exact ⟨v, Ev.bind hq (ev_of fun k => by simp only [e, Option.bind_some])⟩
theorem ev_DrawNumsText (l : List Int) (hl : l.length ≤ 1048576) : ∃ r, Ev (fun k => spec_DrawNumsText.f k l) r ∧ r.length ≤ 5 ∧ inI r := by
  obtain ⟨q, hq⟩ := ev_new l hl
  have key : ∀ (d i : Nat) (acc : List Int) (p q : Int), i + d = 5 → 0 ≤ p → acc.length = i → inI acc → ∃ r, Ev (fun k => spec_DrawNumsText.l0 k acc (i : Int) l p q) r ∧ r.length ≤ 5 ∧ inI r := by
    intro d
    induction d with
    | zero =>
      intro i acc p q hi hp ha hI
      obtain ⟨v, p', q', e, v0, v1, hp'⟩ := below_ok l p q 5 hp hl (by omega) (by omega)
      refine ⟨acc, ev_succ (fun k => ?_), by omega, hI⟩
      simp only [spec_DrawNumsText.l0]
      rw [e]
      simp only [Option.bind_some]
      rw [if_neg (by omega)]
    | succ d ih =>
      intro i acc p q hi hp ha hI
      obtain ⟨v, p', q', e, v0, v1, hp'⟩ := below_ok l p q 5 hp hl (by omega) (by omega)
      by_cases hv : (i : Int) < v
      · obtain ⟨u, p2, q2, e2, u0, u1, hp2⟩ := below_ok l p' q' 20 hp' hl (by omega) (by omega)
        obtain ⟨r, h1, h2, h3⟩ := ih (i + 1) (acc ++ [wrap64 (u - 3)]) p2 q2 (by omega) hp2 (by simp [ha]) (by
          intro x hx
          rcases List.mem_append.1 hx with h | h
          · exact hI x h
          · rw [List.mem_singleton] at h
            subst h
            rw [wrap_in (by omega) (by omega)]
            omega)
        refine ⟨r, Ev.step (fun k => ?_) h1, h2, h3⟩
        simp only [spec_DrawNumsText.l0]
        rw [e]
        simp only [Option.bind_some]
        rw [if_pos hv, e2]
        simp only [Option.bind_some]
        rw [if_pos (by omega), wrap_in (x := (i : Int) + 1) (by omega) (by omega)]
        rfl
      · refine ⟨acc, ev_succ (fun k => ?_), by omega, hI⟩
        simp only [spec_DrawNumsText.l0]
        rw [e]
        simp only [Option.bind_some]
        rw [if_neg hv]
  obtain ⟨r, h1, h2⟩ := key 5 0 [] 0 q (by omega) (by omega) rfl (fun x hx => by cases hx)
  refine ⟨r, ?_, h2⟩
  unfold spec_DrawNumsText.f
  exact Ev.bind hq h1
theorem ev_DrawSplit (l : List Int) (hl : l.length ≤ 1048576) : ∃ s a, Ev (fun k => spec_DrawSplit.f k l) (s, a) ∧ s.size ≤ 1048576 ∧ 0 ≤ a ∧ a ≤ 255 := by
  obtain ⟨q, hq⟩ := ev_new l hl
  unfold spec_DrawSplit.f
  obtain ⟨v, p', q', e, hm, hp'⟩ := picks_mem l 0 q [(⟨#[]⟩ : ByteArray), (⟨#[97]⟩ : ByteArray), (⟨#[97, 44, 98]⟩ : ByteArray), (⟨#[44]⟩ : ByteArray), (⟨#[97, 44, 44, 98, 44]⟩ : ByteArray), (⟨#[97, 47, 98, 44, 99, 47]⟩ : ByteArray)] (by omega) hl (by simp) (by simp)
  obtain ⟨u, p2, q2, e2, hu, _⟩ := pick_mem l p' q' [44, 47] hp' hl (by simp) (by simp)
  refine ⟨v, u % 256, Ev.bind hq (ev_of fun k => by simp only [e, e2, Option.bind_some]), ?_, by omega, by omega⟩
  simp only [List.mem_cons, List.not_mem_nil, or_false] at hm
  rcases hm with rfl | rfl | rfl | rfl | rfl | rfl <;> decide

/-- The parts with c between them. -/
def joinP (c : UInt8) : List (List UInt8) → List UInt8
  | [] => []
  | x :: r => r.foldl (fun b p => b ++ c :: p) x
theorem fold_pre (c : UInt8) : ∀ (r : List (List UInt8)) (p y : List UInt8), r.foldl (fun b p => b ++ c :: p) (p ++ y) = p ++ r.foldl (fun b p => b ++ c :: p) y
  | [], _, _ => rfl
  | t :: r, p, y => by
    rw [List.foldl_cons, List.foldl_cons, List.append_assoc]
    exact fold_pre c r p _
theorem fold_len (c : UInt8) : ∀ (r : List (List UInt8)) (y : List UInt8), y.length ≤ (r.foldl (fun b p => b ++ c :: p) y).length
  | [], _ => Nat.le_refl _
  | t :: r, y => by
    rw [List.foldl_cons]
    have := fold_len c r (y ++ c :: t)
    rw [List.length_append] at this
    omega
theorem cuts_ne (c : UInt8) : ∀ (l a : List UInt8), ∃ y r, cuts c a l = y :: r
  | [], a => ⟨a, [], rfl⟩
  | b :: l, a => by
    unfold cuts
    split
    · exact ⟨_, _, rfl⟩
    · exact cuts_ne c l _
theorem joinP_cuts (c : UInt8) : ∀ (l a : List UInt8), joinP c (cuts c a l) = a ++ l
  | [], a => by simp [cuts, joinP]
  | b :: l, a => by
    unfold cuts
    split
    · rename_i h
      subst h
      obtain ⟨y, r, e⟩ := cuts_ne b l []
      have ih := joinP_cuts b l []
      rw [e] at ih ⊢
      show r.foldl _ (a ++ b :: y) = _
      have : a ++ b :: y = (a ++ [b]) ++ y := by simp
      rw [this, fold_pre]
      have ih' : r.foldl (fun b_1 p => b_1 ++ b :: p) y = l := by simpa [joinP] using ih
      rw [ih']
      simp
    · rw [joinP_cuts c l (a ++ [b])]
      simp
theorem joinP_snoc (c : UInt8) (xs : List (List UInt8)) (t : List UInt8) (h : xs ≠ []) : joinP c (xs ++ [t]) = joinP c xs ++ c :: t := by
  cases xs with
  | nil => exact absurd rfl h
  | cons x r => simp [joinP, List.foldl_append]
theorem joinP_take (c : UInt8) (xs : List (List UInt8)) (i : Nat) : (joinP c (xs.take i)).length ≤ (joinP c xs).length := by
  cases i with
  | zero => simp [joinP]
  | succ i =>
    cases xs with
    | nil => simp [joinP]
    | cons x r =>
      rw [List.take_succ_cons]
      simp only [joinP]
      conv => rhs; rw [← List.take_append_drop i r, List.foldl_append]
      exact fold_len c _ _
theorem bytesB_size (l : List UInt8) : (bytesB l).size = l.length := by simp [bytesB, ByteArray.size]
theorem bytesB_append (a b : List UInt8) : bytesB a ++ bytesB b = bytesB (a ++ b) := bytesT_append a b
theorem strOf_bytesB (a : Int) : strOfNums [a] = bytesB [UInt8.ofNat a.toNat] := by
  rw [← strOfNums_data1, bytesB_data]
theorem ev_back (s : ByteArray) (a : Int) (h0 : 0 ≤ a) (h1 : a ≤ 255) (hs : s.size ≤ 1048576) : Ev (fun k => laws_FnNumbers.l0 k s a (pieces s a) ⟨#[]⟩ 0) true := by
  have hl := data_length s
  have hpl := pieces_length s a
  have hlen : (pieces s a).length = (cuts (UInt8.ofNat a.toNat) [] s.data.toList).length := by simp [pieces]
  have hj : joinP (UInt8.ofNat a.toNat) (cuts (UInt8.ofNat a.toNat) [] s.data.toList) = s.data.toList := by rw [joinP_cuts]; rfl
  generalize hcs : cuts (UInt8.ofNat a.toNat) [] s.data.toList = cs at hlen hj
  have hP : pieces s a = cs.map bytesB := by unfold pieces; rw [hcs]
  have hbd : ∀ i, (joinP (UInt8.ofNat a.toNat) (cs.take i)).length ≤ 1048576 := fun i => by
    have := joinP_take (UInt8.ofNat a.toNat) cs i
    rw [hj] at this
    omega
  have key := ev_down (g := fun k i => laws_FnNumbers.l0 k s a (pieces s a) (bytesB (joinP (UInt8.ofNat a.toNat) (cs.take i.toNat))) i) (R := fun _ => true) (n := (pieces s a).length) (fun i hi h => ?_) 0 (by omega)
  · simpa [joinP, bytesB] using key
  · simp only [Int.toNat_natCast] at h ⊢
    by_cases hlt : i < (pieces s a).length
    · have hci : i < cs.length := by omega
      have er : rdOf ByteArray.empty (pieces s a) (i : Int) = bytesB cs[i] := by
        simp [rdOf, hP, List.getD_eq_getElem?_getD, hci]
      have et : cs.take (i + 1) = cs.take i ++ [cs[i]] := List.take_succ_eq_append_getElem hci
      have hb1 := hbd i
      have hb2 := hbd (i + 1)
      have e1 : wrap64 ((i : Int) + 1) = ((i + 1 : Nat) : Int) := by rw [wrap_in (by omega) (by omega)]; omega
      by_cases hi0 : i = 0
      · subst hi0
        refine Ev.step (fun k => ?_) (h hlt)
        simp only [laws_FnNumbers.l0]
        have e2 : joinP (UInt8.ofNat a.toNat) (cs.take (0 + 1)) = cs[0] := by rw [et]; simp [joinP]
        have e3 : bytesB (joinP (UInt8.ofNat a.toNat) (cs.take 0)) ++ bytesB cs[0] = bytesB cs[0] := by rw [bytesB_append]; simp [joinP]
        rw [e2] at hb2
        rw [if_pos (by omega), if_neg (by omega), if_pos (by omega), er, if_pos (by rw [bytesB_size, bytesB_size]; omega), e1, e3, e2]
      · refine Ev.step (fun k => ?_) (h hlt)
        have hne : cs.take i ≠ [] := by
          intro hc
          have := congrArg List.length hc
          rw [List.length_take, List.length_nil] at this
          omega
        have e2 : joinP (UInt8.ofNat a.toNat) (cs.take (i + 1)) = joinP (UInt8.ofNat a.toNat) (cs.take i) ++ UInt8.ofNat a.toNat :: cs[i] := by rw [et, joinP_snoc _ _ _ hne]
        have e3 : (bytesB (joinP (UInt8.ofNat a.toNat) (cs.take i)) ++ bytesB [UInt8.ofNat a.toNat]) ++ bytesB cs[i] = bytesB (joinP (UInt8.ofNat a.toNat) (cs.take (i + 1))) := by rw [bytesB_append, bytesB_append, e2]; simp
        rw [e2, List.length_append, List.length_cons] at hb2
        simp only [laws_FnNumbers.l0]
        rw [if_pos (by omega), if_pos (by omega), Option.bind_some, strOf_bytesB, if_pos (by rw [bytesB_size, bytesB_size]; simp; omega), if_pos (by omega), er, if_pos (by rw [bytesB_append, bytesB_size, bytesB_size, List.length_append]; simp; omega), e1, e3]
    · obtain rfl : i = (pieces s a).length := by omega
      have ee : bytesB (joinP (UInt8.ofNat a.toNat) (cs.take (pieces s a).length)) = s := by
        rw [List.take_of_length_le (by omega), hj, bytesB_data]
      refine Ev.step (f := fun k => (spec_Split.f k s a).bind fun t => some (((pieces s a).length : Int) == (t.length : Int))) (fun k => ?_) (Ev.bind (ev_spec_Split s a h0 h1 hs) (ev_of fun k => by simp))
      simp only [laws_FnNumbers.l0]
      rw [if_neg (by omega), ee, if_pos rfl]
end Go.Proofs.YtopikhjcbcpiaaaDoor.Q
end
section
/- The law of numbers and parts: what is drawn ends; digits are read back; parts joined again are the text. -/
namespace Go.Proofs.YtopikhjcbcpiaaaDoor.Pure
open Go.RowKit Go.Proofs.YtopikhjcbcpiaaaDoor.Q Go.Proofs.YtopikhjcbcpiaaaDoorW.PrintWords Go.Proofs.YtopikhjcbcpiaaaDoorX
theorem FnNumbers : laws_FnNumbers.Pure := by
  intro l hm _ _
  suffices h : Ev (fun k => laws_FnNumbers.f k l) true by
    obtain ⟨n, hn⟩ := h
    exact ⟨n, hn n (Nat.le_refl _)⟩
  unfold laws_FnNumbers.f
  unfold laws_big.f
  simp only [Option.bind_some]
  by_cases hbig : (l.length : Int) > 1048576
  · exact ev_pos (decide_eq_true hbig) (Ev.now _)
  · refine ev_neg (by rw [decide_eq_true_eq]; exact hbig) ?_
    have hl : l.length ≤ 1048576 := by omega
    obtain ⟨d, hd, d0, d1⟩ := ev_DrawDigits l hl
    obtain ⟨s, hs⟩ := ev_DrawNumber l hl
    obtain ⟨m, b, hA, hB, m0, m1, hC⟩ := ev_Number s
    obtain ⟨r, hr, hr5, hrI⟩ := ev_DrawNumsText l hl
    obtain ⟨t, a, ht, ht1, a0, a1⟩ := ev_DrawSplit l hl
    have i1 := ev_impl_Digits d.natAbs d rfl (by omega) d1
    have i2 := ev_spec_Digits d d0 d1
    have j := ev_back t a a0 a1 ht1
    have jj : Ev (fun k => laws_FnNumbers.j0 k t a (pieces t a) false) true := Ev.step (fun k => by simp only [laws_FnNumbers.j0]; rw [if_neg (by simp)]) j
    have n1 := ev_impl_NumsText r (by omega) hrI
    have n2 := ev_spec_NumsText r (by omega) hrI
    refine Ev.bind hd (Ev.bind hs (Ev.bind hA (Ev.bind hB (Ev.bind hr (Ev.bind ht ?_)))))
    simp only [ev_impl_Split t a ht1, Option.bind_some]
    refine Ev.bind i1 (Ev.bind i2 (ev_pos rfl (ev_pos trivial (ev_neg (by simp) ?_))))
    cases b with
    | true =>
      refine ev_pos rfl (Ev.bind (ev_impl_Digits m.natAbs m rfl (by omega) m1) (ev_pos (hC rfl) (Ev.bind n1 (Ev.bind n2 ?_))))
      simp only [bne_self_eq_false]
      exact jj
    | false =>
      refine ev_neg (by simp) (Ev.bind n1 (Ev.bind n2 ?_))
      simp only [bne_self_eq_false]
      exact jj
end Go.Proofs.YtopikhjcbcpiaaaDoor.Pure
end
