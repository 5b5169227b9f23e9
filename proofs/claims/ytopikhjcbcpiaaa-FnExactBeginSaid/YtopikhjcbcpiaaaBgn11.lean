/- Part 11 of the steps by which the law is shown: what each function of the program, of the reference and of the law computes. No condition. -/
import Derived.Test.YtopikhjcbcpiaaaBgn0
import Derived.Test.YtopikhjcbcpiaaaBgn2
import Derived.Test.YtopikhjcbcpiaaaBgn3
import Derived.Test.YtopikhjcbcpiaaaBgn6
import Derived.Test.YtopikhjcbcpiaaaBgn7
import Derived.Test.YtopikhjcbcpiaaaBgn9
section
/- What is marked is held: words, entries, tries, a memory. -/
namespace Go.Proofs.Ytopikhjcbcpiaaa.Q
set_option linter.unusedSimpArgs false
open Go.RowKit Go.Proofs.YtopikhjcbcpiaaaW.PrintWords Go.Proofs.YtopikhjcbcpiaaaX
def mkW (m : Int) : Nat → List S141
  | 0 => []
  | n + 1 => ⟨m, m + 1, m + 2⟩ :: mkW (m + 3) n
def mkE (m : Int) : Nat → List S166
  | 0 => []
  | n + 1 => ⟨m, m + 1, m + 2⟩ :: mkE (m + 3) n
theorem mkW_length (m : Int) (n : Nat) : (mkW m n).length = n := by
  induction n generalizing m with
  | zero => rfl
  | succ n ih => simp [mkW, ih]
theorem mkE_length (m : Int) (n : Nat) : (mkE m n).length = n := by
  induction n generalizing m with
  | zero => rfl
  | succ n ih => simp [mkE, ih]
theorem at141 (p : List S141) (x : S141) (r : List S141) : rd_T141 (p ++ x :: r) (p.length : Int) = x := by
  show (p ++ x :: r).getD (p.length : Int).toNat z141 = x
  simp [List.getD_eq_getElem?_getD]
theorem at166 (p : List S166) (x : S166) (r : List S166) : rd_T166 (p ++ x :: r) (p.length : Int) = x := by
  show (p ++ x :: r).getD (p.length : Int).toNat z166 = x
  simp [List.getD_eq_getElem?_getD]
theorem at145 (p : List S145) (x : S145) (r : List S145) : rd_T145 (p ++ x :: r) (p.length : Int) = x := by
  show (p ++ x :: r).getD (p.length : Int).toNat z145 = x
  simp [List.getD_eq_getElem?_getD]
theorem set_at {α : Type} (p : List α) (x y : α) (r : List α) : (p ++ x :: r).set (p.length : Int).toNat y = p ++ y :: r := by simp
theorem next_at {α : Type} (p : List α) (x : α) (h : p.length ≤ 1048576) : wrap64 ((p.length : Int) + 1) = (((p ++ [x]).length : Nat) : Int) := by
  rw [wrap_in (by omega) (by omega)]; simp
theorem three {m : Int} (h0 : 0 ≤ m) (h1 : m ≤ 1125899906842624) : wrap64 (m + 1) = m + 1 ∧ wrap64 (m + 1 + 1) = m + 2 ∧ wrap64 (m + 2 + 1) = m + 3 := by
  refine ⟨wrap_in (by omega) (by omega), ?_, ?_⟩ <;> (rw [wrap_in (by omega) (by omega)]; omega)
theorem ev_markW (l : List S141) (m : Int) (h0 : 0 ≤ m) (h1 : m + 3 * (l.length : Int) ≤ 1125899906842000) (hl : l.length ≤ 1048576) : Ev (fun k => laws_markWordS.f k l m) (m + 3 * (l.length : Int), mkW m l.length) := by
  have key : ∀ (r p : List S141) (m : Int), 0 ≤ m → m + 3 * (r.length : Int) ≤ 1125899906842000 → p.length + r.length ≤ 1048576 → Ev (fun k => laws_markWordS.l0 k (p ++ r) m (p.length : Int)) (m + 3 * (r.length : Int), p ++ mkW m r.length) := by
    intro r
    induction r with
    | nil =>
      intro p m _ _ _
      refine ev_succ (fun k => ?_)
      simp only [laws_markWordS.l0]; rw [if_neg (by simp)]; simp [mkW]
    | cons x r ih =>
      intro p m hm0 hm1 hlen
      simp only [List.length_cons] at hm1 hlen
      have h := ih (p ++ [⟨m, m + 1, m + 2⟩]) (m + 3) (by omega) (by omega) (by simp; omega)
      refine ev_to (Ev.step (fun k => ?_) h) (by simp [mkW]; omega)
      obtain ⟨e1, e2, e3⟩ := three hm0 (show m ≤ 1125899906842624 by omega)
      simp only [laws_markWordS.l0, Option.bind_some]
      first | rw [if_pos (by simp <;> omega), if_pos (by omega)] | rw [if_pos (by simp <;> omega)]
      simp only [set_at, at141, e1, e2, e3]
      rw [next_at p (⟨m, m + 1, m + 2⟩ : S141) (by omega)]
      simp
  simpa [laws_markWordS.f] using key l [] m h0 h1 (by simpa using hl)
theorem ev_markE (l : List S166) (m : Int) (h0 : 0 ≤ m) (h1 : m + 3 * (l.length : Int) ≤ 1125899906842000) (hl : l.length ≤ 1048576) : Ev (fun k => laws_markEntryS.f k l m) (m + 3 * (l.length : Int), mkE m l.length) := by
  have key : ∀ (r p : List S166) (m : Int), 0 ≤ m → m + 3 * (r.length : Int) ≤ 1125899906842000 → p.length + r.length ≤ 1048576 → Ev (fun k => laws_markEntryS.l0 k (p ++ r) m (p.length : Int)) (m + 3 * (r.length : Int), p ++ mkE m r.length) := by
    intro r
    induction r with
    | nil =>
      intro p m _ _ _
      refine ev_succ (fun k => ?_)
      simp only [laws_markEntryS.l0]; rw [if_neg (by simp)]; simp [mkE]
    | cons x r ih =>
      intro p m hm0 hm1 hlen
      simp only [List.length_cons] at hm1 hlen
      have h := ih (p ++ [⟨m, m + 1, m + 2⟩]) (m + 3) (by omega) (by omega) (by simp; omega)
      refine ev_to (Ev.step (fun k => ?_) h) (by simp [mkE]; omega)
      obtain ⟨e1, e2, e3⟩ := three hm0 (show m ≤ 1125899906842624 by omega)
      simp only [laws_markEntryS.l0, Option.bind_some]
      first | rw [if_pos (by simp <;> omega), if_pos (by omega)] | rw [if_pos (by simp <;> omega)]
      simp only [set_at, at166, e1, e2, e3]
      rw [next_at p (⟨m, m + 1, m + 2⟩ : S166) (by omega)]
      simp
  simpa [laws_markEntryS.f] using key l [] m h0 h1 (by simpa using hl)
theorem ev_heldW (n : Nat) (m : Int) (h0 : 0 ≤ m) (h1 : m + 3 * (n : Int) ≤ 1125899906842000) (hl : n ≤ 1048576) : Ev (fun k => laws_heldWordS.f k (mkW m n) m) (m + 3 * (n : Int)) := by
  have key : ∀ (n : Nat) (p : List S141) (m : Int), 0 ≤ m → m + 3 * (n : Int) ≤ 1125899906842000 → p.length + n ≤ 1048576 → Ev (fun k => laws_heldWordS.l0 k (p ++ mkW m n) m (p.length : Int)) (m + 3 * (n : Int)) := by
    intro n
    induction n with
    | zero =>
      intro p m _ _ _
      refine ev_succ (fun k => ?_)
      simp only [laws_heldWordS.l0]; rw [if_neg (by simp [mkW])]; simp
    | succ n ih =>
      intro p m hm0 hm1 hlen
      have h := ih (p ++ [⟨m, m + 1, m + 2⟩]) (m + 3) (by omega) (by omega) (by simp; omega)
      refine ev_to (Ev.step (fun k => ?_) h) (by omega)
      obtain ⟨e1, e2, e3⟩ := three hm0 (show m ≤ 1125899906842624 by omega)
      simp only [laws_heldWordS.l0, mkW]
      first | rw [if_pos (by simp <;> omega), if_pos (by omega)] | rw [if_pos (by simp <;> omega)]
      simp only [at141, e1, e2, e3, if_true]
      rw [next_at p (⟨m, m + 1, m + 2⟩ : S141) (by omega)]
      first | (simp; done) | (simp; intro h'; exfalso; omega)
  simpa [laws_heldWordS.f] using key n [] m h0 h1 (by simpa using hl)
theorem ev_heldE (n : Nat) (m : Int) (h0 : 0 ≤ m) (h1 : m + 3 * (n : Int) ≤ 1125899906842000) (hl : n ≤ 1048576) : Ev (fun k => laws_heldEntryS.f k (mkE m n) m) (m + 3 * (n : Int)) := by
  have key : ∀ (n : Nat) (p : List S166) (m : Int), 0 ≤ m → m + 3 * (n : Int) ≤ 1125899906842000 → p.length + n ≤ 1048576 → Ev (fun k => laws_heldEntryS.l0 k (p ++ mkE m n) m (p.length : Int)) (m + 3 * (n : Int)) := by
    intro n
    induction n with
    | zero =>
      intro p m _ _ _
      refine ev_succ (fun k => ?_)
      simp only [laws_heldEntryS.l0]; rw [if_neg (by simp [mkE])]; simp
    | succ n ih =>
      intro p m hm0 hm1 hlen
      have h := ih (p ++ [⟨m, m + 1, m + 2⟩]) (m + 3) (by omega) (by omega) (by simp; omega)
      refine ev_to (Ev.step (fun k => ?_) h) (by omega)
      obtain ⟨e1, e2, e3⟩ := three hm0 (show m ≤ 1125899906842624 by omega)
      simp only [laws_heldEntryS.l0, mkE]
      first | rw [if_pos (by simp <;> omega), if_pos (by omega)] | rw [if_pos (by simp <;> omega)]
      simp only [at166, e1, e2, e3, if_true]
      rw [next_at p (⟨m, m + 1, m + 2⟩ : S166) (by omega)]
      first | (simp; done) | (simp; intro h'; exfalso; omega)
  simpa [laws_heldEntryS.f] using key n [] m h0 h1 (by simpa using hl)
def mk1 (m : Int) (x : S145) : S145 := ⟨m, m + 1, mkE (m + 2) x.f2.length, ⟨m + 2 + 3 * (x.f2.length : Int), marks (m + 3 + 3 * (x.f2.length : Int)) 0 x.f3.f1.length⟩⟩
def nx1 (m : Int) (x : S145) : Int := m + 3 + 3 * (x.f2.length : Int) + (x.f3.f1.length : Int)
def mkD : Int → List S145 → List S145
  | _, [] => []
  | m, x :: r => mk1 m x :: mkD (nx1 m x) r
def nxD : Int → List S145 → Int
  | m, [] => m
  | m, x :: r => nxD (nx1 m x) r
theorem mkD_length (l : List S145) (m : Int) : (mkD m l).length = l.length := by
  induction l generalizing m with
  | nil => rfl
  | cons x r ih => simp [mkD, ih]
theorem nx1_bd {m : Int} {x : S145} (h0 : 0 ≤ m) (hx : fitE x) : 0 ≤ nx1 m x ∧ nx1 m x ≤ m + 8388608 := by
  unfold nx1
  have := hx.1; have := hx.2
  omega
theorem nxD_pos (l : List S145) (m : Int) (h0 : 0 ≤ m) : 0 ≤ nxD m l := by
  induction l generalizing m with
  | nil => exact h0
  | cons x r ih => exact ih _ (by unfold nx1; omega)
theorem ev_markD (l : List S145) (m : Int) (h0 : 0 ≤ m) (h1 : m ≤ 4194304) (hl : l.length ≤ 1048576) (hf : ∀ x ∈ l, fitE x) : Ev (fun k => laws_markDescSX.f k l m) (nxD m l, mkD m l) := by
  have key : ∀ (r p : List S145) (m : Int), 0 ≤ m → m + 8388608 * (r.length : Int) ≤ 9007199254740992 / 8 → p.length + r.length ≤ 1048576 → (∀ x ∈ r, fitE x) → Ev (fun k => laws_markDescSX.l0 k (p ++ r) m (p.length : Int)) (nxD m r, p ++ mkD m r) := by
    intro r
    induction r with
    | nil =>
      intro p m _ _ _ _
      refine ev_succ (fun k => ?_)
      simp only [laws_markDescSX.l0]; rw [if_neg (by simp)]; simp [mkD, nxD]
    | cons x r ih =>
      intro p m hm0 hm1 hlen hfit
      simp only [List.length_cons] at hm1 hlen
      have hx : fitE x := hfit x List.mem_cons_self
      have hb := nx1_bd hm0 hx
      have h := ih (p ++ [mk1 m x]) (nx1 m x) hb.1 (by omega) (by simp; omega) (fun y hy => hfit y (List.mem_cons_of_mem _ hy))
      have hx1 := hx.1
      have hx2 := hx.2
      obtain ⟨e1, e2, e3⟩ := three hm0 (show m ≤ 1125899906842624 by omega)
      have a2 := ev_markE x.f2 (m + 2) (by omega) (by omega) hx.1
      have a4 := ev_markIntS x.f3.f1 (m + 3 + 3 * (x.f2.length : Int)) (by omega) (by omega) hx.2
      have e4 : wrap64 (m + 2 + 3 * (x.f2.length : Int) + 1) = m + 3 + 3 * (x.f2.length : Int) := by rw [wrap_in (by omega) (by omega)]; omega
      have hg : (nxD m (x :: r), p ++ mkD m (x :: r)) = (nxD (nx1 m x) r, p ++ [mk1 m x] ++ mkD (nx1 m x) r) := by simp [mkD, nxD]
      rw [hg]
      refine (Ev.step (f := fun k => (laws_markEntryS.f k x.f2 (m + 2)).bind fun b2 => (laws_markIntS.f k x.f3.f1 (wrap64 (b2.1 + 1))).bind fun b4 => laws_markDescSX.l0 k (p ++ (⟨m, m + 1, b2.2, ⟨b2.1, b4.2⟩⟩ : S145) :: r) b4.1 (((p ++ [x]).length : Nat) : Int)) (fun k => ?_) (Ev.bind a2 ?_))
      · simp only [laws_markDescSX.l0]
        first | rw [if_pos (by simp <;> omega), if_pos (by omega)] | rw [if_pos (by simp <;> omega)]
        simp only [set_at, at145, e1, e2]
        rw [next_at p x (by omega)]
      · simp only [e4]
        refine Ev.bind a4 ?_
        have e5 : ((p ++ [x]).length : Nat) = (p ++ [mk1 m x]).length := by simp
        have e6 : m + 3 + 3 * (x.f2.length : Int) + (x.f3.f1.length : Int) = nx1 m x := rfl
        simp only [e5, e6]
        have e7 : p ++ (⟨m, m + 1, mkE (m + 2) x.f2.length, ⟨m + 2 + 3 * (x.f2.length : Int), marks (m + 3 + 3 * (x.f2.length : Int)) 0 x.f3.f1.length⟩⟩ : S145) :: r = p ++ [mk1 m x] ++ r := by simp [mk1]
        rw [e7]
        exact ev_to h (by simp)
  simpa [laws_markDescSX.f] using key l [] m h0 (by omega) (by simpa using hl) hf
theorem ev_heldD (l : List S145) (m : Int) (h0 : 0 ≤ m) (h1 : m ≤ 4194304) (hl : l.length ≤ 1048576) (hf : ∀ x ∈ l, fitE x) : Ev (fun k => laws_heldDescS.f k (mkD m l) m) (nxD m l) := by
  have key : ∀ (r p : List S145) (m : Int), 0 ≤ m → m + 8388608 * (r.length : Int) ≤ 9007199254740992 / 8 → p.length + r.length ≤ 1048576 → (∀ x ∈ r, fitE x) → Ev (fun k => laws_heldDescS.l0 k (p ++ mkD m r) m (p.length : Int)) (nxD m r) := by
    intro r
    induction r with
    | nil =>
      intro p m _ _ _ _
      refine ev_succ (fun k => ?_)
      simp only [laws_heldDescS.l0]; rw [if_neg (by simp [mkD])]; simp [nxD]
    | cons x r ih =>
      intro p m hm0 hm1 hlen hfit
      simp only [List.length_cons] at hm1 hlen
      have hx : fitE x := hfit x List.mem_cons_self
      have hb := nx1_bd hm0 hx
      have h := ih (p ++ [mk1 m x]) (nx1 m x) hb.1 (by omega) (by simp; omega) (fun y hy => hfit y (List.mem_cons_of_mem _ hy))
      have hx1 := hx.1
      have hx2 := hx.2
      obtain ⟨e1, e2, e3⟩ := three hm0 (show m ≤ 1125899906842624 by omega)
      have a2 := ev_heldE x.f2.length (m + 2) (by omega) (by omega) hx.1
      have a4 := ev_heldIntS (m + 3 + 3 * (x.f2.length : Int)) x.f3.f1.length (by omega) (by omega) hx.2
      have e4 : wrap64 (m + 2 + 3 * (x.f2.length : Int) + 1) = m + 3 + 3 * (x.f2.length : Int) := by rw [wrap_in (by omega) (by omega)]; omega
      refine Ev.step (f := fun k => (laws_heldEntryS.f k (mkE (m + 2) x.f2.length) (m + 2)).bind fun t => if t < 0 then some (-1) else if m + 2 + 3 * (x.f2.length : Int) = t then ((laws_heldIntS.f k (marks (m + 3 + 3 * (x.f2.length : Int)) 0 x.f3.f1.length) (wrap64 (t + 1))).bind fun t2 => if t2 < 0 then some (-1) else laws_heldDescS.l0 k (p ++ mkD m (x :: r)) t2 (((p ++ [x]).length : Nat) : Int)) else some (-1)) (fun k => ?_) (Ev.bind a2 (ev_neg (by omega) (ev_pos rfl ?_)))
      · simp only [laws_heldDescS.l0]
        first | rw [if_pos (by simp [mkD] <;> omega), if_pos (by omega)] | rw [if_pos (by simp [mkD] <;> omega)]
        have e0 : rd_T145 (p ++ mkD m (x :: r)) (p.length : Int) = mk1 m x := at145 p _ _
        simp only [e0]
        simp only [mk1, e1, e2, if_true]
        rw [next_at p x (by omega)]
        rfl
      · simp only [e4]
        refine Ev.bind a4 (ev_neg (by omega) ?_)
        have e5 : ((p ++ [x]).length : Nat) = (p ++ [mk1 m x]).length := by simp
        have e6 : m + 3 + 3 * (x.f2.length : Int) + (x.f3.f1.length : Int) = nx1 m x := rfl
        have e7 : p ++ mkD m (x :: r) = p ++ [mk1 m x] ++ mkD (nx1 m x) r := by simp [mkD]
        simp only [e5, e6, e7]
        exact h
  simpa [laws_heldDescS.f] using key l [] m h0 (by omega) (by simpa using hl) hf
theorem ev_markMem (ws : List S141) (ds : List S145) (hw : ws.length ≤ 1048576) (hd : ds.length ≤ 1048576) (hf : ∀ x ∈ ds, fitE x) :
    Ev (fun k => laws_markMem.f k ws ds 1) (nxD (1 + 3 * (ws.length : Int)) ds, mkW 1 ws.length, mkD (1 + 3 * (ws.length : Int)) ds) := by
  unfold laws_markMem.f
  refine Ev.bind (ev_markW ws 1 (by omega) (by omega) hw) (Ev.bind (ev_markD ds _ (by omega) (by omega) hd hf) (Ev.now _))
theorem ev_heldMem (ws : List S141) (ds : List S145) (hw : ws.length ≤ 1048576) (hd : ds.length ≤ 1048576) (hf : ∀ x ∈ ds, fitE x) :
    Ev (fun k => laws_heldMem.f k (mkW 1 ws.length) (mkD (1 + 3 * (ws.length : Int)) ds) 1) (nxD (1 + 3 * (ws.length : Int)) ds) := by
  unfold laws_heldMem.f
  have := nxD_pos ds (1 + 3 * (ws.length : Int)) (by omega)
  exact Ev.bind (ev_heldW ws.length 1 (by omega) (by omega) hw) (ev_neg (by omega) (Ev.bind (ev_heldD ds _ (by omega) (by omega) hd hf) (ev_neg (by omega) (Ev.now _))))
theorem ev_eqMem (ws : List S141) (ds : List S145) (hw : ws.length ≤ 1048576) (hd : ds.length ≤ 1048576) (hf : ∀ x ∈ ds, fitE x) : Ev (fun k => laws_eqMem.f k ws ds ws ds) true := by
  unfold laws_eqMem.f
  exact Ev.bind (ev_eqWordS ws hw) (ev_pos rfl (Ev.bind (ev_eqDescS ds hd hf) (ev_pos rfl (Ev.now _))))
end Go.Proofs.Ytopikhjcbcpiaaa.Q
end
namespace Go.Proofs.Ytopikhjcbcpiaaa.Q
open Go.RowKit Go.Proofs.YtopikhjcbcpiaaaW.PrintWords Go.Proofs.YtopikhjcbcpiaaaW.PrintLast Go.Proofs.YtopikhjcbcpiaaaW.PrintMore
attribute [local go_sem] max2_int min2_int max_two min_two max_three min_three max_four min_four   -- for this text's walks alone
set_option linter.unusedVariables false
set_option linter.unusedSimpArgs false
mutual
def impl_MemOk.j0 : Nat → Bool → List (S141) → List (S145) → Option (Bool)
 | 0, _, _, _ => none
 | k + 1, x23, x1111000, x1111001 => if x23 = true then (some false) else (impl_MemOk.l0 k x1111000 (x1111000.length : Int) 0 x1111000 x1111001)
def impl_MemOk.l0 : Nat → List (S141) → Int → Int → List (S141) → List (S145) → Option (Bool)
 | 0, _, _, _, _, _ => none
 | k + 1, x25, x26, x27, x1111000, x1111001 => if x27 < x26 then (if 0 ≤ x27 then (if x27 < (x25.length : Int) then ((impl_WordOk.f ((rd_T141 x25 x27).f0) ((rd_T141 x25 x27).f1) ((rd_T141 x25 x27).f2) (x1111001.length : Int)).bind fun t1115 => (if t1115 = true then (if ((rd_T141 x25 x27).f1) = 0 then (impl_MemOk.l0 k x25 x26 (wrap64 (x27 + 1)) x1111000 x1111001) else (if 0 ≤ (wrap64 (((rd_T141 x25 x27).f1) - 1)) then (if (wrap64 (((rd_T141 x25 x27).f1) - 1)) < (x1111001.length : Int) then ((impl_Entries.f k ((rd_T145 x1111001 (wrap64 (((rd_T141 x25 x27).f1) - 1))).f0) ((rd_T145 x1111001 (wrap64 (((rd_T141 x25 x27).f1) - 1))).f1) ((rd_T145 x1111001 (wrap64 (((rd_T141 x25 x27).f1) - 1))).f2) ((rd_T145 x1111001 (wrap64 (((rd_T141 x25 x27).f1) - 1))).f3.f0) ((rd_T145 x1111001 (wrap64 (((rd_T141 x25 x27).f1) - 1))).f3.f1) x27).bind fun bt1118 => (if bt1118.2.2.2 = true then (if ((rd_T145 x1111001 (wrap64 (((rd_T141 x25 x27).f1) - 1))).f0) = ((rd_T141 x25 x27).f2) then (impl_MemOk.l0 k x25 x26 (wrap64 (x27 + 1)) x1111000 x1111001) else (some false)) else (some false))) else (none)) else (none))) else (some false))) else (none)) else (none)) else (some true)
end
def impl_MemOk.f (k : Nat) (l0_0 : List (S141)) (l0_1 : List (S145)) : Option (Bool) := if (l0_0.length : Int) = 20 then ((impl_from.f (l0_1.length : Int) 1 4).bind fun t1111 => (if t1111 = true then ((impl_MemOk_1_any.f k l0_1).bind fun t1112 => (impl_MemOk.j0 k t1112 l0_0 l0_1)) else (impl_MemOk.j0 k true l0_0 l0_1))) else (impl_MemOk.j0 k true l0_0 l0_1)
set_option maxHeartbeats 8000000 in
set_option maxRecDepth 100000 in
theorem impl_MemOk.calls (k : Nat) (A0_0 : Option Addr) (c0_0 : Nat) (l0_0 : List (S141)) (A0_1 : Option Addr) (c0_1 : Nat) (l0_1 : List (S145)) (r : Bool) (w : World) (hr0_0 : Kd.C k141 w A0_0 l0_0.length l0_0) (hc0_0 : l0_0.length ≤ c0_0) (hr0_1 : Kd.C k145 w A0_1 l0_1.length l0_1) (hc0_1 : l0_1.length ≤ c0_1) (h : impl_MemOk.f k l0_0 l0_1 = some r) :
  Calls Try.prog 130 #[.agg #[.slice A0_0 l0_0.length c0_0, .slice A0_1 l0_1.length c0_1]] w fun e w' => e = .returned (.bool r) ∧ Below w.heap.size w w' := by
 have hu88 := Try.underlying88
 have hu141 := Try.underlying141
 have hu145 := Try.underlying145
 have hu166 := Try.underlying166
 have HR0_0 := Aside0.mk hr0_0
 have HC0_0 := Aside0.mk hc0_0
 clear hr0_0 hc0_0
 have HR0_1 := Aside0.mk hr0_1
 have HC0_1 := Aside0.mk hc0_1
 clear hr0_1 hc0_1
 have HB := Aside0.mk (Below.refl w.heap.size w)
 have H := h
 clear h
 unfold impl_MemOk.f at H
 have HC2 := Aside0.mk H
 clear H
 go_enter Try.func130, Try.ntmps130
 go_upto_region 1 with (first | ((with_reducible refine gq 1 rfl ?_); (try (refine gate_guard (by rfl) ?_; dsimp only)); refine bx0 HB (N := 1) (t := 88) ?_; clear HB; intro gb1110 w3 BK1110 GE1110 HB))
 (try simp only [Act.put, sA, sB, sC])
 go_cut [23] (fun v23 wc => ∃ (kq : Nat) (x23_1 : Bool), v23 = .bool x23_1 ∧ Aside0 (impl_MemOk.j0 kq x23_1 l0_0 l0_1 = some r) ∧ Aside0 (kq ≤ k) ∧ Aside0 (wc.heap[gb1110]? = some (.cells #[(.slice A0_0 l0_0.length c0_0), (.slice A0_1 l0_1.length c0_1)] 88 (0, 0))) ∧ Aside0 (Below w.heap.size w wc))
 case first =>
  have H := HC2.out
  clear HC2
  by_cases c4 : (l0_0.length : Int) = 20
  case neg =>
   rw [if_neg c4] at H
   have c4b0 : ((l0_0.length : Int) == 20) = false := beq_eq_false_iff_ne.mpr c4
   have c4b1 : ((l0_0.length : Int) != 20) = true := bne_iff_ne.mpr c4
   (first | rw [c4b0] | (simp only [i64_w, i32_w]; rw [c4b0]) | skip)
   have H' := Aside0.mk H
   clear H
   have hz11 := cs2_ BK1110
   go_wp2
   go_meet
   case rel => exact ⟨_, (true), rsd, H', ⟨by first | omega | exact Nat.le_refl _⟩, ⟨by (with_reducible repeat (first | refine blk_drewN ?_ _ | refine blk_drew ?_ | refine blk_alloc ?_ _)); exact BK1110.out⟩, ⟨tb HB⟩⟩
  rw [if_pos c4] at H
  have c4b0 : ((l0_0.length : Int) == 20) = true := beq_iff_eq.mpr c4
  have c4b1 : ((l0_0.length : Int) != 20) = false := bne_eq_false_iff_eq.mpr c4
  clear c4
  (first | rw [c4b0] | (simp only [i64_w, i32_w]; rw [c4b0]) | skip)
  obtain ⟨t1111, A5, H⟩ := bn H
  try dsimp only at H
  cases t1111
  case false =>
   replace H := ipf H
   have H' := Aside0.mk H
   clear H
   have hz10 := cs2_ BK1110
   go_wp2_with (first | (go_at_call 85; (with_reducible refine (impl_from.calls (l0_1.length : Int) 1 4 false _ A5.out).mono ?_); rintro e w' ⟨rfl, ⟨nd, rfl⟩⟩))
   go_meet
   case rel => exact ⟨_, (true), rsd, H', ⟨by first | omega | exact Nat.le_refl _⟩, ⟨by (with_reducible repeat (first | refine blk_drewN ?_ _ | refine blk_drew ?_ | refine blk_alloc ?_ _)); exact BK1110.out⟩, ⟨tb HB⟩⟩
  replace H := ipt H
  obtain ⟨t1112, A7, H⟩ := bn H
  try dsimp only at H
  have H' := Aside0.mk H
  clear H
  have hz8 := cs2_ BK1110
  go_wp2_with (first | (go_at_call 85; (with_reducible refine (impl_from.calls (l0_1.length : Int) 1 4 true _ A5.out).mono ?_); rintro e w' ⟨rfl, ⟨nd, rfl⟩⟩) | (go_at_call 180; (with_reducible refine (impl_MemOk_1_any.calls k _ _ l0_1 t1112 _ ?side1 HC0_1.out A7.out).mono ?_); (case side1 => repeat (first | exact (Kd.C_below HR0_1.out (tb HB)) | (with_reducible refine Kd.C_alloc ?_ _) | (with_reducible refine Kd.C_drewN ?_ _) | (with_reducible refine Kd.C_drew ?_))); rintro e w9 ⟨rfl, hb⟩; replace BK1110 := bb BK1110 hb; replace HB := bs HB hb; (try clear hb)))
  go_meet
  case rel => exact ⟨_, (t1112), rsd, H', ⟨by first | omega | exact Nat.le_refl _⟩, ⟨by (with_reducible repeat (first | refine blk_drewN ?_ _ | refine blk_drew ?_ | refine blk_alloc ?_ _)); exact BK1110.out⟩, ⟨tb HB⟩⟩
 case rest =>
  clear HC2
  obtain ⟨kq, x23_1, rfl, HA, HJ1, BK1110, HB⟩ := hcut
  cases kq with
  | zero => exact absurd HA.out (by simp [impl_MemOk.j0])
  | succ kj1 =>
   have H := HA.out
   clear HA
   simp only [impl_MemOk.j0] at H
   cases x23_1
   case true =>
    replace H := ipt H
    obtain rfl := oin H
    go_wp2
    go_ret
    exact ⟨er, tb HB⟩
   replace H := ipf H
   have H' := Aside0.mk H
   clear H
   have hz13 := cs2_ BK1110
   go_wp2
   go_loopg [27] kj1 (fun kq v27 w' => ∃ (x27_2 : Int), v27 = .int .i64 x27_2 ∧ Aside0 (impl_MemOk.l0 kq l0_0 (l0_0.length : Int) x27_2 l0_0 l0_1 = some r) ∧ Aside0 (kq ≤ kj1) ∧ Aside0 (w'.heap[gb1110]? = some (.cells #[(.slice A0_0 l0_0.length c0_0), (.slice A0_1 l0_1.length c0_1)] 88 (0, 0))) ∧ Aside0 (Below w.heap.size w w'))
   case atStart => exact ⟨(0), rsd, H', ⟨Nat.le_refl _⟩, ⟨by (with_reducible repeat (first | refine blk_drewN ?_ _ | refine blk_drew ?_ | refine blk_alloc ?_ _)); exact BK1110.out⟩, ⟨tb HB⟩⟩
   case round =>
    clear H'
    obtain ⟨x27_2, rfl, HA, HK2, BK1110, HB⟩ := hrel
    cases gk with
    | zero => exact absurd HA.out (by simp [impl_MemOk.l0])
    | succ k2 =>
     have H := HA.out
     clear HA
     simp only [impl_MemOk.l0] at H
     revert H; refine icd (fun c14b0 H => ?_) fun c14b0 H => ?neg
     case neg =>
      obtain rfl := oin H
      go_wp2
      go_ret
      exact ⟨er, tb HB⟩
     obtain ⟨c15b0, H⟩ := itd H
     obtain ⟨c16b0, H⟩ := itd H
     obtain ⟨t1115, A17, H⟩ := bn H
     try dsimp only at H
     cases t1115
     case false =>
      replace H := ipf H
      obtain rfl := oin H
      have p1113 : 0 ≤ (x27_2 : Int) := od
      have q1113 : x27_2 < (l0_0.length : Int) := od
      obtain ⟨ad1113, e1113, hx1113⟩ := att141 HR0_0.out x27_2 p1113 q1113
      cases e1113
      replace hx1113 := ox3 HB hx1113
      replace p1113 := eq_true p1113
      replace q1113 := eq_true q1113
      go_wp2_with (first | ((with_reducible refine gq 4 rfl ?_); (try (refine gate_guard (by rfl) ?_; dsimp only)); refine bx1 HB BK1110 (N := 4) (cs := #[.int .i64 0, .int .i64 0, .int .i64 0]) (t := 141) ?_; clear HB BK1110; intro gb1114 w87 BK1114 GE1114 HB NB1110_1114 NB1114_1110 BK1110; have hnb88 := NB1114_1110.out; have hnc88 := NB1110_1114.out; have hz89 := cs3_ BK1114; have hz90 := cs2_ BK1110) | ((with_reducible refine gf 183 rfl ?_); refine gL 36 Try.func183 #[.agg #[.int .i64 ((rd_T141 l0_0 x27_2).f0), .int .i64 ((rd_T141 l0_0 x27_2).f1), .int .i64 ((rd_T141 l0_0 x27_2).f2)], .int .i64 (l0_1.length : Int)] ?_; (with_reducible refine (impl_WordOk.calls ((rd_T141 l0_0 x27_2).f0) ((rd_T141 l0_0 x27_2).f1) ((rd_T141 l0_0 x27_2).f2) (l0_1.length : Int) false _ A17.out).mono ?_); rintro e w91 ⟨rfl, hb⟩; refine ⟨_, rfl, ?_⟩; replace BK1110 := bbf BK1110 hb; replace BK1114 := bbp3 BK1114 hb; replace HB := bs HB hb; (try clear hb)))
      go_ret
      exact ⟨er, tb HB⟩
     replace H := ipt H
     by_cases c19 : ((rd_T141 l0_0 x27_2).f1) = 0
     case pos =>
      rw [if_pos c19] at H
      have c19b0 : (((rd_T141 l0_0 x27_2).f1) == 0) = true := beq_iff_eq.mpr c19
      have c19b1 : (((rd_T141 l0_0 x27_2).f1) != 0) = false := bne_eq_false_iff_eq.mpr c19
      clear c19
      have H' := Aside0.mk H
      clear H
      have p1113 : 0 ≤ (x27_2 : Int) := od
      have q1113 : x27_2 < (l0_0.length : Int) := od
      obtain ⟨ad1113, e1113, hx1113_0, hx1113_1, hx1113_2⟩ := at_T141 HR0_0.out x27_2 p1113 q1113
      cases e1113
      replace hx1113_0 := ox HB hx1113_0
      replace hx1113_1 := ox HB hx1113_1
      replace hx1113_2 := ox HB hx1113_2
      replace p1113 := eq_true p1113
      replace q1113 := eq_true q1113
      go_wp2_with (first | ((with_reducible refine gq 4 rfl ?_); (try (refine gate_guard (by rfl) ?_; dsimp only)); refine bx1 HB BK1110 (N := 4) (cs := #[.int .i64 0, .int .i64 0, .int .i64 0]) (t := 141) ?_; clear HB BK1110; intro gb1114 w20 BK1114 GE1114 HB NB1110_1114 NB1114_1110 BK1110; have hnb21 := NB1114_1110.out; have hnc21 := NB1110_1114.out; have hz22 := cs3_ BK1114; have hz23 := cs2_ BK1110) | ((with_reducible refine gf 183 rfl ?_); refine gL 36 Try.func183 #[.agg #[.int .i64 ((rd_T141 l0_0 x27_2).f0), .int .i64 ((rd_T141 l0_0 x27_2).f1), .int .i64 ((rd_T141 l0_0 x27_2).f2)], .int .i64 (l0_1.length : Int)] ?_; (with_reducible refine (impl_WordOk.calls ((rd_T141 l0_0 x27_2).f0) ((rd_T141 l0_0 x27_2).f1) ((rd_T141 l0_0 x27_2).f2) (l0_1.length : Int) true _ A17.out).mono ?_); rintro e w24 ⟨rfl, hb⟩; refine ⟨_, rfl, ?_⟩; replace BK1110 := bbf BK1110 hb; replace BK1114 := bbp3 BK1114 hb; replace HB := bs HB hb; (try clear hb); have hz25 := cs3_ BK1114))
      go_roundg k2
      case measure => have := HJ1.out; have := HK2.out; omega
      case rel => exact ⟨(wrap64 (x27_2 + 1)), rsd, H', ⟨by have := HJ1.out; have := HK2.out; omega⟩, ⟨by (with_reducible repeat (first | refine blk_drewN ?_ _ | refine blk_drew ?_ | refine blk_alloc ?_ _)); exact BK1110.out⟩, ⟨tb HB⟩⟩
     rw [if_neg c19] at H
     have c19b0 : (((rd_T141 l0_0 x27_2).f1) == 0) = false := beq_eq_false_iff_ne.mpr c19
     have c19b1 : (((rd_T141 l0_0 x27_2).f1) != 0) = true := bne_iff_ne.mpr c19
     obtain ⟨ji26, hji26⟩ : ∃ j_ : Int, (wrap64 (((rd_T141 l0_0 x27_2).f1) - 1)) = j_ := ⟨_, rfl⟩
     replace H : (if 0 ≤ (ji26) then (if (ji26) < (l0_1.length : Int) then ((impl_Entries.f k2 ((rd_T145 l0_1 (ji26)).f0) ((rd_T145 l0_1 (ji26)).f1) ((rd_T145 l0_1 (ji26)).f2) ((rd_T145 l0_1 (ji26)).f3.f0) ((rd_T145 l0_1 (ji26)).f3.f1) x27_2).bind fun bt1118 => (if bt1118.2.2.2 = true then (if ((rd_T145 l0_1 (ji26)).f0) = ((rd_T141 l0_0 x27_2).f2) then (impl_MemOk.l0 k2 l0_0 (l0_0.length : Int) (wrap64 (x27_2 + 1)) l0_0 l0_1) else (some false)) else (some false))) else (none)) else (none)) = some r := by first | (rw [hji26] at H; exact H) | (simp only [hji26] at H ⊢; exact H)
     (try rw [hji26] at A17)
     have hji26w : (IntKind.i64.wrap (((rd_T141 l0_0 x27_2).f1) - 1)) = ji26 := (i64_w _).trans hji26
     obtain ⟨c27b0, H⟩ := itd H
     obtain ⟨c28b0, H⟩ := itd H
     obtain ⟨⟨t1118, t1119, t1120, t1121⟩, A29, H⟩ := bn H
     try dsimp only at H
     cases t1121
     case false =>
      replace H := ipf H
      obtain rfl := oin H
      have p1113 : 0 ≤ (x27_2 : Int) := od
      have q1113 : x27_2 < (l0_0.length : Int) := od
      obtain ⟨ad1113, e1113, hx1113_0, hx1113_1, hx1113_2⟩ := at_T141 HR0_0.out x27_2 p1113 q1113
      cases e1113
      replace hx1113_0 := ox HB hx1113_0
      replace hx1113_1 := ox HB hx1113_1
      replace hx1113_2 := ox HB hx1113_2
      replace p1113 := eq_true p1113
      replace q1113 := eq_true q1113
      go_wp2_with (first | ((with_reducible refine gq 4 rfl ?_); (try (refine gate_guard (by rfl) ?_; dsimp only)); refine bx1 HB BK1110 (N := 4) (cs := #[.int .i64 0, .int .i64 0, .int .i64 0]) (t := 141) ?_; clear HB BK1110; intro gb1114 w70 BK1114 GE1114 HB NB1110_1114 NB1114_1110 BK1110; have hnb71 := NB1114_1110.out; have hnc71 := NB1110_1114.out; have hz72 := cs3_ BK1114; have hz73 := cs2_ BK1110) | ((with_reducible refine gf 183 rfl ?_); refine gL 36 Try.func183 #[.agg #[.int .i64 ((rd_T141 l0_0 x27_2).f0), .int .i64 ((rd_T141 l0_0 x27_2).f1), .int .i64 ((rd_T141 l0_0 x27_2).f2)], .int .i64 (l0_1.length : Int)] ?_; (with_reducible refine (impl_WordOk.calls ((rd_T141 l0_0 x27_2).f0) ((rd_T141 l0_0 x27_2).f1) ((rd_T141 l0_0 x27_2).f2) (l0_1.length : Int) true _ A17.out).mono ?_); rintro e w74 ⟨rfl, hb⟩; refine ⟨_, rfl, ?_⟩; replace BK1110 := bbf BK1110 hb; replace BK1114 := bbp3 BK1114 hb; replace HB := bs HB hb; (try clear hb); have hz75 := cs3_ BK1114; have hz76 := cs2_ BK1110; have p1116 : 0 ≤ ((ji26) : Int) := od; have q1116 : (ji26) < (l0_1.length : Int) := od; obtain ⟨ad1116, A1116_2, c1116_2, A1116_4, c1116_4, e1116, hx1116_0, hx1116_1, hx1116_2, hx1116_3, hx1116_4, hl1116_2, hi1116_2, hl1116_4, hi1116_4⟩ := at_T145 HR0_1.out (ji26) p1116 q1116; cases e1116; replace hx1116_0 := ox HB hx1116_0; replace hx1116_1 := ox HB hx1116_1; replace hx1116_2 := ox HB hx1116_2; replace hx1116_3 := ox HB hx1116_3; replace hx1116_4 := ox HB hx1116_4; have HR1116_2 := Aside0.mk hi1116_2; have HC1116_2 := Aside0.mk hl1116_2; clear hi1116_2 hl1116_2; have HR1116_4 := Aside0.mk hi1116_4; have HC1116_4 := Aside0.mk hl1116_4; clear hi1116_4 hl1116_4; replace p1116 := eq_true p1116; replace q1116 := eq_true q1116) | ((with_reducible refine gq 5 rfl ?_); (try (refine gate_guard (by rfl) ?_; dsimp only)); refine bx2 HB BK1110 BK1114 (N := 5) (cs := #[.int .i64 0, .int .i64 0, .slice none 0 0, .int .i64 0, .slice none 0 0]) (t := 145) ?_; clear HB BK1110 BK1114; intro gb1117 w77 BK1117 GE1117 HB NB1110_1117 NB1117_1110 BK1110 NB1114_1117 NB1117_1114 BK1114; have hnb78 := NB1117_1110.out; have hnc78 := NB1110_1117.out; have hnb79 := NB1117_1114.out; have hnc79 := NB1114_1117.out; have hz80 := cs5_ BK1117) | ((with_reducible refine gf 157 rfl ?_); refine goesL_ (some 51) rfl rfl Try.func157 (by kernel_rfl) rfl #[.agg #[.int .i64 ((rd_T145 l0_1 (ji26)).f0), .int .i64 ((rd_T145 l0_1 (ji26)).f1), .slice A1116_2 ((rd_T145 l0_1 (ji26)).f2).length c1116_2, .int .i64 ((rd_T145 l0_1 (ji26)).f3.f0), .slice A1116_4 ((rd_T145 l0_1 (ji26)).f3.f1).length c1116_4], .int .i64 x27_2] rfl (by (try simp only [List.map_toArray, List.map_cons, List.map_nil]); first | done | (simp only [hji26]; rfl) | rfl | (simp only [List.length_drop, List.length_take]; rfl)) ?_; (with_reducible refine (impl_Entries.calls k2 ((rd_T145 l0_1 (ji26)).f0) ((rd_T145 l0_1 (ji26)).f1) _ _ ((rd_T145 l0_1 (ji26)).f2) ((rd_T145 l0_1 (ji26)).f3.f0) _ _ ((rd_T145 l0_1 (ji26)).f3.f1) x27_2 t1118 t1119 t1120 false _ ?side1 HC1116_2.out ?side3 HC1116_4.out A29.out).mono ?_); (case side1 => exact Kd.C_below HR1116_2.out (tb HB)); (case side3 => exact Kd.C_below HR1116_4.out (tb HB)); rintro e w81 ⟨rfl, hb⟩; refine ⟨_, rfl, ?_⟩; replace BK1110 := bbf BK1110 hb; replace BK1114 := bbf BK1114 hb; replace BK1117 := bbp5 BK1117 hb; replace HB := bs HB hb; (try clear hb)) | ((with_reducible refine gq 6 rfl ?_); (try (refine gate_guard (by rfl) ?_; dsimp only)); refine bx3 HB BK1110 BK1114 BK1117 (N := 6) (cs := #[.int .i64 0, .int .i64 0, .int .i64 0]) (t := 166) ?_; clear HB BK1110 BK1114 BK1117; intro gb1122 w82 BK1122 GE1122 HB NB1110_1122 NB1122_1110 BK1110 NB1114_1122 NB1122_1114 BK1114 NB1117_1122 NB1122_1117 BK1117; have hnb83 := NB1122_1110.out; have hnc83 := NB1110_1122.out; have hnb84 := NB1122_1114.out; have hnc84 := NB1114_1122.out; have hnb85 := NB1122_1117.out; have hnc85 := NB1117_1122.out; have hz86 := cs3_ BK1122))
      go_ret
      exact ⟨by first | rfl | (simp [errW_none, errW_some] <;> rfl) | (simp only [← hji26]; first | rfl | (simp [errW_none, errW_some] <;> rfl)) | (simp [*, errW_none, errW_some] <;> rfl), tb HB⟩
     replace H := ipt H
     by_cases c31 : ((rd_T145 l0_1 (ji26)).f0) = ((rd_T141 l0_0 x27_2).f2)
     case neg =>
      rw [if_neg c31] at H
      have c31b0 : (((rd_T145 l0_1 (ji26)).f0) == ((rd_T141 l0_0 x27_2).f2)) = false := beq_eq_false_iff_ne.mpr c31
      have c31b1 : (((rd_T145 l0_1 (ji26)).f0) != ((rd_T141 l0_0 x27_2).f2)) = true := bne_iff_ne.mpr c31
      obtain rfl := oin H
      have p1113 : 0 ≤ (x27_2 : Int) := od
      have q1113 : x27_2 < (l0_0.length : Int) := od
      obtain ⟨ad1113, e1113, hx1113_0, hx1113_1, hx1113_2⟩ := at_T141 HR0_0.out x27_2 p1113 q1113
      cases e1113
      replace hx1113_0 := ox HB hx1113_0
      replace hx1113_1 := ox HB hx1113_1
      replace hx1113_2 := ox HB hx1113_2
      replace p1113 := eq_true p1113
      replace q1113 := eq_true q1113
      go_wp2_with (first | ((with_reducible refine gq 4 rfl ?_); (try (refine gate_guard (by rfl) ?_; dsimp only)); refine bx1 HB BK1110 (N := 4) (cs := #[.int .i64 0, .int .i64 0, .int .i64 0]) (t := 141) ?_; clear HB BK1110; intro gb1114 w51 BK1114 GE1114 HB NB1110_1114 NB1114_1110 BK1110; have hnb52 := NB1114_1110.out; have hnc52 := NB1110_1114.out; have hz53 := cs3_ BK1114; have hz54 := cs2_ BK1110) | ((with_reducible refine gf 183 rfl ?_); refine gL 36 Try.func183 #[.agg #[.int .i64 ((rd_T141 l0_0 x27_2).f0), .int .i64 ((rd_T141 l0_0 x27_2).f1), .int .i64 ((rd_T141 l0_0 x27_2).f2)], .int .i64 (l0_1.length : Int)] ?_; (with_reducible refine (impl_WordOk.calls ((rd_T141 l0_0 x27_2).f0) ((rd_T141 l0_0 x27_2).f1) ((rd_T141 l0_0 x27_2).f2) (l0_1.length : Int) true _ A17.out).mono ?_); rintro e w55 ⟨rfl, hb⟩; refine ⟨_, rfl, ?_⟩; replace BK1110 := bbf BK1110 hb; replace BK1114 := bbp3 BK1114 hb; replace HB := bs HB hb; (try clear hb); have hz56 := cs3_ BK1114; have hz57 := cs2_ BK1110; have p1116 : 0 ≤ ((ji26) : Int) := od; have q1116 : (ji26) < (l0_1.length : Int) := od; obtain ⟨ad1116, A1116_2, c1116_2, A1116_4, c1116_4, e1116, hx1116_0, hx1116_1, hx1116_2, hx1116_3, hx1116_4, hl1116_2, hi1116_2, hl1116_4, hi1116_4⟩ := at_T145 HR0_1.out (ji26) p1116 q1116; cases e1116; replace hx1116_0 := ox HB hx1116_0; replace hx1116_1 := ox HB hx1116_1; replace hx1116_2 := ox HB hx1116_2; replace hx1116_3 := ox HB hx1116_3; replace hx1116_4 := ox HB hx1116_4; have HR1116_2 := Aside0.mk hi1116_2; have HC1116_2 := Aside0.mk hl1116_2; clear hi1116_2 hl1116_2; have HR1116_4 := Aside0.mk hi1116_4; have HC1116_4 := Aside0.mk hl1116_4; clear hi1116_4 hl1116_4; replace p1116 := eq_true p1116; replace q1116 := eq_true q1116) | ((with_reducible refine gq 5 rfl ?_); (try (refine gate_guard (by rfl) ?_; dsimp only)); refine bx2 HB BK1110 BK1114 (N := 5) (cs := #[.int .i64 0, .int .i64 0, .slice none 0 0, .int .i64 0, .slice none 0 0]) (t := 145) ?_; clear HB BK1110 BK1114; intro gb1117 w58 BK1117 GE1117 HB NB1110_1117 NB1117_1110 BK1110 NB1114_1117 NB1117_1114 BK1114; have hnb59 := NB1117_1110.out; have hnc59 := NB1110_1117.out; have hnb60 := NB1117_1114.out; have hnc60 := NB1114_1117.out; have hz61 := cs5_ BK1117) | ((with_reducible refine gf 157 rfl ?_); refine goesL_ (some 51) rfl rfl Try.func157 (by kernel_rfl) rfl #[.agg #[.int .i64 ((rd_T145 l0_1 (ji26)).f0), .int .i64 ((rd_T145 l0_1 (ji26)).f1), .slice A1116_2 ((rd_T145 l0_1 (ji26)).f2).length c1116_2, .int .i64 ((rd_T145 l0_1 (ji26)).f3.f0), .slice A1116_4 ((rd_T145 l0_1 (ji26)).f3.f1).length c1116_4], .int .i64 x27_2] rfl (by (try simp only [List.map_toArray, List.map_cons, List.map_nil]); first | done | (simp only [hji26]; rfl) | rfl | (simp only [List.length_drop, List.length_take]; rfl)) ?_; (with_reducible refine (impl_Entries.calls k2 ((rd_T145 l0_1 (ji26)).f0) ((rd_T145 l0_1 (ji26)).f1) _ _ ((rd_T145 l0_1 (ji26)).f2) ((rd_T145 l0_1 (ji26)).f3.f0) _ _ ((rd_T145 l0_1 (ji26)).f3.f1) x27_2 t1118 t1119 t1120 true _ ?side1 HC1116_2.out ?side3 HC1116_4.out A29.out).mono ?_); (case side1 => exact Kd.C_below HR1116_2.out (tb HB)); (case side3 => exact Kd.C_below HR1116_4.out (tb HB)); rintro e w62 ⟨rfl, hb⟩; refine ⟨_, rfl, ?_⟩; replace BK1110 := bbf BK1110 hb; replace BK1114 := bbf BK1114 hb; replace BK1117 := bbp5 BK1117 hb; replace HB := bs HB hb; (try clear hb)) | ((with_reducible refine gq 6 rfl ?_); (try (refine gate_guard (by rfl) ?_; dsimp only)); refine bx3 HB BK1110 BK1114 BK1117 (N := 6) (cs := #[.int .i64 0, .int .i64 0, .int .i64 0]) (t := 166) ?_; clear HB BK1110 BK1114 BK1117; intro gb1122 w63 BK1122 GE1122 HB NB1110_1122 NB1122_1110 BK1110 NB1114_1122 NB1122_1114 BK1114 NB1117_1122 NB1122_1117 BK1117; have hnb64 := NB1122_1110.out; have hnc64 := NB1110_1122.out; have hnb65 := NB1122_1114.out; have hnc65 := NB1114_1122.out; have hnb66 := NB1122_1117.out; have hnc66 := NB1117_1122.out; have hz67 := cs3_ BK1122; have hz68 := cs5_ BK1117; have hz69 := cs3_ BK1114))
      go_ret
      exact ⟨by first | rfl | (simp [errW_none, errW_some] <;> rfl) | (simp only [← hji26]; first | rfl | (simp [errW_none, errW_some] <;> rfl)) | (simp [*, errW_none, errW_some] <;> rfl), tb HB⟩
     rw [if_pos c31] at H
     have c31b0 : (((rd_T145 l0_1 (ji26)).f0) == ((rd_T141 l0_0 x27_2).f2)) = true := beq_iff_eq.mpr c31
     have c31b1 : (((rd_T145 l0_1 (ji26)).f0) != ((rd_T141 l0_0 x27_2).f2)) = false := bne_eq_false_iff_eq.mpr c31
     clear c31
     have H' := Aside0.mk H
     clear H
     have p1113 : 0 ≤ (x27_2 : Int) := od
     have q1113 : x27_2 < (l0_0.length : Int) := od
     obtain ⟨ad1113, e1113, hx1113_0, hx1113_1, hx1113_2⟩ := at_T141 HR0_0.out x27_2 p1113 q1113
     cases e1113
     replace hx1113_0 := ox HB hx1113_0
     replace hx1113_1 := ox HB hx1113_1
     replace hx1113_2 := ox HB hx1113_2
     replace p1113 := eq_true p1113
     replace q1113 := eq_true q1113
     go_wp2_with (first | ((with_reducible refine gq 4 rfl ?_); (try (refine gate_guard (by rfl) ?_; dsimp only)); refine bx1 HB BK1110 (N := 4) (cs := #[.int .i64 0, .int .i64 0, .int .i64 0]) (t := 141) ?_; clear HB BK1110; intro gb1114 w32 BK1114 GE1114 HB NB1110_1114 NB1114_1110 BK1110; have hnb33 := NB1114_1110.out; have hnc33 := NB1110_1114.out; have hz34 := cs3_ BK1114; have hz35 := cs2_ BK1110) | ((with_reducible refine gf 183 rfl ?_); refine gL 36 Try.func183 #[.agg #[.int .i64 ((rd_T141 l0_0 x27_2).f0), .int .i64 ((rd_T141 l0_0 x27_2).f1), .int .i64 ((rd_T141 l0_0 x27_2).f2)], .int .i64 (l0_1.length : Int)] ?_; (with_reducible refine (impl_WordOk.calls ((rd_T141 l0_0 x27_2).f0) ((rd_T141 l0_0 x27_2).f1) ((rd_T141 l0_0 x27_2).f2) (l0_1.length : Int) true _ A17.out).mono ?_); rintro e w36 ⟨rfl, hb⟩; refine ⟨_, rfl, ?_⟩; replace BK1110 := bbf BK1110 hb; replace BK1114 := bbp3 BK1114 hb; replace HB := bs HB hb; (try clear hb); have hz37 := cs3_ BK1114; have hz38 := cs2_ BK1110; have p1116 : 0 ≤ ((ji26) : Int) := od; have q1116 : (ji26) < (l0_1.length : Int) := od; obtain ⟨ad1116, A1116_2, c1116_2, A1116_4, c1116_4, e1116, hx1116_0, hx1116_1, hx1116_2, hx1116_3, hx1116_4, hl1116_2, hi1116_2, hl1116_4, hi1116_4⟩ := at_T145 HR0_1.out (ji26) p1116 q1116; cases e1116; replace hx1116_0 := ox HB hx1116_0; replace hx1116_1 := ox HB hx1116_1; replace hx1116_2 := ox HB hx1116_2; replace hx1116_3 := ox HB hx1116_3; replace hx1116_4 := ox HB hx1116_4; have HR1116_2 := Aside0.mk hi1116_2; have HC1116_2 := Aside0.mk hl1116_2; clear hi1116_2 hl1116_2; have HR1116_4 := Aside0.mk hi1116_4; have HC1116_4 := Aside0.mk hl1116_4; clear hi1116_4 hl1116_4; replace p1116 := eq_true p1116; replace q1116 := eq_true q1116) | ((with_reducible refine gq 5 rfl ?_); (try (refine gate_guard (by rfl) ?_; dsimp only)); refine bx2 HB BK1110 BK1114 (N := 5) (cs := #[.int .i64 0, .int .i64 0, .slice none 0 0, .int .i64 0, .slice none 0 0]) (t := 145) ?_; clear HB BK1110 BK1114; intro gb1117 w39 BK1117 GE1117 HB NB1110_1117 NB1117_1110 BK1110 NB1114_1117 NB1117_1114 BK1114; have hnb40 := NB1117_1110.out; have hnc40 := NB1110_1117.out; have hnb41 := NB1117_1114.out; have hnc41 := NB1114_1117.out; have hz42 := cs5_ BK1117) | ((with_reducible refine gf 157 rfl ?_); refine goesL_ (some 51) rfl rfl Try.func157 (by kernel_rfl) rfl #[.agg #[.int .i64 ((rd_T145 l0_1 (ji26)).f0), .int .i64 ((rd_T145 l0_1 (ji26)).f1), .slice A1116_2 ((rd_T145 l0_1 (ji26)).f2).length c1116_2, .int .i64 ((rd_T145 l0_1 (ji26)).f3.f0), .slice A1116_4 ((rd_T145 l0_1 (ji26)).f3.f1).length c1116_4], .int .i64 x27_2] rfl (by (try simp only [List.map_toArray, List.map_cons, List.map_nil]); first | done | (simp only [hji26]; rfl) | rfl | (simp only [List.length_drop, List.length_take]; rfl)) ?_; (with_reducible refine (impl_Entries.calls k2 ((rd_T145 l0_1 (ji26)).f0) ((rd_T145 l0_1 (ji26)).f1) _ _ ((rd_T145 l0_1 (ji26)).f2) ((rd_T145 l0_1 (ji26)).f3.f0) _ _ ((rd_T145 l0_1 (ji26)).f3.f1) x27_2 t1118 t1119 t1120 true _ ?side1 HC1116_2.out ?side3 HC1116_4.out A29.out).mono ?_); (case side1 => exact Kd.C_below HR1116_2.out (tb HB)); (case side3 => exact Kd.C_below HR1116_4.out (tb HB)); rintro e w43 ⟨rfl, hb⟩; refine ⟨_, rfl, ?_⟩; replace BK1110 := bbf BK1110 hb; replace BK1114 := bbf BK1114 hb; replace BK1117 := bbp5 BK1117 hb; replace HB := bs HB hb; (try clear hb)) | ((with_reducible refine gq 6 rfl ?_); (try (refine gate_guard (by rfl) ?_; dsimp only)); refine bx3 HB BK1110 BK1114 BK1117 (N := 6) (cs := #[.int .i64 0, .int .i64 0, .int .i64 0]) (t := 166) ?_; clear HB BK1110 BK1114 BK1117; intro gb1122 w44 BK1122 GE1122 HB NB1110_1122 NB1122_1110 BK1110 NB1114_1122 NB1122_1114 BK1114 NB1117_1122 NB1122_1117 BK1117; have hnb45 := NB1122_1110.out; have hnc45 := NB1110_1122.out; have hnb46 := NB1122_1114.out; have hnc46 := NB1114_1122.out; have hnb47 := NB1122_1117.out; have hnc47 := NB1117_1122.out; have hz48 := cs3_ BK1122; have hz49 := cs5_ BK1117; have hz50 := cs3_ BK1114))
     go_roundg k2
     case measure => have := HJ1.out; have := HK2.out; omega
     case rel => exact ⟨(wrap64 (x27_2 + 1)), rsd, H', ⟨by have := HJ1.out; have := HK2.out; omega⟩, ⟨bf BK1110⟩, ⟨tb HB⟩⟩
end Go.Proofs.Ytopikhjcbcpiaaa.Q
