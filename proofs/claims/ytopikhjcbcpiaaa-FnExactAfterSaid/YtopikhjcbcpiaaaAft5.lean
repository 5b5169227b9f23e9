/- Part 5 of the steps by which the law is shown: what each function of the program, of the reference and of the law computes. No condition. -/
import Derived.Test.YtopikhjcbcpiaaaAft4
section
namespace Go.Proofs.Ytopikhjcbcpiaaa.Q
open Go.RowKit Go.Proofs.YtopikhjcbcpiaaaW.PrintWords Go.Proofs.YtopikhjcbcpiaaaX
structure S58 where
  f0 : List Int
  f1 : Int
def k58 : Kd S58 := Kd.iso (Kd.pair (Kd.slice 3 (Kd.int .i64)) (Kd.int .i64)) (fun x : S58 => (x.f0, x.f1))
theorem k58_open {w : World} {x : S58} {cs : List Value} (h : k58.K w x cs) : ∃ A0 c0, cs = [.slice A0 x.f0.length c0, .int .i64 x.f1] ∧ x.f0.length ≤ c0 ∧ (Kd.int .i64).C w A0 x.f0.length x.f0 := by
  obtain ⟨_, _, rfl, ⟨A0, c0, rfl, l0, g0⟩, rfl⟩ := h
  exact ⟨A0, c0, rfl, l0, g0⟩
def ok60 (x : S60) : Prop := (Lit.int .i64 x.f0).wf = true ∧ (Lit.int .i64 x.f1).wf = true ∧ (Lit.int .i64 x.f2).wf = true
theorem opens60 {H : Type} {enc : TypeId × Value → H} {W : World} : Opens enc Try.prog W k60 60 ok60 :=
  Opens.struct (g := fun a => ⟨a.1, a.2.1, a.2.2⟩) (fun a => rfl) Try.underlying60 (by kernel_rfl) (OpensFs.cons rfl (Opens.int Try.underlying3 (by kernel_rfl)) (OpensFs.cons rfl (Opens.int Try.underlying3 (by kernel_rfl)) (OpensFs.last rfl (Opens.int Try.underlying3 (by kernel_rfl)))))
def ok62 (x : S62) : Prop := (Lit.int .i64 x.f0).wf = true ∧ (x.f1.length ≤ 9223372036854775807 ∧ ∀ a ∈ x.f1, (Lit.int .i64 a).wf = true)
theorem opens62 {H : Type} {enc : TypeId × Value → H} {W : World} : Opens enc Try.prog W k62 62 ok62 :=
  Opens.struct (g := fun a => ⟨a.1, a.2⟩) (fun a => rfl) Try.underlying62 (by kernel_rfl) (OpensFs.cons rfl (Opens.int Try.underlying3 (by kernel_rfl)) (OpensFs.last rfl (Opens.slice Try.underlying22 (by kernel_rfl) (Opens.int Try.underlying3 (by kernel_rfl)))))
def ok58 (x : S58) : Prop := (x.f0.length ≤ 9223372036854775807 ∧ ∀ a ∈ x.f0, (Lit.int .i64 a).wf = true) ∧ (Lit.int .i64 x.f1).wf = true
theorem opens58 {H : Type} {enc : TypeId × Value → H} {W : World} : Opens enc Try.prog W k58 58 ok58 :=
  Opens.struct (g := fun a => ⟨a.1, a.2⟩) (fun a => rfl) Try.underlying58 (by kernel_rfl) (OpensFs.cons rfl (Opens.slice Try.underlying22 (by kernel_rfl) (Opens.int Try.underlying3 (by kernel_rfl))) (OpensFs.last rfl (Opens.int Try.underlying3 (by kernel_rfl))))
end Go.Proofs.Ytopikhjcbcpiaaa.Q
end
section
/- The one statement about numbers and lists that is left of the law FnExactAfter. -/
namespace Go.Proofs.Ytopikhjcbcpiaaa.Q
open Go.RowKit Go.Proofs.YtopikhjcbcpiaaaW.PrintWords
def laws_FnExactAfter.Pure : Prop := ∀ (a0 : S58) (a1 : S60) (a2 : S62), ok58 a0 → ok60 a1 → ok62 a2 → ∃ k, laws_FnExactAfter.f k a0.f0 a0.f1 a1.f0 a1.f1 a1.f2 a2.f0 a2.f1 = some true
end Go.Proofs.Ytopikhjcbcpiaaa.Q
end
namespace Go.Proofs.Ytopikhjcbcpiaaa.Q
open Go.RowKit Go.Proofs.YtopikhjcbcpiaaaW.PrintWords Go.Proofs.YtopikhjcbcpiaaaW.PrintLast Go.Proofs.YtopikhjcbcpiaaaW.PrintMore
attribute [local go_sem] max2_int min2_int max_two min_two max_three min_three max_four min_four   -- for this text's walks alone
set_option linter.unusedVariables false
set_option linter.unusedSimpArgs false
def impl_isPlace.f (a0 : Int) : Option (Bool) := (impl_from.f a0 0 19).bind fun t216 => (some t216)
set_option maxHeartbeats 8000000 in
set_option maxRecDepth 100000 in
theorem impl_isPlace.calls (a0 : Int) (r : Bool) (w : World) (h : impl_isPlace.f a0 = some r) :
  Calls Try.prog 88 #[.int .i64 a0] w fun e w' => e = .returned (.bool r) ∧ Drawn0 w w' := by
 have H : ((impl_from.f a0 0 19).bind fun t216 => (some t216)) = some r := h
 clear h
 replace H := Option.bind_eq_some_iff.mp H
 obtain ⟨t216, A20, H⟩ := H
 replace H : (some t216) = some r := H
 have A2 := Aside0.mk A20
 clear A20
 obtain rfl := Option.some.inj H
 go_enter Try.func88, Try.ntmps88
 go_wp2_with (first | ((with_reducible refine gate_callee (f := 85) rfl ?_); refine gL 4 Try.func85 #[.int .i64 a0, .int .i64 0, .int .i64 19] ?_; (with_reducible refine (impl_from.calls a0 0 19 t216 _ A2.out).mono ?_); rintro e w' ⟨rfl, ⟨nd, rfl⟩⟩; refine ⟨_, rfl, ?_⟩))
 go_ret
 exact ⟨by first | rfl | (simp; done) | (simp [*]; done), by repeat (first | exact Drawn0.refl _ | apply Drawn0.step)⟩
def impl_isWordNum.f (a0 : Int) : Option (Bool) := (impl_from.f a0 0 1000).bind fun t217 => (some t217)
set_option maxHeartbeats 8000000 in
set_option maxRecDepth 100000 in
theorem impl_isWordNum.calls (a0 : Int) (r : Bool) (w : World) (h : impl_isWordNum.f a0 = some r) :
  Calls Try.prog 89 #[.int .i64 a0] w fun e w' => e = .returned (.bool r) ∧ Drawn0 w w' := by
 have H : ((impl_from.f a0 0 1000).bind fun t217 => (some t217)) = some r := h
 clear h
 replace H := Option.bind_eq_some_iff.mp H
 obtain ⟨t217, A20, H⟩ := H
 replace H : (some t217) = some r := H
 have A2 := Aside0.mk A20
 clear A20
 obtain rfl := Option.some.inj H
 go_enter Try.func89, Try.ntmps89
 go_wp2_with (first | ((with_reducible refine gate_callee (f := 85) rfl ?_); refine gL 4 Try.func85 #[.int .i64 a0, .int .i64 0, .int .i64 1000] ?_; (with_reducible refine (impl_from.calls a0 0 1000 t217 _ A2.out).mono ?_); rintro e w' ⟨rfl, ⟨nd, rfl⟩⟩; refine ⟨_, rfl, ?_⟩))
 go_ret
 exact ⟨by first | rfl | (simp; done) | (simp [*]; done), by repeat (first | exact Drawn0.refl _ | apply Drawn0.step)⟩
end Go.Proofs.Ytopikhjcbcpiaaa.Q
section
namespace Go.Proofs.YtopikhjcbcpiaaaX
open Go.RowKit Go.Proofs.YtopikhjcbcpiaaaW.PrintWords
theorem wrap_succ {i n : Nat} (h : i < n) (hn : n ≤ 9223372036854775807) : wrap64 ((i : Int) + 1) = ((i + 1 : Nat) : Int) := by
  unfold wrap64; omega
theorem wrap_in {x : Int} (h0 : -9223372036854775808 ≤ x) (h1 : x ≤ 9223372036854775807) : wrap64 x = x := by
  unfold wrap64; omega
theorem ev_of {α : Type} {g : Nat → Option α} {r : α} (h : ∀ k, g k = some r) : Ev g r := ⟨0, fun k _ => h k⟩
theorem ev_succ {α : Type} {g : Nat → Option α} {r : α} (h : ∀ k, g (k + 1) = some r) : Ev g r := Ev.step (f := fun _ => Option.some r) h (Ev.now r)
theorem ev_to {α : Type} {g : Nat → Option α} {r q : α} (h : Ev g r) (e : r = q) : Ev g q := e ▸ h
theorem ev_pos {α : Type} {c : Prop} [Decidable c] {g f : Nat → Option α} {r : α} (hc : c) (h : Ev g r) : Ev (fun k => if c then g k else f k) r := by simp only [if_pos hc]; exact h
theorem ev_neg {α : Type} {c : Prop} [Decidable c] {g f : Nat → Option α} {r : α} (hc : ¬ c) (h : Ev f r) : Ev (fun k => if c then g k else f k) r := by simp only [if_neg hc]; exact h
theorem ev_ite {α : Type} {c : Prop} [Decidable c] {g f : Nat → Option α} {r : α} (h : c → Ev g r) (h' : ¬ c → Ev f r) : Ev (fun k => if c then g k else f k) r := by
  by_cases hc : c
  · exact ev_pos hc (h hc)
  · exact ev_neg hc (h' hc)
theorem ev_down {β : Type} {g : Nat → Int → Option β} {R : Nat → β} {n : Nat} (h : ∀ i : Nat, i ≤ n → (i < n → Ev (fun k => g k ((i + 1 : Nat) : Int)) (R (i + 1))) → Ev (fun k => g k (i : Int)) (R i)) :
    ∀ i : Nat, i ≤ n → Ev (fun k => g k (i : Int)) (R i) := by
  have key : ∀ d i : Nat, i + d = n → Ev (fun k => g k (i : Int)) (R i) := by
    intro d
    induction d with
    | zero => intro i hi; exact h i (by omega) (fun hlt => by omega)
    | succ d ih => intro i hi; exact h i (by omega) (fun _ => ih (i + 1) (by omega))
  intro i hi
  exact key (n - i) i (by omega)
theorem ev_fill {α β : Type} {g : Nat → List β → Int → Option (List β)} {l : List α} {cv : α → β} {za : α}
    (hstep : ∀ (acc : List β) (i : Nat) (r : List β), i < l.length → acc.length = l.length → Ev (fun k => g k (acc.set i (cv (l.getD i za))) ((i + 1 : Nat) : Int)) r → Ev (fun k => g k acc (i : Int)) r)
    (hend : ∀ acc : List β, acc.length = l.length → Ev (fun k => g k acc (l.length : Int)) acc) (acc : List β) (hacc : acc.length = l.length) : Ev (fun k => g k acc 0) (l.map cv) := by
  have key : ∀ (d i : Nat) (acc : List β), acc.length = l.length → i + d = l.length → Ev (fun k => g k acc (i : Int)) (acc.take i ++ (l.drop i).map cv) := by
    intro d
    induction d with
    | zero =>
      intro i acc ha hi
      obtain rfl : i = l.length := by omega
      refine ev_to (hend acc ha) ?_
      simp [← ha]
    | succ d ih =>
      intro i acc ha hi
      refine hstep acc i _ (by omega) ha (ev_to (ih (i + 1) _ (by simpa using ha) (by omega)) ?_)
      have hl : i < l.length := by omega
      have e : l.getD i za = l[i] := by simp [List.getD_eq_getElem?_getD, List.getElem?_eq_getElem hl]
      rw [List.drop_eq_getElem_cons hl, List.map_cons, e]
      have h2 : (acc.set i (cv l[i])).take (i + 1) = acc.take i ++ [cv l[i]] := by
        rw [List.take_succ_eq_append_getElem (by simp; omega)]
        simp [List.take_set_of_le]
      rw [h2, List.append_assoc]
      rfl
  have := key l.length 0 acc hacc (by omega)
  simpa using this
end Go.Proofs.YtopikhjcbcpiaaaX
end
section
namespace Go.Proofs.Ytopikhjcbcpiaaa.Q
open Go.RowKit Go.Proofs.YtopikhjcbcpiaaaW.PrintWords Go.Proofs.YtopikhjcbcpiaaaX
def inB (a b c : Int) : Bool := decide (b ≤ a ∧ a ≤ c)
theorem l1In_eq (a b c : Int) : spec_l1In.f a b c = some (inB a b c) := by
  unfold spec_l1In.f inB
  by_cases h : a ≥ b
  · rw [if_pos h]; simp; omega
  · rw [if_neg h]; simp; omega
theorem from_eq (a b c : Int) : impl_from.f a b c = some (inB a b c) := by
  unfold impl_from.f inB
  by_cases h : a ≥ b
  · rw [if_pos h]; simp; omega
  · rw [if_neg h]; simp; omega
def opOkB (a b c : Int) : Bool :=
  if a = 1 ∨ a = 2 then inB b 0 3 && inB c 1 6 else if a = 3 ∨ a = 4 then inB b 0 3 && decide (c = 0)
  else if a = 5 ∨ a = 10 then decide (b = 0) && inB c 1 6 else if a = 6 then inB b 0 2 && decide (c = 0)
  else if a = 7 ∨ a = 8 ∨ a = 9 then decide (b = 0) && decide (c = 0) else false
theorem kinds10 (a : Int) : a = 1 ∨ a = 2 ∨ a = 3 ∨ a = 4 ∨ a = 5 ∨ a = 6 ∨ a = 7 ∨ a = 8 ∨ a = 9 ∨ a = 10 ∨ (a < 1 ∨ 10 < a) := by omega
theorem ev_spec_OpOk (a b c : Int) : Ev (fun k => spec_OpOk.f k a b c) (opOkB a b c) := by
  refine ⟨3, fun k hk => ?_⟩
  obtain ⟨k, rfl⟩ : ∃ j, k = j + 3 := ⟨k - 3, by omega⟩
  show spec_OpOk.f (k + 3) a b c = _
  simp only [spec_OpOk.f, spec_OpOk.j0, spec_OpOk.j1, spec_l4Key.f, spec_KeyOk.f, spec_l4Val.f, spec_ValOk.f, l1In_eq, Option.bind_some]
  rcases kinds10 a with rfl | rfl | rfl | rfl | rfl | rfl | rfl | rfl | rfl | rfl | h
  case inr.inr.inr.inr.inr.inr.inr.inr.inr.inr =>
    have h1 : inB a 1 10 = false := by unfold inB; simp; omega
    have h2 : ¬ (a = 1 ∨ a = 2) := by omega
    have h3 : ¬ (a = 3 ∨ a = 4) := by omega
    have h4 : ¬ (a = 5 ∨ a = 10) := by omega
    have h5 : ¬ a = 6 := by omega
    have h6 : ¬ (a = 7 ∨ a = 8 ∨ a = 9) := by omega
    simp [opOkB, h1, h2, h3, h4, h5, h6]
  all_goals
    unfold opOkB
    generalize inB b 0 3 = p
    generalize inB c 1 6 = q
    generalize inB b 0 2 = s
    by_cases hc : c = 0 <;> by_cases hb : b = 0 <;> cases p <;> cases q <;> cases s <;> simp [inB, hc, hb]
theorem ev_impl_OpOk (a b c : Int) : Ev (fun k => impl_OpOk.f k a b c) (opOkB a b c) := by
  refine ⟨4, fun k hk => ?_⟩
  obtain ⟨k, rfl⟩ : ∃ j, k = j + 4 := ⟨k - 4, by omega⟩
  show impl_OpOk.f (k + 4) a b c = _
  simp only [impl_OpOk.f, impl_OpOk.j0, impl_OpOk.j1, impl_OpOk.j2, impl_KeyOk.f, impl_ValOk.f, impl_isClass.f, from_eq, Option.bind_some]
  rcases kinds10 a with rfl | rfl | rfl | rfl | rfl | rfl | rfl | rfl | rfl | rfl | h
  case inr.inr.inr.inr.inr.inr.inr.inr.inr.inr =>
    have g1 : ¬ a = 1 := by omega
    have g2 : ¬ a = 2 := by omega
    have g3 : ¬ a = 3 := by omega
    have g4 : ¬ a = 4 := by omega
    have g5 : ¬ a = 5 := by omega
    have g6 : ¬ a = 6 := by omega
    have g7 : ¬ a = 7 := by omega
    have g8 : ¬ a = 8 := by omega
    have g9 : ¬ a = 9 := by omega
    have g10 : ¬ a = 10 := by omega
    simp [opOkB, g1, g2, g3, g4, g5, g6, g7, g8, g9, g10]
  all_goals
    unfold opOkB
    generalize inB b 0 3 = p
    generalize inB c 1 6 = q
    generalize inB b 0 2 = s
    by_cases hc : c = 0 <;> by_cases hb : b = 0 <;> cases p <;> cases q <;> cases s <;> simp [hc, hb]
end Go.Proofs.Ytopikhjcbcpiaaa.Q
end
section
namespace Go.Proofs.Ytopikhjcbcpiaaa.Q
open Go.RowKit Go.Proofs.YtopikhjcbcpiaaaW.PrintWords Go.Proofs.YtopikhjcbcpiaaaX
theorem rd_nat (l : List Int) (i : Nat) : rd l (i : Int) = l.getD i 0 := by simp [rd]
theorem getD_at {l : List Int} {i : Nat} (h : i < l.length) : l.getD i 0 = l[i] := by simp [List.getD_eq_getElem?_getD, List.getElem?_eq_getElem h]
def idxFrom (v : Int) : List Int → Nat → Int
  | [], _ => -1
  | x :: xs, i => if x = v then (i : Int) else idxFrom v xs (i + 1)
def idxI (l : List Int) (v : Int) : Int := idxFrom v l 0
theorem idxFrom_at (v : Int) (l : List Int) (i : Nat) (h : i < l.length) : idxFrom v (l.drop i) i = if l.getD i 0 = v then (i : Int) else idxFrom v (l.drop (i + 1)) (i + 1) := by
  rw [List.drop_eq_getElem_cons h, idxFrom, getD_at h]
theorem ev_spec_KeyOf (l : List Int) (st v : Int) (hl : l.length ≤ 1048576) : Ev (fun k => spec_KeyOf.f k l st v) (idxI l v) := by
  refine ev_to (ev_down (g := fun k i => spec_KeyOf.l0 k v i l st) (R := fun i => idxFrom v (l.drop i) i) (n := l.length) (fun i hi h => ?_) 0 (by omega)) (by simp [idxI])
  by_cases hlt : i < l.length
  · rw [idxFrom_at v l i hlt]
    by_cases e : l.getD i 0 = v
    · rw [if_pos e]
      refine ev_succ (fun k => ?_)
      simp only [spec_KeyOf.l0, rd_nat]
      rw [if_pos (by omega), if_pos (by omega), if_pos e]
    · rw [if_neg e]
      refine Ev.step (fun k => ?_) (h hlt)
      simp only [spec_KeyOf.l0, rd_nat]
      rw [if_pos (by omega), if_pos (by omega), if_neg e, wrap_succ hlt (by omega)]
  · obtain rfl : i = l.length := by omega
    refine ev_succ (fun k => ?_)
    simp only [spec_KeyOf.l0]
    rw [if_neg (by omega)]
    simp [idxFrom]
theorem ev_Index (l : List Int) (v : Int) (hl : l.length ≤ 1048576) : Ev (fun k => slices_Index_int_int.f k l v) (idxI l v) := by
  refine ev_to (ev_down (g := fun k i => slices_Index_int_int.l0 k l v (l.length : Int) i) (R := fun i => idxFrom v (l.drop i) i) (n := l.length) (fun i hi h => ?_) 0 (by omega)) (by simp [idxI])
  by_cases hlt : i < l.length
  · rw [idxFrom_at v l i hlt]
    by_cases e : l.getD i 0 = v
    · rw [if_pos e]
      refine ev_succ (fun k => ?_)
      simp only [slices_Index_int_int.l0, rd_nat]
      rw [if_pos (by omega), if_pos (by omega), if_pos (by omega), if_pos e.symm]
    · rw [if_neg e]
      refine Ev.step (fun k => ?_) (h hlt)
      simp only [slices_Index_int_int.l0, rd_nat]
      rw [if_pos (by omega), if_pos (by omega), if_pos (by omega), if_neg (Ne.symm e), wrap_succ hlt (by omega)]
  · obtain rfl : i = l.length := by omega
    refine ev_succ (fun k => ?_)
    simp only [slices_Index_int_int.l0]
    rw [if_neg (by omega)]
    simp [idxFrom]
theorem ev_impl_KeyOf (l : List Int) (st v : Int) (hl : l.length ≤ 1048576) : Ev (fun k => impl_KeyOf.f k l st v) (idxI l v) :=
  Ev.bind (f := fun _ t => some t) (ev_Index l v hl) (Ev.now _)
theorem ev_Contains (l : List Int) (v : Int) (hl : l.length ≤ 1048576) : Ev (fun k => slices_Contains_int_int.f k l v) (decide (idxI l v ≥ 0)) :=
  Ev.bind (f := fun _ t => some (decide (t ≥ 0))) (ev_Index l v hl) (Ev.now _)
theorem idxFrom_bd (v : Int) : ∀ (l : List Int) (i : Nat), idxFrom v l i = -1 ∨ ((i : Int) ≤ idxFrom v l i ∧ idxFrom v l i < i + l.length)
  | [], i => .inl rfl
  | x :: xs, i => by
    unfold idxFrom
    by_cases e : x = v
    · rw [if_pos e]; right; simp; omega
    · rw [if_neg e]
      rcases idxFrom_bd v xs (i + 1) with h | ⟨h1, h2⟩
      · exact .inl h
      · right; simp only [List.length_cons]; omega
theorem idxFrom_mem (v : Int) : ∀ (l : List Int) (i : Nat), idxFrom v l i = -1 ↔ v ∉ l
  | [], i => by simp [idxFrom]
  | x :: xs, i => by
    unfold idxFrom
    by_cases e : x = v
    · rw [if_pos e]; simp [e]
    · rw [if_neg e, idxFrom_mem v xs (i + 1)]; simp [Ne.symm e]
theorem idxFrom_append (v : Int) : ∀ (l m : List Int) (i : Nat), v ∉ l → idxFrom v (l ++ m) i = idxFrom v m (i + l.length)
  | [], m, i, _ => by simp
  | x :: xs, m, i, h => by
    simp only [List.mem_cons, not_or] at h
    show (if x = v then (i : Int) else idxFrom v (xs ++ m) (i + 1)) = _
    rw [if_neg (Ne.symm h.1), idxFrom_append v xs m (i + 1) h.2]
    simp only [List.length_cons]
    congr 1
    omega
theorem idx_first (l : List Int) (i : Nat) (h : i < l.length) : idxI l (l.getD i 0) = (i : Int) ↔ ¬ idxI (l.take i) (l.getD i 0) ≥ 0 := by
  have hv := getD_at h
  constructor
  · intro he hc
    rcases idxFrom_bd (l.getD i 0) (l.take i) 0 with h1 | ⟨h1, h2⟩
    · unfold idxI at hc; omega
    · have hm : l.getD i 0 ∈ l.take i := by
        by_cases hm : l.getD i 0 ∈ l.take i
        · exact hm
        · have := (idxFrom_mem _ _ 0).2 hm
          unfold idxI at hc
          omega
      have key : ∀ (v : Int) (a b : List Int) (j : Nat), v ∈ a → idxFrom v (a ++ b) j = idxFrom v a j := by
        intro v a
        induction a with
        | nil => intro b j hm; cases hm
        | cons x xs ih =>
          intro b j hm
          show (if x = v then (j : Int) else idxFrom v (xs ++ b) (j + 1)) = (if x = v then (j : Int) else idxFrom v xs (j + 1))
          by_cases e : x = v
          · rw [if_pos e, if_pos e]
          · rw [if_neg e, if_neg e]
            refine ih b (j + 1) ?_
            rcases List.mem_cons.1 hm with h' | h'
            · exact absurd h'.symm e
            · exact h'
      unfold idxI at he
      have hs : l = l.take i ++ l.drop i := (List.take_append_drop i l).symm
      rw [hs, key _ _ _ 0 (by rw [← hs]; exact hm)] at he
      rw [← hs] at he
      rw [he] at h2
      simp at h2
      omega
  · intro hc
    have hm : l.getD i 0 ∉ l.take i := by
      refine (idxFrom_mem _ _ 0).1 ?_
      rcases idxFrom_bd (l.getD i 0) (l.take i) 0 with h1 | ⟨h1, h2⟩
      · exact h1
      · exact absurd (by unfold idxI; omega) hc
    have e : idxFrom (l.getD i 0) (l.take i ++ l.drop i) 0 = idxFrom (l.getD i 0) (l.drop i) (0 + (l.take i).length) := idxFrom_append _ _ _ _ hm
    rw [List.take_append_drop] at e
    unfold idxI
    rw [e, List.drop_eq_getElem_cons h, idxFrom, if_pos hv.symm]
    simp
    omega
def rowB (l : List Int) (i : Nat) : Bool := decide (l.getD i 0 = 0) || (inB (l.getD i 0) 1 6 && decide (idxI l (l.getD i 0) = (i : Int)))
def rowsOkB (l : List Int) (st : Int) : Bool := (List.range l.length).all (rowB l) && (decide (l.length = 4) && inB st 0 5)
theorem rowsDown {g : Nat → Int → Option Bool} (l : List Int) (rest : Bool)
    (hstep : ∀ i : Nat, i < l.length → (rowB l i = true → ∀ r, Ev (fun k => g k ((i + 1 : Nat) : Int)) r → Ev (fun k => g k (i : Int)) r) ∧ (rowB l i = false → Ev (fun k => g k (i : Int)) false))
    (hend : Ev (fun k => g k (l.length : Int)) rest) : Ev (fun k => g k 0) ((List.range l.length).all (rowB l) && rest) := by
  have key := ev_down (g := g) (R := fun i => ((List.range l.length).drop i).all (rowB l) && rest) (n := l.length) (fun i hi h => ?_) 0 (by omega)
  · simpa using key
  · by_cases hlt : i < l.length
    · have hd : ((List.range l.length).drop i).all (rowB l) = (rowB l i && ((List.range l.length).drop (i + 1)).all (rowB l)) := by
        rw [List.drop_eq_getElem_cons (by simpa using hlt), List.all_cons]
        simp
      rw [hd]
      have hs := hstep i hlt
      cases hq : rowB l i with
      | true => exact ev_to (hs.1 hq _ (h hlt)) (by simp)
      | false => exact ev_to (hs.2 hq) (by simp)
    · obtain rfl : i = l.length := by omega
      exact ev_to hend (by rw [List.drop_eq_nil_of_le (by simp)]; simp)
theorem ev_spec_RowsOk (l : List Int) (st : Int) (hl : l.length ≤ 1048576) : Ev (fun k => spec_RowsOk.f k l st) (rowsOkB l st) := by
  refine rowsDown (g := fun k i => spec_RowsOk.l0 k i l st) l _ (fun i hi => ?_) ?_
  · have hk := ev_spec_KeyOf l st (l.getD i 0) hl
    have step : ∀ k, spec_RowsOk.l0 (k + 1) (i : Int) l st = if l.getD i 0 = 0 then spec_RowsOk.l0 k ((i + 1 : Nat) : Int) l st else if inB (l.getD i 0) 1 6 = true then (spec_KeyOf.f k l st (l.getD i 0)).bind fun t => if t = (i : Int) then spec_RowsOk.l0 k ((i + 1 : Nat) : Int) l st else some false else some false := by
      intro k
      simp only [spec_RowsOk.l0, rd_nat, spec_ValOk.f, l1In_eq, Option.bind_some]
      rw [if_pos (by omega), if_pos (by omega), wrap_succ hi (by omega)]
    constructor
    · intro hq r hr
      refine Ev.step step ?_
      unfold rowB at hq
      by_cases e0 : l.getD i 0 = 0
      · exact ev_pos e0 hr
      · simp only [decide_eq_false e0, Bool.false_or, Bool.and_eq_true, decide_eq_true_eq] at hq
        refine ev_neg e0 (ev_pos hq.1 (Ev.bind (f := fun k t => if t = (i : Int) then spec_RowsOk.l0 k ((i + 1 : Nat) : Int) l st else some false) hk ?_))
        exact ev_pos hq.2 hr
    · intro hq
      refine Ev.step step ?_
      unfold rowB at hq
      simp only [Bool.or_eq_false_iff, decide_eq_false_iff_not, Bool.and_eq_false_iff] at hq
      refine ev_neg hq.1 (ev_ite (fun c => Ev.bind (f := fun k t => if t = (i : Int) then spec_RowsOk.l0 k ((i + 1 : Nat) : Int) l st else some false) hk ?_) (fun _ => Ev.now _))
      rcases hq.2 with h' | h'
      · rw [h'] at c; cases c
      · exact ev_neg h' (Ev.now _)
  · refine ev_succ (fun k => ?_)
    simp only [spec_RowsOk.l0, l1In_eq, Option.bind_some]
    rw [if_neg (by omega)]
    by_cases e : l.length = 4
    · rw [if_pos (by omega)]; simp [e]
    · rw [if_neg (by omega)]; simp [e]
theorem ev_impl_RowsOk (l : List Int) (st : Int) (hl : l.length ≤ 1048576) : Ev (fun k => impl_RowsOk.f k l st) (rowsOkB l st) := by
  refine rowsDown (g := fun k i => impl_RowsOk.l0 k l (l.length : Int) i l st) l _ (fun i hi => ?_) ?_
  · have hk := ev_Contains (l.take i) (l.getD i 0) (by rw [List.length_take]; omega)
    have hidx := idx_first l i hi
    have step : ∀ k, impl_RowsOk.l0 (k + 1) l (l.length : Int) (i : Int) l st = if l.getD i 0 = 0 then impl_RowsOk.l0 k l (l.length : Int) ((i + 1 : Nat) : Int) l st else if inB (l.getD i 0) 1 6 = true then (slices_Contains_int_int.f k (l.take i) (l.getD i 0)).bind fun t => if t = true then some false else impl_RowsOk.l0 k l (l.length : Int) ((i + 1 : Nat) : Int) l st else some false := by
      intro k
      simp only [impl_RowsOk.l0, rd_nat, impl_ValOk.f, from_eq, Option.bind_some]
      rw [if_pos (by omega), if_pos (by omega), if_pos (by omega), wrap_succ hi (by omega), if_pos (show (i : Int) ≤ (l.length : Int) by omega), Int.toNat_natCast]
    constructor
    · intro hq r hr
      refine Ev.step step ?_
      unfold rowB at hq
      by_cases e0 : l.getD i 0 = 0
      · exact ev_pos e0 hr
      · simp only [decide_eq_false e0, Bool.false_or, Bool.and_eq_true, decide_eq_true_eq] at hq
        refine ev_neg e0 (ev_pos hq.1 (Ev.bind (f := fun k t => if t = true then some false else impl_RowsOk.l0 k l (l.length : Int) ((i + 1 : Nat) : Int) l st) hk ?_))
        exact ev_neg (by simpa using hidx.1 hq.2) hr
    · intro hq
      refine Ev.step step ?_
      unfold rowB at hq
      simp only [Bool.or_eq_false_iff, decide_eq_false_iff_not, Bool.and_eq_false_iff] at hq
      refine ev_neg hq.1 (ev_ite (fun c => Ev.bind (f := fun k t => if t = true then some false else impl_RowsOk.l0 k l (l.length : Int) ((i + 1 : Nat) : Int) l st) hk ?_) (fun _ => Ev.now _))
      rcases hq.2 with h' | h'
      · rw [h'] at c; cases c
      · refine ev_pos ?_ (Ev.now _)
        have := mt hidx.2 h'
        simpa using this
  · refine ev_succ (fun k => ?_)
    simp only [impl_RowsOk.l0, from_eq, Option.bind_some]
    rw [if_neg (by omega)]
    by_cases e : l.length = 4
    · rw [if_pos (by omega)]; simp [e]
    · rw [if_neg (by omega)]; simp [e]
theorem drop_at {l : List Int} {i : Nat} (h : i < l.length) : l.drop i = l.getD i 0 :: l.drop (i + 1) := by rw [List.drop_eq_getElem_cons h, getD_at h]
theorem ev_Equal (a b : List Int) (ha : a.length ≤ 1048576) : Ev (fun k => slices_Equal_int_int.f k a b) (decide (a = b)) := by
  unfold slices_Equal_int_int.f
  by_cases hl : a.length = b.length
  · refine ev_pos (by omega) (ev_to (ev_down (g := fun k i => slices_Equal_int_int.l0 k a b (a.length : Int) i) (R := fun i => decide (a.drop i = b.drop i)) (n := a.length) (fun i hi h => ?_) 0 (by omega)) (by simp))
    by_cases hlt : i < a.length
    · rw [drop_at hlt, drop_at (show i < b.length by omega)]
      by_cases e : a.getD i 0 = b.getD i 0
      · refine ev_to (Ev.step (fun k => ?_) (h hlt)) (by rw [e]; simp)
        simp only [slices_Equal_int_int.l0, rd_nat]
        rw [if_pos (by omega), if_pos (by omega), if_pos (by omega), if_pos (by omega), if_pos e, wrap_succ hlt (by omega)]
      · refine ev_to (ev_succ (fun k => ?_) (r := false)) (Eq.symm (decide_eq_false (fun hc => e (by simp only [List.cons.injEq, false_and, and_false] at hc; first | exact hc.1 | exact hc.1.1))))
        simp only [slices_Equal_int_int.l0, rd_nat]
        rw [if_pos (by omega), if_pos (by omega), if_pos (by omega), if_pos (by omega), if_neg e]
    · refine ev_to (ev_succ (fun k => ?_) (r := true)) ?_
      · simp only [slices_Equal_int_int.l0]
        rw [if_neg (by omega)]
      · rw [List.drop_eq_nil_of_le (by omega), List.drop_eq_nil_of_le (by omega)]; simp
  · refine ev_neg (by omega) (ev_to (Ev.now false) ?_)
    have : ¬ a = b := fun h => hl (by rw [h])
    simp [this]
theorem ev_Ints (a b : List Int) (ha : a.length ≤ 1048576) : Ev (fun k => spec_l4Ints.f k a b) (decide (a = b)) := by
  have j : ∀ (x : Int) (c : Bool) (r : Bool), Ev (fun k => spec_l4Ints.j1 k a b x c) r → ∀ g : Nat → Option Bool, (∀ k, g (k + 1) = spec_l4Ints.j1 k a b x c) → Ev g r := fun x c r h g hg => Ev.step hg h
  have fin : ∀ x, Ev (fun k => spec_l4Ints.j1 k a b x false) ((a.length : Int) == (b.length : Int)) := fun x => ev_succ (fun k => by simp [spec_l4Ints.j1])
  refine ev_to (ev_down (g := fun k i => spec_l4Ints.l0 k a b i) (R := fun i => decide (a.drop i = b.drop i ∧ (i ≤ b.length))) (n := a.length) (fun i hi h => ?_) 0 (by omega)) (by simp)
  by_cases hlt : i < a.length
  · by_cases hb : i < b.length
    · rw [drop_at hlt, drop_at hb]
      refine Ev.step (f := fun k => spec_l4Ints.j1 k a b (i : Int) true) (fun k => ?_) ?_
      · simp only [spec_l4Ints.l0]
        rw [if_pos (by omega), decide_eq_true (show (i : Int) < (b.length : Int) by omega)]
      · by_cases e : a.getD i 0 = b.getD i 0
        · refine ev_to (Ev.step (fun k => ?_) (h hlt)) ?_
          · simp only [spec_l4Ints.j1, rd_nat]
            rw [if_pos trivial, if_pos (by omega), if_pos (by omega), if_pos (by omega), if_pos e, wrap_succ hlt (by omega)]
          · have h1 : i + 1 ≤ b.length := by omega
            have h2 : i ≤ b.length := by omega
            rw [e]; simp [h1, h2]
        · refine ev_to (ev_succ (fun k => ?_) (r := false)) (Eq.symm (decide_eq_false (fun hc => e (by simp only [List.cons.injEq, false_and, and_false] at hc; first | exact hc.1 | exact hc.1.1))))
          simp only [spec_l4Ints.j1, rd_nat]
          rw [if_pos trivial, if_pos (by omega), if_pos (by omega), if_pos (by omega), if_neg e]
    · refine Ev.step (f := fun k => spec_l4Ints.j1 k a b (i : Int) false) (fun k => ?_) (ev_to (fin _) ?_)
      · simp only [spec_l4Ints.l0]
        rw [if_pos (by omega), decide_eq_false (show ¬ (i : Int) < (b.length : Int) by omega)]
      · have h1 : ¬ (a.length : Int) = (b.length : Int) := by omega
        have h2 : ¬ (a.drop i = b.drop i) := by
          rw [drop_at hlt, List.drop_eq_nil_of_le (show b.length ≤ i by omega)]; simp
        simp [h2]
        omega
  · obtain rfl : i = a.length := by omega
    refine Ev.step (f := fun k => spec_l4Ints.j1 k a b (a.length : Int) false) (fun k => ?_) (ev_to (fin _) ?_)
    · simp only [spec_l4Ints.l0]
      rw [if_neg (by omega)]
    · rw [List.drop_length, Bool.eq_iff_iff]
      simp
      constructor
      · intro e; omega
      · intro e; omega
end Go.Proofs.Ytopikhjcbcpiaaa.Q
end
section
namespace Go.Proofs.Ytopikhjcbcpiaaa.Q
open Go.RowKit Go.Proofs.YtopikhjcbcpiaaaW.PrintWords Go.Proofs.YtopikhjcbcpiaaaX
theorem impl_ValOk_eq (a : Int) : impl_ValOk.f a = some (inB a 1 6) := by simp [impl_ValOk.f, from_eq]
theorem spec_ValOk_eq (a : Int) : spec_ValOk.f a = some (inB a 1 6) := by simp [spec_ValOk.f, l1In_eq]
theorem impl_ClassOf_eq (a : Int) : impl_ClassOf.f a = some (if inB a 1 6 = true then Int.tmod a 3 else -1) := by
  by_cases h : inB a 1 6 = true <;> simp [impl_ClassOf.f, impl_ValOk_eq, h]
theorem spec_ClassOf_eq (a : Int) : spec_ClassOf.f a = some (if inB a 1 6 = true then Int.tmod a 3 else -1) := by
  by_cases h : inB a 1 6 = true <;> simp [spec_ClassOf.f, spec_ValOk_eq, h]
theorem howMany_both (l : List Int) (st c : Int) (hl : l.length ≤ 1048576) : ∃ r, Ev (fun k => spec_HowMany.f k l st c) r ∧ Ev (fun k => impl_HowMany.f k l st c) r := by
  have key : ∀ (d i : Nat) (x : Int), i + d = l.length → -9223372036854775808 ≤ x → x ≤ 9223372036854775807 → ∃ r, Ev (fun k => spec_HowMany.l0 k c x (i : Int) l st) r ∧ Ev (fun k => impl_HowMany.l0 k c x l (l.length : Int) (i : Int)) r := by
    intro d
    induction d with
    | zero =>
      intro i x hi _ _
      refine ⟨x, ev_succ (fun k => ?_), ev_succ (fun k => ?_)⟩
      · simp only [spec_HowMany.l0]; rw [if_neg (by omega)]
      · simp only [impl_HowMany.l0]; rw [if_neg (by omega)]
    | succ d ih =>
      intro i x hi h0 h1
      have hlt : i < l.length := by omega
      have e0 : wrap64 x = x := wrap_in h0 h1
      by_cases hv : inB (rd l (i : Int)) 1 6 = true
      · by_cases hc : Int.tmod (rd l (i : Int)) 3 = c
        · have hw : -9223372036854775808 ≤ wrap64 (x + 1) ∧ wrap64 (x + 1) ≤ 9223372036854775807 := by unfold wrap64; omega
          obtain ⟨r, hs, hm⟩ := ih (i + 1) (wrap64 (x + 1)) (by omega) hw.1 hw.2
          refine ⟨r, Ev.step (fun k => ?_) hs, Ev.step (fun k => ?_) hm⟩
          · simp only [spec_HowMany.l0, spec_ValOk_eq, spec_ClassOf_eq, Option.bind_some]
            rw [if_pos (by omega), if_pos (by omega), if_pos hv, if_pos hv, wrap_succ hlt (by omega)]
            simp [spec_l1Bit.f, hc]
          · simp only [impl_HowMany.l0, impl_ValOk_eq, impl_ClassOf_eq, Option.bind_some]
            rw [if_pos (by omega), if_pos (by omega), if_pos (by omega), if_pos hv, if_pos hv, if_pos hc, wrap_succ hlt (by omega)]
        · obtain ⟨r, hs, hm⟩ := ih (i + 1) x (by omega) h0 h1
          refine ⟨r, Ev.step (fun k => ?_) hs, Ev.step (fun k => ?_) hm⟩
          · simp only [spec_HowMany.l0, spec_ValOk_eq, spec_ClassOf_eq, Option.bind_some]
            rw [if_pos (by omega), if_pos (by omega), if_pos hv, if_pos hv, wrap_succ hlt (by omega)]
            have hc' : (Int.tmod (rd l (i : Int)) 3 == c) = false := beq_eq_false_iff_ne.mpr hc
            simp [spec_l1Bit.f, hc', e0]
          · simp only [impl_HowMany.l0, impl_ValOk_eq, impl_ClassOf_eq, Option.bind_some]
            rw [if_pos (by omega), if_pos (by omega), if_pos (by omega), if_pos hv, if_pos hv, if_neg hc, wrap_succ hlt (by omega)]
      · obtain ⟨r, hs, hm⟩ := ih (i + 1) x (by omega) h0 h1
        refine ⟨r, Ev.step (fun k => ?_) hs, Ev.step (fun k => ?_) hm⟩
        · simp only [spec_HowMany.l0, spec_ValOk_eq, spec_ClassOf_eq, Option.bind_some]
          rw [if_pos (by omega), if_pos (by omega), if_neg hv, wrap_succ hlt (by omega)]
          simp [spec_l1Bit.f, e0]
        · simp only [impl_HowMany.l0, impl_ValOk_eq, impl_ClassOf_eq, Option.bind_some]
          rw [if_pos (by omega), if_pos (by omega), if_pos (by omega), if_neg hv, wrap_succ hlt (by omega)]
  exact key l.length 0 0 (by omega) (by omega) (by omega)
theorem inB_iff {a b c : Int} : inB a b c = true ↔ b ≤ a ∧ a ≤ c := by simp [inB]
theorem opOk_place {a b c : Int} (h : opOkB a b c = true) (ha : a = 1 ∨ a = 2 ∨ a = 3 ∨ a = 4) : 0 ≤ b ∧ b < 4 := by
  rcases ha with rfl | rfl | rfl | rfl <;> simp [opOkB, inB] at h <;> omega
theorem opOk_kind {a b c : Int} (h : opOkB a b c = true) : 1 ≤ a ∧ a ≤ 10 := by
  rcases kinds10 a with rfl | rfl | rfl | rfl | rfl | rfl | rfl | rfl | rfl | rfl | h'
  case inr.inr.inr.inr.inr.inr.inr.inr.inr.inr =>
    have h2 : ¬ (a = 1 ∨ a = 2) := by omega
    have h3 : ¬ (a = 3 ∨ a = 4) := by omega
    have h4 : ¬ (a = 5 ∨ a = 10) := by omega
    have h5 : ¬ a = 6 := by omega
    have h6 : ¬ (a = 7 ∨ a = 8 ∨ a = 9) := by omega
    simp [opOkB, h2, h3, h4, h5, h6] at h
  all_goals omega
theorem done_both (l : List Int) (st a b c : Int) (hl : l.length = 4) (hst : 0 ≤ st ∧ st ≤ 5) (ho : opOkB a b c = true) :
    ∃ r, Ev (fun k => spec_l4Done.f k l st a b c) r ∧ Ev (fun k => impl_success.f k l st a b c) r ∧ r.1.length ≤ 4 := by
  have hs := ev_spec_KeyOf l st c (by omega)
  have hm := ev_impl_KeyOf l st c (by omega)
  generalize idxI l c = t at hs hm
  have hk := opOk_kind ho
  unfold spec_l4Done.f impl_success.f
  simp only [Option.bind_some]
  have go : ∀ (r : List Int × Bool) (_ : r.1.length ≤ 4) (f g : Nat → Int → Option (List Int × Bool)), Ev (fun k => f k t) r → Ev (fun k => g k t) r →
      ∃ r, Ev (fun k => (spec_KeyOf.f k l st c).bind (f k)) r ∧ Ev (fun k => (impl_KeyOf.f k l st c).bind (g k)) r ∧ r.1.length ≤ 4 :=
    fun r hr f g h1 h2 => ⟨r, Ev.bind hs h1, Ev.bind hm h2, hr⟩
  have place := opOk_place ho
  rcases (show a = 1 ∨ a = 2 ∨ a = 3 ∨ a = 4 ∨ a = 5 ∨ a = 6 ∨ a = 7 ∨ a = 8 ∨ a = 9 ∨ a = 10 by omega) with rfl | rfl | rfl | rfl | rfl | rfl | rfl | rfl | rfl | rfl
  · obtain ⟨p0, p1⟩ := place (by omega)
    have p2 : b < (l.length : Int) := by omega
    by_cases e : rd l b = 0
    · exact go ([], decide (t < 0)) (by first | exact Nat.le_of_eq hl | simp) _ _ (ev_of fun k => by simp [p0, p2, e]) (ev_of fun k => by simp [p0, p2, e])
    · exact go ([], false) (by first | exact Nat.le_of_eq hl | simp) _ _ (ev_of fun k => by simp [p0, p2, e]) (ev_of fun k => by simp [p0, p2, e])
  · obtain ⟨p0, p1⟩ := place (by omega)
    have p2 : b < (l.length : Int) := by omega
    by_cases e : rd l b = 0
    · exact go ([], false) (by first | exact Nat.le_of_eq hl | simp) _ _ (ev_of fun k => by simp [p0, p2, e]) (ev_of fun k => by simp [p0, p2, e])
    · by_cases et : t < 0
      · exact go ([], true) (by first | exact Nat.le_of_eq hl | simp) _ _ (ev_of fun k => by simp [p0, p2, e, et]) (ev_of fun k => by simp [p0, p2, e, et])
      · exact go ([], t == b) (by first | exact Nat.le_of_eq hl | simp) _ _ (ev_of fun k => by simp [p0, p2, e, et]) (ev_of fun k => by simp [p0, p2, e, et])
  · obtain ⟨p0, p1⟩ := place (by omega)
    have p2 : b < (l.length : Int) := by omega
    exact go ([], rd l b != 0) (by first | exact Nat.le_of_eq hl | simp) _ _ (ev_of fun k => by simp [p0, p2]) (ev_of fun k => by simp [p0, p2])
  · obtain ⟨p0, p1⟩ := place (by omega)
    have p2 : b < (l.length : Int) := by omega
    exact go ([rd l b], rd l b != 0) (by first | exact Nat.le_of_eq hl | simp) _ _ (ev_of fun k => by simp [p0, p2]) (ev_of fun k => by simp [p0, p2])
  · exact go ([t], decide (t ≥ 0)) (by first | exact Nat.le_of_eq hl | simp) _ _ (ev_of fun k => by simp) (ev_of fun k => by simp)
  · obtain ⟨q, hq1, hq2⟩ := howMany_both l st b (by omega)
    refine go ([q], true) (by first | exact Nat.le_of_eq hl | simp) _ _ ?_ ?_
    · exact Ev.bind (f := fun _ x => some ([x], true)) hq1 (Ev.now _)
    · exact Ev.bind (f := fun _ x => some ([x], true)) hq2 (Ev.now _)
  · exact go (l, true) (by first | exact Nat.le_of_eq hl | simp) _ _ (ev_of fun k => by simp [hl]) (ev_of fun k => by simp)
  · exact go ([], st == 0) (by first | exact Nat.le_of_eq hl | simp) _ _ (ev_of fun k => by simp) (ev_of fun k => by simp)
  · refine go ([], inB st 1 4) (by first | exact Nat.le_of_eq hl | simp) _ _ (ev_of fun k => by simp [l1In_eq]) (ev_of fun k => ?_)
    by_cases e : st = 0
    · simp [e, inB]
    · have : inB st 1 4 = !(st == 5) := by
        rw [Bool.eq_iff_iff]; simp [inB]; omega
      simp [e, impl_made.f, this]
  · refine go ([t], decide (st = 5) && decide (t ≥ 0)) (by first | exact Nat.le_of_eq hl | simp) _ _ (ev_of fun k => ?_) (ev_of fun k => ?_)
    · by_cases e : st = 5 <;> simp [e]
    · by_cases e : t ≥ 0
      · simp [e, impl_made.f]; rfl
      · simp [e]
theorem fails_both (l : List Int) (st a b c code : Int) (hl : l.length = 4) (_hst : 0 ≤ st ∧ st ≤ 5) (ho : opOkB a b c = true) :
    ∃ r, Ev (fun k => spec_l4Fails.f k l st a b c code) r ∧ Ev (fun k => impl_refusal.f k l st a b c code) r := by
  have hs := ev_spec_KeyOf l st c (by omega)
  have hm := ev_impl_KeyOf l st c (by omega)
  generalize idxI l c = t at hs hm
  have hk := opOk_kind ho
  unfold spec_l4Fails.f impl_refusal.f
  have go : ∀ (r : Bool) (f g : Nat → Int → Option Bool), (∀ k, f (k + 1) t = some r) → (∀ k, g (k + 3) t = some r) →
      ∃ r, Ev (fun k => (spec_KeyOf.f k l st c).bind (f k)) r ∧ Ev (fun k => (impl_KeyOf.f k l st c).bind (g k)) r := by
    intro r f g h1 h2
    refine ⟨r, Ev.bind hs (ev_succ h1), Ev.bind hm ⟨3, fun k hk => ?_⟩⟩
    obtain ⟨j, rfl⟩ : ∃ j, k = j + 3 := ⟨k - 3, by omega⟩
    exact h2 j
  have place := opOk_place ho
  have hx : decide (0 ≤ t) = !decide (t < 0) := by by_cases h : t < 0 <;> simp [h] <;> omega
  have hcode : code = 1 ∨ code = 2 ∨ code = 3 ∨ code = 4 ∨ (¬ code = 1 ∧ ¬ code = 2 ∧ ¬ code = 3 ∧ ¬ code = 4) := by omega
  rcases hcode with rfl | rfl | rfl | rfl | ⟨n1, n2, n3, n4⟩
  · by_cases e : a = 1
    · obtain ⟨p0, p1⟩ := place (by omega)
      have p2 : b < (l.length : Int) := by omega
      exact go (rd l b != 0) _ _ (fun k => by simp [p0, p2, e]) (fun k => by simp [p0, p2, e])
    · exact go false _ _ (fun k => by simp [e]) (fun k => by simp [e])
  · by_cases e : a = 1
    · exact go (decide (t ≥ 0)) _ _ (fun k => by simp [e]) (fun k => by simp [e])
    · by_cases e' : a = 2
      · exact go (decide (t ≥ 0)) _ _ (fun k => by simp [e']) (fun k => by simp [e'])
      · exact go false _ _ (fun k => by simp [e, e']) (fun k => by simp [e, e'])
  · rcases (show (a = 2 ∨ a = 3 ∨ a = 4) ∨ (¬ a = 2 ∧ ¬ a = 3 ∧ ¬ a = 4) by omega) with e | ⟨g2, g3, g4⟩
    · obtain ⟨p0, p1⟩ := place (by omega)
      have p2 : b < (l.length : Int) := by omega
      rcases e with rfl | rfl | rfl
      all_goals exact go (rd l b == 0) _ _ (fun k => by simp [spec_l4Fails.j0, p0, p2]) (fun k => by simp [impl_refusal.j0, p0, p2])
    · by_cases e5 : a = 5
      · refine go (decide (t < 0)) _ _ (fun k => ?_) (fun k => ?_)
        · simp [spec_l4Fails.j0, e5]; exact hx
        · by_cases et : t < 0 <;> simp [impl_refusal.j0, e5, et]
      · by_cases e10 : a = 10
        · refine go (decide (t < 0) && (st == 5)) _ _ (fun k => ?_) (fun k => ?_)
          · by_cases es : st = 5
            · simp [spec_l4Fails.j0, e10, es]; exact hx
            · simp [spec_l4Fails.j0, e10, es]
          · by_cases et : t < 0 <;> simp [impl_refusal.j0, impl_made.f, e10, et]
        · exact go false _ _ (fun k => by simp [spec_l4Fails.j0, g2, g3, g4, e5, e10]) (fun k => by by_cases et : t < 0 <;> simp [impl_refusal.j0, g2, g3, g4, e5, e10, et])
  · by_cases e8 : a = 8
    · exact go (st != 0) _ _ (fun k => by simp [e8]) (fun k => by simp [impl_refusal.j0, impl_refusal.j1, e8])
    · by_cases e9 : a = 9
      · by_cases es : st = 0
        · exact go true _ _ (fun k => by simp [e9, es]) (fun k => by simp [impl_refusal.j0, impl_refusal.j1, impl_refusal.j2, e9, es])
        · exact go (st == 5) _ _ (fun k => by simp [e9, es]) (fun k => by simp [impl_refusal.j0, impl_refusal.j1, impl_refusal.j2, impl_made.f, e9, es])
      · by_cases e10 : a = 10
        · exact go (!(st == 5)) _ _ (fun k => by simp [e10]) (fun k => by simp [impl_refusal.j0, impl_refusal.j1, impl_refusal.j2, impl_made.f, e10])
        · exact go false _ _ (fun k => by simp [e8, e9, e10]) (fun k => by simp [impl_refusal.j0, impl_refusal.j1, impl_refusal.j2, e8, e9, e10])
  · exact go false _ _ (fun k => by simp [n1, n2, n3, n4]) (fun k => by simp [impl_refusal.j0, impl_refusal.j1, impl_refusal.j2, n1, n2, n3, n4])
theorem allowed_both (l : List Int) (st a b c code : Int) (res : List Int) (hl : l.length ≤ 1048576) :
    ∃ r, Ev (fun k => spec_Allowed.f k l st a b c code res) r ∧ Ev (fun k => impl_Allowed.f k l st a b c code res) r ∧ (r = true → rowsOkB l st = true ∧ opOkB a b c = true) := by
  have r1 := ev_spec_RowsOk l st hl
  have r2 := ev_impl_RowsOk l st hl
  have o1 := ev_spec_OpOk a b c
  have o2 := ev_impl_OpOk a b c
  unfold spec_Allowed.f impl_Allowed.f
  by_cases hrow : rowsOkB l st = true
  · by_cases hop : opOkB a b c = true
    · rw [hrow] at r1 r2
      rw [hop] at o1 o2
      have hrow' := hrow
      unfold rowsOkB at hrow'
      simp only [Bool.and_eq_true, decide_eq_true_eq, inB_iff] at hrow'
      obtain ⟨_, h4, hst⟩ := hrow'
      have fin : ∀ r, Ev (fun k => spec_Allowed.j0 k false l st a b c code res) r → Ev (fun k => impl_Allowed.j0 k false l st a b c code res) r → _ := fun r j1 j2 =>
        (⟨r, Ev.bind r1 (ev_pos rfl (Ev.bind o1 j1)), Ev.bind r2 (ev_pos rfl (Ev.bind o2 j2)), fun _ => ⟨hrow, hop⟩⟩ : ∃ r, Ev (fun k => (spec_RowsOk.f k l st).bind fun t508 => (if t508 = true then ((spec_OpOk.f k a b c).bind fun t509 => (spec_Allowed.j0 k (!t509) l st a b c code res)) else (spec_Allowed.j0 k true l st a b c code res))) r ∧ Ev (fun k => (impl_RowsOk.f k l st).bind fun t594 => (if t594 = true then ((impl_OpOk.f k a b c).bind fun t595 => (impl_Allowed.j0 k (!t595) l st a b c code res)) else (impl_Allowed.j0 k true l st a b c code res))) r ∧ (r = true → rowsOkB l st = true ∧ opOkB a b c = true))
      by_cases hc : code = 0
      · obtain ⟨⟨q, qb⟩, d1, d2, hq4⟩ := done_both l st a b c h4 hst hop
        cases qb with
        | false =>
          refine fin false (Ev.step (f := fun k => (spec_l4Done.f k l st a b c).bind fun bt => if bt.2 = true then ((spec_l4Ints.f k bt.1 res).bind fun t => some t) else some false) (fun k => by simp [spec_Allowed.j0, hc]) (Ev.bind d1 ?_)) (Ev.step (f := fun k => (impl_success.f k l st a b c).bind fun bt => if bt.2 = true then ((slices_Equal_int_int.f k bt.1 res).bind fun t => some t) else some false) (fun k => by simp [impl_Allowed.j0, hc]) (Ev.bind d2 ?_))
          · exact ev_of fun k => by simp
          · exact ev_of fun k => by simp
        | true =>
          have hq : q.length ≤ 1048576 := Nat.le_trans hq4 (by omega)
          have i1 : Ev (fun k => spec_l4Ints.f k q res) (decide (q = res)) := ev_Ints q res hq
          have i2 : Ev (fun k => slices_Equal_int_int.f k q res) (decide (q = res)) := ev_Equal q res hq
          refine fin (decide (q = res)) (Ev.step (f := fun k => (spec_l4Done.f k l st a b c).bind fun bt => if bt.2 = true then ((spec_l4Ints.f k bt.1 res).bind fun t => some t) else some false) (fun k => by simp [spec_Allowed.j0, hc]) (Ev.bind d1 ?_)) (Ev.step (f := fun k => (impl_success.f k l st a b c).bind fun bt => if bt.2 = true then ((slices_Equal_int_int.f k bt.1 res).bind fun t => some t) else some false) (fun k => by simp [impl_Allowed.j0, hc]) (Ev.bind d2 ?_))
          · exact ev_pos rfl (Ev.bind (f := fun _ t => some t) i1 (Ev.now _))
          · exact ev_pos rfl (Ev.bind (f := fun _ t => some t) i2 (Ev.now _))
      · by_cases hz : res.length = 0
        · obtain ⟨q, d1, d2⟩ := fails_both l st a b c code h4 hst hop
          refine fin q (Ev.step (f := fun k => (spec_l4Fails.f k l st a b c code).bind fun t => some t) (fun k => by simp [spec_Allowed.j0, hc, hz]) (Ev.bind (f := fun _ t => some t) d1 (Ev.now _))) (Ev.step (f := fun k => (impl_refusal.f k l st a b c code).bind fun t => some t) (fun k => by simp [impl_Allowed.j0, hc, hz]) (Ev.bind (f := fun _ t => some t) d2 (Ev.now _)))
        · refine fin false (ev_succ fun k => ?_) (ev_succ fun k => ?_)
          · have : ¬ (res.length : Int) = 0 := by omega
            simp only [spec_Allowed.j0]; rw [if_neg (by simp), if_neg hc, if_neg this]
          · have : ¬ (res.length : Int) = 0 := by omega
            simp only [impl_Allowed.j0]; rw [if_neg (by simp), if_neg hc, if_neg this]
    · have hop' : opOkB a b c = false := by simpa using hop
      rw [hrow] at r1 r2
      rw [hop'] at o1 o2
      exact ⟨false, Ev.bind r1 (ev_pos rfl (Ev.bind o1 (ev_succ fun k => by simp [spec_Allowed.j0]))), Ev.bind r2 (ev_pos rfl (Ev.bind o2 (ev_succ fun k => by simp [impl_Allowed.j0]))), fun h => by simp at h⟩
  · have hrow' : rowsOkB l st = false := by simpa using hrow
    rw [hrow'] at r1 r2
    exact ⟨false, Ev.bind r1 (ev_neg (by simp) (ev_succ fun k => by simp [spec_Allowed.j0])), Ev.bind r2 (ev_neg (by simp) (ev_succ fun k => by simp [impl_Allowed.j0])), fun h => by simp at h⟩
theorem after_both (l : List Int) (st a b c code : Int) (res : List Int) (hl : l.length ≤ 1048576) :
    ∃ r, Ev (fun k => spec_After.f k l st a b c code res) r ∧ Ev (fun k => impl_After.f k l st a b c code res) r ∧ r.1.length = l.length := by
  obtain ⟨q, a1, a2, hq⟩ := allowed_both l st a b c code res hl
  have c1 : spec_l3Copy.f l st = some (l, st) := by
    simp only [spec_l3Copy.f, Option.bind_some]
    rw [if_pos (by simp; omega)]; simp
  have c2 : impl_copyRows.f l st = some (l, st) := by
    simp only [impl_copyRows.f, slices_Clone_int_int.f]
    rw [if_pos (by omega)]; rfl
  unfold spec_After.f impl_After.f
  simp only [c1, c2, Option.bind_some]
  have fin : ∀ r, r.1.length = l.length → Ev (fun k => if q = true then (spec_After.j0 k (code != 0) l st a b c l st) else (spec_After.j0 k true l st a b c l st)) r → Ev (fun k => if q = true then (impl_After.j0 k (code != 0) a b c l st) else (impl_After.j0 k true a b c l st)) r → _ := fun r hr j1 j2 =>
    (⟨r, Ev.bind a1 j1, Ev.bind a2 j2, hr⟩ : ∃ r, Ev (fun k => (spec_Allowed.f k l st a b c code res).bind fun t533 => (if t533 = true then (spec_After.j0 k (code != 0) l st a b c l st) else (spec_After.j0 k true l st a b c l st))) r ∧ Ev (fun k => (impl_Allowed.f k l st a b c code res).bind fun t616 => (if t616 = true then (impl_After.j0 k (code != 0) a b c l st) else (impl_After.j0 k true a b c l st))) r ∧ r.1.length = l.length)
  cases q with
  | false => exact fin (l, st) rfl (ev_neg (by simp) (ev_succ fun k => by simp [spec_After.j0])) (ev_neg (by simp) (ev_succ fun k => by simp [impl_After.j0]))
  | true =>
    obtain ⟨hrow, hop⟩ := hq rfl
    by_cases hc : code = 0
    · subst hc
      have two : ∀ (g : Nat → Option (List Int × Int)) (r : List Int × Int), (∀ k, g (k + 2) = some r) → Ev g r := fun g r h => ⟨2, fun k hk => by
        obtain ⟨j, rfl⟩ : ∃ j, k = j + 2 := ⟨k - 2, by omega⟩
        exact h j⟩
      unfold rowsOkB at hrow
      simp only [Bool.and_eq_true, decide_eq_true_eq, inB_iff] at hrow
      obtain ⟨_, h4, hst⟩ := hrow
      have hk := opOk_kind hop
      have place := opOk_place hop
      by_cases e12 : a = 1 ∨ a = 2
      · obtain ⟨p0, p1⟩ := place (by omega)
        have p2 : b < (l.length : Int) := by omega
        rcases e12 with rfl | rfl
        all_goals exact fin (l.set b.toNat c, st) (by simp) (ev_pos rfl (two _ _ fun k => by simp [spec_After.j0, spec_After.j1, p0, p2])) (ev_pos rfl (two _ _ fun k => by simp [impl_After.j0, impl_After.j1, p0, p2]))
      · have n1 : ¬ a = 1 := by omega
        have n2 : ¬ a = 2 := by omega
        by_cases e3 : a = 3
        · obtain ⟨p0, p1⟩ := place (by omega)
          have p2 : b < (l.length : Int) := by omega
          exact fin (l.set b.toNat 0, st) (by simp) (ev_pos rfl (two _ _ fun k => by simp [spec_After.j0, spec_After.j1, p0, p2, e3])) (ev_pos rfl (two _ _ fun k => by simp [impl_After.j0, impl_After.j1, p0, p2, e3]))
        · by_cases e8 : a = 8
          · exact fin (l, wrap64 (st + 1)) rfl (ev_pos rfl (two _ _ fun k => by simp [spec_After.j0, spec_After.j1, e8])) (ev_pos rfl (two _ _ fun k => by simp [impl_After.j0, impl_After.j1, e8]))
          · by_cases e9 : a = 9
            · exact fin (l, wrap64 (st + 1)) rfl (ev_pos rfl (two _ _ fun k => by simp [spec_After.j0, spec_After.j1, e9])) (ev_pos rfl (two _ _ fun k => by simp [impl_After.j0, impl_After.j1, e9]))
            · exact fin (l, st) rfl (ev_pos rfl (two _ _ fun k => by simp [spec_After.j0, spec_After.j1, n1, n2, e3, e8, e9])) (ev_pos rfl (two _ _ fun k => by simp [impl_After.j0, impl_After.j1, n1, n2, e3, e8, e9]))
    · have hc' : (code != 0) = true := by simpa using hc
      exact fin (l, st) rfl (ev_pos rfl (ev_succ fun k => by simp [spec_After.j0, hc'])) (ev_pos rfl (ev_succ fun k => by simp [impl_After.j0, hc']))
end Go.Proofs.Ytopikhjcbcpiaaa.Q
end
section
namespace Go.Proofs.Ytopikhjcbcpiaaa.Q
open Go.RowKit Go.Proofs.YtopikhjcbcpiaaaW.PrintWords Go.Proofs.YtopikhjcbcpiaaaX
theorem szIntS (l : List Int) (a : Int) (h0 : 0 ≤ a) (h1 : a ≤ 1048576) (hl : l.length ≤ 9223372036854775807) : laws_szIntS.f l a = some (if a < l.length then -1 else a - l.length) := by
  unfold laws_szIntS.f
  rw [wrap_in (by omega) (by omega)]
  by_cases h : a < l.length
  · rw [if_pos (by omega), if_pos h]
  · rw [if_neg (by omega), if_neg h]
theorem ev_toIntS (l : List Int) (hl : l.length ≤ 1048576) : Ev (fun k => laws_toIntS.f k l) l := by
  unfold laws_toIntS.f
  refine ev_pos (by omega) (ev_pos (by omega) ?_)
  refine ev_to (ev_fill (g := fun k acc i => laws_toIntS.l0 k l acc i) (l := l) (cv := fun x => x) (za := 0) ?_ ?_ _ (by simp)) (by simp)
  · intro acc i r hi hacc h
    refine Ev.step (fun k => ?_) h
    simp only [laws_toIntS.l0]
    rw [if_pos (by omega), if_pos (by omega), if_pos (by omega), wrap_succ hi (by omega)]
    rfl
  · intro acc hacc
    refine ev_succ (fun k => ?_)
    simp only [laws_toIntS.l0]
    rw [if_neg (by omega)]
theorem ev_eqIntS (l : List Int) (hl : l.length ≤ 1048576) : Ev (fun k => laws_eqIntS.f k l l) true := by
  unfold laws_eqIntS.f
  refine ev_pos rfl ?_
  refine ev_down (g := fun k i => laws_eqIntS.l0 k l l i) (R := fun _ => true) (n := l.length) ?_ 0 (by omega)
  intro i hi h
  by_cases hlt : i < l.length
  · refine Ev.step (fun k => ?_) (h hlt)
    simp only [laws_eqIntS.l0]
    rw [if_pos (by omega), if_pos (by omega), if_pos (by omega), if_pos trivial, wrap_succ hlt (by omega)]
  · refine ev_succ (fun k => ?_)
    simp only [laws_eqIntS.l0]
    rw [if_neg (by omega)]
def marks (m : Int) (i n : Nat) : List Int := (List.range' i n).map fun j => m + ((j : Nat) : Int)
theorem marks_length (m : Int) (i n : Nat) : (marks m i n).length = n := by simp [marks]
theorem ev_markIntS (l : List Int) (m : Int) (h0 : 0 ≤ m) (h1 : m ≤ 1099511627776) (hl : l.length ≤ 1048576) : Ev (fun k => laws_markIntS.f k l m) (m + l.length, marks m 0 l.length) := by
  have key : ∀ (d i : Nat) (acc : List Int), acc.length = l.length → i + d = l.length → Ev (fun k => laws_markIntS.l0 k acc (m + (i : Int)) (i : Int)) (m + l.length, acc.take i ++ marks m i d) := by
    intro d
    induction d with
    | zero =>
      intro i acc ha hi
      obtain rfl : i = l.length := by omega
      refine ev_succ (fun k => ?_)
      simp only [laws_markIntS.l0]
      rw [if_neg (by omega)]
      simp [marks, ← ha]
    | succ d ih =>
      intro i acc ha hi
      have e1 : wrap64 (m + (i : Int) + 1) = m + ((i + 1 : Nat) : Int) := by rw [wrap_in (by omega) (by omega)]; omega
      refine ev_to (Ev.step (fun k => ?_) (ih (i + 1) (acc.set i (m + (i : Int))) (by simpa using ha) (by omega))) ?_
      · simp only [laws_markIntS.l0]
        rw [if_pos (by omega), if_pos (by omega), wrap_succ (show i < l.length by omega) (by omega), e1]
        rfl
      · have h2 : (acc.set i (m + (i : Int))).take (i + 1) = acc.take i ++ [m + (i : Int)] := by
          rw [List.take_succ_eq_append_getElem (by simp; omega)]
          simp [List.take_set_of_le]
        rw [h2, List.append_assoc]
        simp [marks, List.range'_succ]
  refine ev_to (q := (m + l.length, marks m 0 l.length)) (ev_to (key l.length 0 l rfl (by omega)) (by simp)) rfl |> fun h => ?_
  simpa [laws_markIntS.f] using h
theorem ev_heldIntS (m : Int) (n : Nat) (h0 : 0 ≤ m) (h1 : m ≤ 1099511627776) (hn : n ≤ 1048576) : Ev (fun k => laws_heldIntS.f k (marks m 0 n) m) (m + n) := by
  have key := ev_down (g := fun k i => laws_heldIntS.l0 k (marks m 0 n) (m + i) i) (R := fun _ => m + n) (n := n) (fun i hi h => ?_) 0 (by omega)
  · simpa [laws_heldIntS.f] using key
  · have hlen := marks_length m 0 n
    by_cases hlt : i < n
    · have e1 : wrap64 (m + (i : Int) + 1) = m + ((i + 1 : Nat) : Int) := by rw [wrap_in (by omega) (by omega)]; omega
      have e2 : rd (marks m 0 n) (i : Int) = m + (i : Int) := by
        simp [rd, marks, List.getD_eq_getElem?_getD, hlt]
      refine Ev.step (fun k => ?_) (h hlt)
      simp only [laws_heldIntS.l0]
      rw [if_pos (by omega), if_pos (by omega), if_pos e2, wrap_succ hlt (by omega), e1]
    · obtain rfl : i = n := by omega
      refine ev_succ (fun k => ?_)
      simp only [laws_heldIntS.l0]
      rw [if_neg (by omega)]
end Go.Proofs.Ytopikhjcbcpiaaa.Q
end
section
/- The plain part of the law about After: for rows and a result whose lists hold up to 1048576 numbers together both tell the same, and what is marked stays marked. -/
namespace Go.Proofs.Ytopikhjcbcpiaaa.Q
open Go.RowKit Go.Proofs.YtopikhjcbcpiaaaW.PrintWords Go.Proofs.YtopikhjcbcpiaaaX
theorem ev_toRows (l : List Int) (s : Int) (h : l.length ≤ 1048576) : Ev (fun k => laws_toRows.f k l s) (l, s) := Ev.bind (f := fun _ t => some (t, s)) (ev_toIntS l h) (Ev.now _)
theorem ev_toRes (c : Int) (l : List Int) (h : l.length ≤ 1048576) : Ev (fun k => laws_toRes.f k c l) (c, l) := Ev.bind (f := fun _ t => some (c, t)) (ev_toIntS l h) (Ev.now _)
theorem ev_eqRows (l : List Int) (s : Int) (h : l.length ≤ 1048576) : Ev (fun k => laws_eqRows.f k l s l s) true :=
  Ev.bind (f := fun _ t => if t = true then (if s = s then some true else some false) else some false) (ev_eqIntS l h) (ev_of fun k => by simp)
theorem ev_eqRes (c : Int) (l : List Int) (h : l.length ≤ 1048576) : Ev (fun k => laws_eqRes.f k c l c l) true := by
  unfold laws_eqRes.f
  exact ev_pos rfl (Ev.bind (f := fun _ t => if t = true then some true else some false) (ev_eqIntS l h) (ev_of fun k => by simp))
theorem ev_markRows (l : List Int) (s m : Int) (h0 : 0 ≤ m) (h1 : m ≤ 1099511627776) (h : l.length ≤ 1048576) : Ev (fun k => laws_markRows.f k l s m) (m + l.length, marks m 0 l.length) :=
  Ev.bind (f := fun _ (bt : Int × List Int) => some (bt.1, bt.2)) (ev_markIntS l m h0 h1 h) (Ev.now _)
theorem ev_markRes (c : Int) (l : List Int) (m : Int) (h0 : 0 ≤ m) (h1 : m ≤ 1099511627776) (h : l.length ≤ 1048576) : Ev (fun k => laws_markRes.f k c l m) (m + l.length, marks m 0 l.length) :=
  Ev.bind (f := fun _ (bt : Int × List Int) => some (bt.1, bt.2)) (ev_markIntS l m h0 h1 h) (Ev.now _)
theorem ev_heldRows (n : Nat) (s m : Int) (h0 : 0 ≤ m) (h1 : m ≤ 1099511627776) (hn : n ≤ 1048576) : Ev (fun k => laws_heldRows.f k (marks m 0 n) s m) (m + n) := by
  refine Ev.bind (f := fun _ t => if t < 0 then some (-1) else some t) (ev_heldIntS m n h0 h1 hn) (ev_of fun k => ?_)
  rw [if_neg (by omega)]
theorem szRows (l : List Int) (s a : Int) (h0 : 0 ≤ a) (h1 : a ≤ 1048576) (hl : l.length ≤ 9223372036854775807) : laws_szRows.f l s a = some (if a < l.length then -1 else a - l.length) := by
  unfold laws_szRows.f
  rw [szIntS l a h0 h1 hl]
  by_cases h : a < l.length
  · simp [h]
  · simp only [if_neg h, Option.bind_some]; rw [if_neg (by omega)]
theorem szRes (c : Int) (l : List Int) (a : Int) (h0 : 0 ≤ a) (h1 : a ≤ 1048576) (hl : l.length ≤ 9223372036854775807) : laws_szRes.f c l a = some (if a < l.length then -1 else a - l.length) := by
  unfold laws_szRes.f
  rw [szIntS l a h0 h1 hl]
  by_cases h : a < l.length
  · simp [h]
  · simp only [if_neg h, Option.bind_some]; rw [if_neg (by omega)]
end Go.Proofs.Ytopikhjcbcpiaaa.Q
namespace Go.Proofs.Ytopikhjcbcpiaaa.Pure
open Go.RowKit Go.Proofs.Ytopikhjcbcpiaaa.Q Go.Proofs.YtopikhjcbcpiaaaW.PrintWords Go.Proofs.YtopikhjcbcpiaaaX
theorem ev_ex {α : Type} {g : Nat → Option α} {r : α} (h : Ev g r) : ∃ k, g k = some r := by
  obtain ⟨a, ha⟩ := h
  exact ⟨a, ha a (Nat.le_refl _)⟩
theorem FnExactAfter : laws_FnExactAfter.Pure := by
  rintro ⟨l, st⟩ ⟨a, b, c⟩ ⟨code, res⟩ ok0 _ ok2
  have hl : l.length ≤ 9223372036854775807 := ok0.1.1
  have hr : res.length ≤ 9223372036854775807 := ok2.2.1
  clear ok0 ok2
  refine ev_ex ?_
  show Ev (fun k => laws_FnExactAfter.f k l st a b c code res) true
  unfold laws_FnExactAfter.f
  rw [szRows l st 1048576 (by omega) (by omega) hl]
  by_cases h1 : (1048576 : Int) < l.length
  · exact ev_of fun k => by simp [h1]
  · simp only [if_neg h1, Option.bind_some]
    refine ev_neg (by omega) ?_
    rw [szRes code res _ (by omega) (by omega) hr]
    by_cases h2 : (1048576 : Int) - l.length < res.length
    · exact ev_of fun k => by simp [h2]
    · simp only [if_neg h2, Option.bind_some]
      refine ev_neg (by omega) ?_
      have tR := ev_toRows l st (by omega)
      have tS := ev_toRes code res (by omega)
      obtain ⟨⟨g, gs⟩, a1, a2, hg⟩ := after_both l st a b c code res (by omega)
      have hgl : g.length = l.length := hg
      have eg := ev_eqRows g gs (by omega)
      have held := ev_heldRows g.length gs 1 (by omega) (by omega) (by omega)
      refine Ev.bind tR ?_
      simp only [laws_toOp.f, Option.bind_some]
      refine Ev.bind tS ?_
      refine Ev.bind a1 ?_
      refine Ev.bind tR ?_
      refine Ev.bind tS ?_
      refine Ev.bind a2 ?_
      refine Ev.bind eg (ev_pos rfl ?_)
      refine Ev.bind tR ?_
      refine Ev.bind (ev_eqRows l st (by omega)) (ev_pos rfl ?_)
      refine Ev.bind tS ?_
      refine Ev.bind (ev_eqRes code res (by omega)) (ev_pos rfl ?_)
      refine Ev.bind (ev_markRows l st 1 (by omega) (by omega) (by omega)) ?_
      refine Ev.bind (ev_markRes code res (1 + (l.length : Int)) (by omega) (by omega) (by omega)) ?_
      refine ev_neg (by simp only; omega) ?_
      refine Ev.bind eg ?_
      refine Ev.step (f := fun k => (laws_markRows.f k g gs 1).bind fun bt685 => ((laws_heldRows.f k bt685.2 gs 1).bind fun t687 => (if t687 < 0 then (some false) else (if t687 = bt685.1 then ((laws_toRows.f k l st).bind fun bt688 => ((laws_toRes.f k code res).bind fun bt695 => ((impl_After.f k bt688.1 bt688.2 a b c bt695.1 bt695.2).bind fun bt699 => ((laws_eqRows.f k bt699.1 bt699.2 g gs).bind fun t704 => (if t704 = true then ((laws_heldRows.f k bt685.2 gs 1).bind fun t705 => (if t705 < 0 then (some false) else (if t705 = bt685.1 then (some true) else (some false)))) else (some false)))))) else (some false))))) (fun k => ?_) ?_
      · simp [laws_FnExactAfter.j0, laws_toOp.f]
      · refine Ev.bind (ev_markRows g gs 1 (by omega) (by omega) (by omega)) ?_
        refine Ev.bind held (ev_neg (by omega) (ev_pos rfl ?_))
        refine Ev.bind tR ?_
        refine Ev.bind tS ?_
        refine Ev.bind a2 ?_
        refine Ev.bind eg (ev_pos rfl ?_)
        refine Ev.bind held (ev_neg (by omega) (ev_pos rfl (Ev.now _)))
end Go.Proofs.Ytopikhjcbcpiaaa.Pure
end
