/- Part 11 of the steps by which the law is shown: what each function of the program, of the reference and of the law computes. No condition. -/
import Derived.Test.YtopikhjcbcpiaaaMnw0
import Derived.Test.YtopikhjcbcpiaaaMnw2
import Derived.Test.YtopikhjcbcpiaaaMnw3
import Derived.Test.YtopikhjcbcpiaaaMnw8
import Derived.Test.YtopikhjcbcpiaaaMnw10
section
namespace Go.Proofs.Ytopikhjcbcpiaaa.Q
open Go.RowKit Go.Proofs.YtopikhjcbcpiaaaW.PrintWords Go.Proofs.YtopikhjcbcpiaaaX
theorem inB_iff {a b c : Int} : inB a b c = true ↔ b ≤ a ∧ a ≤ c := by simp [inB]
theorem not_mem_of_neg {l : List Int} {v : Int} (h : idxI l v < 0) : v ∉ l := by
  rcases idxFrom_bd v l 0 with h1 | ⟨h1, _⟩
  · exact (idxFrom_mem v l 0).1 h1
  · unfold idxI at h; omega
theorem neg_of_not_mem {l : List Int} {v : Int} (h : v ∉ l) : ¬ idxI l v ≥ 0 := by
  have := (idxFrom_mem v l 0).2 h
  unfold idxI; omega
theorem take_free {l : List Int} {i : Nat} {v : Int} (hi : i ≤ l.length) : v ∉ l.take i ↔ ∀ j, j < i → l.getD j 0 ≠ v := by
  rw [List.mem_iff_getElem]
  constructor
  · intro h j hj e
    exact h ⟨j, by simp; omega, by rw [List.getElem_take, ← getD_at (show j < l.length by omega)]; exact e⟩
  · rintro h ⟨j, hj, e⟩
    have hj' : j < min i l.length := by simpa using hj
    rw [List.getElem_take, ← getD_at (show j < l.length by omega)] at e
    exact h j (by omega) e
theorem rowB_iff {l : List Int} {i : Nat} (hi : i < l.length) : rowB l i = true ↔ l.getD i 0 = 0 ∨ ((1 ≤ l.getD i 0 ∧ l.getD i 0 ≤ 6) ∧ ∀ j, j < i → l.getD j 0 ≠ l.getD i 0) := by
  unfold rowB
  rw [Bool.or_eq_true, Bool.and_eq_true, decide_eq_true_eq, decide_eq_true_eq, inB_iff, idx_first l i hi, ← take_free (Nat.le_of_lt hi)]
  constructor
  · rintro (h | ⟨h1, h2⟩)
    · exact .inl h
    · exact .inr ⟨h1, not_mem_of_neg (by omega)⟩
  · rintro (h | ⟨h1, h2⟩)
    · exact .inl h
    · exact .inr ⟨h1, neg_of_not_mem h2⟩
theorem rowsOk_iff {l : List Int} {st : Int} : rowsOkB l st = true ↔ (∀ i, i < l.length → rowB l i = true) ∧ l.length = 4 ∧ 0 ≤ st ∧ st ≤ 5 := by
  unfold rowsOkB
  simp only [Bool.and_eq_true, decide_eq_true_eq, inB_iff, List.all_eq_true, List.mem_range]
end Go.Proofs.Ytopikhjcbcpiaaa.Q
end
namespace Go.Proofs.Ytopikhjcbcpiaaa.Q
open Go.RowKit Go.Proofs.YtopikhjcbcpiaaaW.PrintWords Go.Proofs.YtopikhjcbcpiaaaW.PrintLast Go.Proofs.YtopikhjcbcpiaaaW.PrintMore
attribute [local go_sem] max2_int min2_int max_two min_two max_three min_three max_four min_four   -- for this text's walks alone
set_option linter.unusedVariables false
set_option linter.unusedSimpArgs false
mutual
def impl_MemOk.j0 : Nat → Bool → List (S141) → List (S145) → Option (Bool)
 | 0, _, _, _ => none
 | k + 1, x23, x1111000, x1111001 => if x23 = true then (some false) else (impl_MemOk.l0 k x1111000 (x1111000.length : Int) 0 x1111000 x1111001)
def impl_MemOk.l0 : Nat → List (S141) → Int → Int → List (S141) → List (S145) → Option (Bool)
 | 0, _, _, _, _, _ => none
 | k + 1, x25, x26, x27, x1111000, x1111001 => if x27 < x26 then (if 0 ≤ x27 then (if x27 < (x25.length : Int) then ((impl_WordOk.f ((rd_T141 x25 x27).f0) ((rd_T141 x25 x27).f1) ((rd_T141 x25 x27).f2) (x1111001.length : Int)).bind fun t1115 => (if t1115 = true then (if ((rd_T141 x25 x27).f1) = 0 then (impl_MemOk.l0 k x25 x26 (wrap64 (x27 + 1)) x1111000 x1111001) else (if 0 ≤ (wrap64 (((rd_T141 x25 x27).f1) - 1)) then (if (wrap64 (((rd_T141 x25 x27).f1) - 1)) < (x1111001.length : Int) then ((impl_Entries.f k ((rd_T145 x1111001 (wrap64 (((rd_T141 x25 x27).f1) - 1))).f0) ((rd_T145 x1111001 (wrap64 (((rd_T141 x25 x27).f1) - 1))).f1) ((rd_T145 x1111001 (wrap64 (((rd_T141 x25 x27).f1) - 1))).f2) ((rd_T145 x1111001 (wrap64 (((rd_T141 x25 x27).f1) - 1))).f3.f0) ((rd_T145 x1111001 (wrap64 (((rd_T141 x25 x27).f1) - 1))).f3.f1) x27).bind fun bt1118 => (if bt1118.2.2.2 = true then (if ((rd_T145 x1111001 (wrap64 (((rd_T141 x25 x27).f1) - 1))).f0) = ((rd_T141 x25 x27).f2) then (impl_MemOk.l0 k x25 x26 (wrap64 (x27 + 1)) x1111000 x1111001) else (some false)) else (some false))) else (none)) else (none))) else (some false))) else (none)) else (none)) else (some true)
end
def impl_MemOk.f (k : Nat) (l0_0 : List (S141)) (l0_1 : List (S145)) : Option (Bool) := if (l0_0.length : Int) = 20 then ((impl_from.f (l0_1.length : Int) 1 4).bind fun t1111 => (if t1111 = true then ((impl_MemOk_1_any.f k l0_1).bind fun t1112 => (impl_MemOk.j0 k t1112 l0_0 l0_1)) else (impl_MemOk.j0 k true l0_0 l0_1))) else (impl_MemOk.j0 k true l0_0 l0_1)
set_option maxHeartbeats 8000000 in
set_option maxRecDepth 100000 in
theorem impl_MemOk.calls (k : Nat) (A0_0 : Option Addr) (c0_0 : Nat) (l0_0 : List (S141)) (A0_1 : Option Addr) (c0_1 : Nat) (l0_1 : List (S145)) (r : Bool) (w : World) (hr0_0 : Kd.C k141 w A0_0 l0_0.length l0_0) (hc0_0 : l0_0.length ≤ c0_0) (hr0_1 : Kd.C k145 w A0_1 l0_1.length l0_1) (hc0_1 : l0_1.length ≤ c0_1) (h : impl_MemOk.f k l0_0 l0_1 = some r) :
  Calls Try.prog 130 #[.agg #[.slice A0_0 l0_0.length c0_0, .slice A0_1 l0_1.length c0_1]] w fun e w' => e = .returned (.bool r) ∧ Below w.heap.size w w' := by
 have hu88 := Try.underlying88
 have hu141 := Try.underlying141
 have hu145 := Try.underlying145
 have hu166 := Try.underlying166
 have HR0_0 := Aside0.mk hr0_0
 have HC0_0 := Aside0.mk hc0_0
 clear hr0_0 hc0_0
 have HR0_1 := Aside0.mk hr0_1
 have HC0_1 := Aside0.mk hc0_1
 clear hr0_1 hc0_1
 have HB := Aside0.mk (Below.refl w.heap.size w)
 have H := h
 clear h
 unfold impl_MemOk.f at H
 have HC2 := Aside0.mk H
 clear H
 go_enter Try.func130, Try.ntmps130
 go_upto_region 1 with (first | ((with_reducible refine gq 1 rfl ?_); (try (refine gate_guard (by rfl) ?_; dsimp only)); refine bx0 HB (N := 1) (t := 88) ?_; clear HB; intro gb1110 w3 BK1110 GE1110 HB))
 (try simp only [Act.put, sA, sB, sC])
 go_cut [23] (fun v23 wc => ∃ (kq : Nat) (x23_1 : Bool), v23 = .bool x23_1 ∧ Aside0 (impl_MemOk.j0 kq x23_1 l0_0 l0_1 = some r) ∧ Aside0 (kq ≤ k) ∧ Aside0 (wc.heap[gb1110]? = some (.cells #[(.slice A0_0 l0_0.length c0_0), (.slice A0_1 l0_1.length c0_1)] 88 (0, 0))) ∧ Aside0 (Below w.heap.size w wc))
 case first =>
  have H := HC2.out
  clear HC2
  by_cases c4 : (l0_0.length : Int) = 20
  case neg =>
   rw [if_neg c4] at H
   have c4b0 : ((l0_0.length : Int) == 20) = false := beq_eq_false_iff_ne.mpr c4
   have c4b1 : ((l0_0.length : Int) != 20) = true := bne_iff_ne.mpr c4
   (first | rw [c4b0] | (simp only [i64_w, i32_w]; rw [c4b0]) | skip)
   have H' := Aside0.mk H
   clear H
   have hz11 := cs2_ BK1110
   go_wp2
   go_meet
   case rel => exact ⟨_, (true), rsd, H', ⟨by first | omega | exact Nat.le_refl _⟩, ⟨by (with_reducible repeat (first | refine blk_drewN ?_ _ | refine blk_drew ?_ | refine blk_alloc ?_ _)); exact BK1110.out⟩, ⟨tb HB⟩⟩
  rw [if_pos c4] at H
  have c4b0 : ((l0_0.length : Int) == 20) = true := beq_iff_eq.mpr c4
  have c4b1 : ((l0_0.length : Int) != 20) = false := bne_eq_false_iff_eq.mpr c4
  clear c4
  (first | rw [c4b0] | (simp only [i64_w, i32_w]; rw [c4b0]) | skip)
  obtain ⟨t1111, A5, H⟩ := bn H
  try dsimp only at H
  cases t1111
  case false =>
   replace H := ipf H
   have H' := Aside0.mk H
   clear H
   have hz10 := cs2_ BK1110
   go_wp2_with (first | (go_at_call 85; (with_reducible refine (impl_from.calls (l0_1.length : Int) 1 4 false _ A5.out).mono ?_); rintro e w' ⟨rfl, ⟨nd, rfl⟩⟩))
   go_meet
   case rel => exact ⟨_, (true), rsd, H', ⟨by first | omega | exact Nat.le_refl _⟩, ⟨by (with_reducible repeat (first | refine blk_drewN ?_ _ | refine blk_drew ?_ | refine blk_alloc ?_ _)); exact BK1110.out⟩, ⟨tb HB⟩⟩
  replace H := ipt H
  obtain ⟨t1112, A7, H⟩ := bn H
  try dsimp only at H
  have H' := Aside0.mk H
  clear H
  have hz8 := cs2_ BK1110
  go_wp2_with (first | (go_at_call 85; (with_reducible refine (impl_from.calls (l0_1.length : Int) 1 4 true _ A5.out).mono ?_); rintro e w' ⟨rfl, ⟨nd, rfl⟩⟩) | (go_at_call 180; (with_reducible refine (impl_MemOk_1_any.calls k _ _ l0_1 t1112 _ ?side1 HC0_1.out A7.out).mono ?_); (case side1 => repeat (first | exact (Kd.C_below HR0_1.out (tb HB)) | (with_reducible refine Kd.C_alloc ?_ _) | (with_reducible refine Kd.C_drewN ?_ _) | (with_reducible refine Kd.C_drew ?_))); rintro e w9 ⟨rfl, hb⟩; replace BK1110 := bb BK1110 hb; replace HB := bs HB hb; (try clear hb)))
  go_meet
  case rel => exact ⟨_, (t1112), rsd, H', ⟨by first | omega | exact Nat.le_refl _⟩, ⟨by (with_reducible repeat (first | refine blk_drewN ?_ _ | refine blk_drew ?_ | refine blk_alloc ?_ _)); exact BK1110.out⟩, ⟨tb HB⟩⟩
 case rest =>
  clear HC2
  obtain ⟨kq, x23_1, rfl, HA, HJ1, BK1110, HB⟩ := hcut
  cases kq with
  | zero => exact absurd HA.out (by simp [impl_MemOk.j0])
  | succ kj1 =>
   have H := HA.out
   clear HA
   simp only [impl_MemOk.j0] at H
   cases x23_1
   case true =>
    replace H := ipt H
    obtain rfl := oin H
    go_wp2
    go_ret
    exact ⟨er, tb HB⟩
   replace H := ipf H
   have H' := Aside0.mk H
   clear H
   have hz13 := cs2_ BK1110
   go_wp2
   go_loopg [27] kj1 (fun kq v27 w' => ∃ (x27_2 : Int), v27 = .int .i64 x27_2 ∧ Aside0 (impl_MemOk.l0 kq l0_0 (l0_0.length : Int) x27_2 l0_0 l0_1 = some r) ∧ Aside0 (kq ≤ kj1) ∧ Aside0 (w'.heap[gb1110]? = some (.cells #[(.slice A0_0 l0_0.length c0_0), (.slice A0_1 l0_1.length c0_1)] 88 (0, 0))) ∧ Aside0 (Below w.heap.size w w'))
   case atStart => exact ⟨(0), rsd, H', ⟨Nat.le_refl _⟩, ⟨by (with_reducible repeat (first | refine blk_drewN ?_ _ | refine blk_drew ?_ | refine blk_alloc ?_ _)); exact BK1110.out⟩, ⟨tb HB⟩⟩
   case round =>
    clear H'
    obtain ⟨x27_2, rfl, HA, HK2, BK1110, HB⟩ := hrel
    cases gk with
    | zero => exact absurd HA.out (by simp [impl_MemOk.l0])
    | succ k2 =>
     have H := HA.out
     clear HA
     simp only [impl_MemOk.l0] at H
     revert H; refine icd (fun c14b0 H => ?_) fun c14b0 H => ?neg
     case neg =>
      obtain rfl := oin H
      go_wp2
      go_ret
      exact ⟨er, tb HB⟩
     obtain ⟨c15b0, H⟩ := itd H
     obtain ⟨c16b0, H⟩ := itd H
     obtain ⟨t1115, A17, H⟩ := bn H
     try dsimp only at H
     cases t1115
     case false =>
      replace H := ipf H
      obtain rfl := oin H
      have p1113 : 0 ≤ (x27_2 : Int) := od
      have q1113 : x27_2 < (l0_0.length : Int) := od
      obtain ⟨ad1113, e1113, hx1113⟩ := att141 HR0_0.out x27_2 p1113 q1113
      cases e1113
      replace hx1113 := ox3 HB hx1113
      replace p1113 := eq_true p1113
      replace q1113 := eq_true q1113
      go_wp2_with (first | ((with_reducible refine gq 4 rfl ?_); (try (refine gate_guard (by rfl) ?_; dsimp only)); refine bx1 HB BK1110 (N := 4) (cs := #[.int .i64 0, .int .i64 0, .int .i64 0]) (t := 141) ?_; clear HB BK1110; intro gb1114 w87 BK1114 GE1114 HB NB1110_1114 NB1114_1110 BK1110; have hnb88 := NB1114_1110.out; have hnc88 := NB1110_1114.out; have hz89 := cs3_ BK1114; have hz90 := cs2_ BK1110) | ((with_reducible refine gf 183 rfl ?_); refine gL 36 Try.func183 #[.agg #[.int .i64 ((rd_T141 l0_0 x27_2).f0), .int .i64 ((rd_T141 l0_0 x27_2).f1), .int .i64 ((rd_T141 l0_0 x27_2).f2)], .int .i64 (l0_1.length : Int)] ?_; (with_reducible refine (impl_WordOk.calls ((rd_T141 l0_0 x27_2).f0) ((rd_T141 l0_0 x27_2).f1) ((rd_T141 l0_0 x27_2).f2) (l0_1.length : Int) false _ A17.out).mono ?_); rintro e w91 ⟨rfl, hb⟩; refine ⟨_, rfl, ?_⟩; replace BK1110 := bbf BK1110 hb; replace BK1114 := bbp3 BK1114 hb; replace HB := bs HB hb; (try clear hb)))
      go_ret
      exact ⟨er, tb HB⟩
     replace H := ipt H
     by_cases c19 : ((rd_T141 l0_0 x27_2).f1) = 0
     case pos =>
      rw [if_pos c19] at H
      have c19b0 : (((rd_T141 l0_0 x27_2).f1) == 0) = true := beq_iff_eq.mpr c19
      have c19b1 : (((rd_T141 l0_0 x27_2).f1) != 0) = false := bne_eq_false_iff_eq.mpr c19
      clear c19
      have H' := Aside0.mk H
      clear H
      have p1113 : 0 ≤ (x27_2 : Int) := od
      have q1113 : x27_2 < (l0_0.length : Int) := od
      obtain ⟨ad1113, e1113, hx1113_0, hx1113_1, hx1113_2⟩ := at_T141 HR0_0.out x27_2 p1113 q1113
      cases e1113
      replace hx1113_0 := ox HB hx1113_0
      replace hx1113_1 := ox HB hx1113_1
      replace hx1113_2 := ox HB hx1113_2
      replace p1113 := eq_true p1113
      replace q1113 := eq_true q1113
      go_wp2_with (first | ((with_reducible refine gq 4 rfl ?_); (try (refine gate_guard (by rfl) ?_; dsimp only)); refine bx1 HB BK1110 (N := 4) (cs := #[.int .i64 0, .int .i64 0, .int .i64 0]) (t := 141) ?_; clear HB BK1110; intro gb1114 w20 BK1114 GE1114 HB NB1110_1114 NB1114_1110 BK1110; have hnb21 := NB1114_1110.out; have hnc21 := NB1110_1114.out; have hz22 := cs3_ BK1114; have hz23 := cs2_ BK1110) | ((with_reducible refine gf 183 rfl ?_); refine gL 36 Try.func183 #[.agg #[.int .i64 ((rd_T141 l0_0 x27_2).f0), .int .i64 ((rd_T141 l0_0 x27_2).f1), .int .i64 ((rd_T141 l0_0 x27_2).f2)], .int .i64 (l0_1.length : Int)] ?_; (with_reducible refine (impl_WordOk.calls ((rd_T141 l0_0 x27_2).f0) ((rd_T141 l0_0 x27_2).f1) ((rd_T141 l0_0 x27_2).f2) (l0_1.length : Int) true _ A17.out).mono ?_); rintro e w24 ⟨rfl, hb⟩; refine ⟨_, rfl, ?_⟩; replace BK1110 := bbf BK1110 hb; replace BK1114 := bbp3 BK1114 hb; replace HB := bs HB hb; (try clear hb); have hz25 := cs3_ BK1114))
      go_roundg k2
      case measure => have := HJ1.out; have := HK2.out; omega
      case rel => exact ⟨(wrap64 (x27_2 + 1)), rsd, H', ⟨by have := HJ1.out; have := HK2.out; omega⟩, ⟨by (with_reducible repeat (first | refine blk_drewN ?_ _ | refine blk_drew ?_ | refine blk_alloc ?_ _)); exact BK1110.out⟩, ⟨tb HB⟩⟩
     rw [if_neg c19] at H
     have c19b0 : (((rd_T141 l0_0 x27_2).f1) == 0) = false := beq_eq_false_iff_ne.mpr c19
     have c19b1 : (((rd_T141 l0_0 x27_2).f1) != 0) = true := bne_iff_ne.mpr c19
     obtain ⟨ji26, hji26⟩ : ∃ j_ : Int, (wrap64 (((rd_T141 l0_0 x27_2).f1) - 1)) = j_ := ⟨_, rfl⟩
     replace H : (if 0 ≤ (ji26) then (if (ji26) < (l0_1.length : Int) then ((impl_Entries.f k2 ((rd_T145 l0_1 (ji26)).f0) ((rd_T145 l0_1 (ji26)).f1) ((rd_T145 l0_1 (ji26)).f2) ((rd_T145 l0_1 (ji26)).f3.f0) ((rd_T145 l0_1 (ji26)).f3.f1) x27_2).bind fun bt1118 => (if bt1118.2.2.2 = true then (if ((rd_T145 l0_1 (ji26)).f0) = ((rd_T141 l0_0 x27_2).f2) then (impl_MemOk.l0 k2 l0_0 (l0_0.length : Int) (wrap64 (x27_2 + 1)) l0_0 l0_1) else (some false)) else (some false))) else (none)) else (none)) = some r := by first | (rw [hji26] at H; exact H) | (simp only [hji26] at H ⊢; exact H)
     (try rw [hji26] at A17)
     have hji26w : (IntKind.i64.wrap (((rd_T141 l0_0 x27_2).f1) - 1)) = ji26 := (i64_w _).trans hji26
     obtain ⟨c27b0, H⟩ := itd H
     obtain ⟨c28b0, H⟩ := itd H
     obtain ⟨⟨t1118, t1119, t1120, t1121⟩, A29, H⟩ := bn H
     try dsimp only at H
     cases t1121
     case false =>
      replace H := ipf H
      obtain rfl := oin H
      have p1113 : 0 ≤ (x27_2 : Int) := od
      have q1113 : x27_2 < (l0_0.length : Int) := od
      obtain ⟨ad1113, e1113, hx1113_0, hx1113_1, hx1113_2⟩ := at_T141 HR0_0.out x27_2 p1113 q1113
      cases e1113
      replace hx1113_0 := ox HB hx1113_0
      replace hx1113_1 := ox HB hx1113_1
      replace hx1113_2 := ox HB hx1113_2
      replace p1113 := eq_true p1113
      replace q1113 := eq_true q1113
      go_wp2_with (first | ((with_reducible refine gq 4 rfl ?_); (try (refine gate_guard (by rfl) ?_; dsimp only)); refine bx1 HB BK1110 (N := 4) (cs := #[.int .i64 0, .int .i64 0, .int .i64 0]) (t := 141) ?_; clear HB BK1110; intro gb1114 w70 BK1114 GE1114 HB NB1110_1114 NB1114_1110 BK1110; have hnb71 := NB1114_1110.out; have hnc71 := NB1110_1114.out; have hz72 := cs3_ BK1114; have hz73 := cs2_ BK1110) | ((with_reducible refine gf 183 rfl ?_); refine gL 36 Try.func183 #[.agg #[.int .i64 ((rd_T141 l0_0 x27_2).f0), .int .i64 ((rd_T141 l0_0 x27_2).f1), .int .i64 ((rd_T141 l0_0 x27_2).f2)], .int .i64 (l0_1.length : Int)] ?_; (with_reducible refine (impl_WordOk.calls ((rd_T141 l0_0 x27_2).f0) ((rd_T141 l0_0 x27_2).f1) ((rd_T141 l0_0 x27_2).f2) (l0_1.length : Int) true _ A17.out).mono ?_); rintro e w74 ⟨rfl, hb⟩; refine ⟨_, rfl, ?_⟩; replace BK1110 := bbf BK1110 hb; replace BK1114 := bbp3 BK1114 hb; replace HB := bs HB hb; (try clear hb); have hz75 := cs3_ BK1114; have hz76 := cs2_ BK1110; have p1116 : 0 ≤ ((ji26) : Int) := od; have q1116 : (ji26) < (l0_1.length : Int) := od; obtain ⟨ad1116, A1116_2, c1116_2, A1116_4, c1116_4, e1116, hx1116_0, hx1116_1, hx1116_2, hx1116_3, hx1116_4, hl1116_2, hi1116_2, hl1116_4, hi1116_4⟩ := at_T145 HR0_1.out (ji26) p1116 q1116; cases e1116; replace hx1116_0 := ox HB hx1116_0; replace hx1116_1 := ox HB hx1116_1; replace hx1116_2 := ox HB hx1116_2; replace hx1116_3 := ox HB hx1116_3; replace hx1116_4 := ox HB hx1116_4; have HR1116_2 := Aside0.mk hi1116_2; have HC1116_2 := Aside0.mk hl1116_2; clear hi1116_2 hl1116_2; have HR1116_4 := Aside0.mk hi1116_4; have HC1116_4 := Aside0.mk hl1116_4; clear hi1116_4 hl1116_4; replace p1116 := eq_true p1116; replace q1116 := eq_true q1116) | ((with_reducible refine gq 5 rfl ?_); (try (refine gate_guard (by rfl) ?_; dsimp only)); refine bx2 HB BK1110 BK1114 (N := 5) (cs := #[.int .i64 0, .int .i64 0, .slice none 0 0, .int .i64 0, .slice none 0 0]) (t := 145) ?_; clear HB BK1110 BK1114; intro gb1117 w77 BK1117 GE1117 HB NB1110_1117 NB1117_1110 BK1110 NB1114_1117 NB1117_1114 BK1114; have hnb78 := NB1117_1110.out; have hnc78 := NB1110_1117.out; have hnb79 := NB1117_1114.out; have hnc79 := NB1114_1117.out; have hz80 := cs5_ BK1117) | ((with_reducible refine gf 157 rfl ?_); refine goesL_ (some 51) rfl rfl Try.func157 (by kernel_rfl) rfl #[.agg #[.int .i64 ((rd_T145 l0_1 (ji26)).f0), .int .i64 ((rd_T145 l0_1 (ji26)).f1), .slice A1116_2 ((rd_T145 l0_1 (ji26)).f2).length c1116_2, .int .i64 ((rd_T145 l0_1 (ji26)).f3.f0), .slice A1116_4 ((rd_T145 l0_1 (ji26)).f3.f1).length c1116_4], .int .i64 x27_2] rfl (by (try simp only [List.map_toArray, List.map_cons, List.map_nil]); first | done | (simp only [hji26]; rfl) | rfl | (simp only [List.length_drop, List.length_take]; rfl)) ?_; (with_reducible refine (impl_Entries.calls k2 ((rd_T145 l0_1 (ji26)).f0) ((rd_T145 l0_1 (ji26)).f1) _ _ ((rd_T145 l0_1 (ji26)).f2) ((rd_T145 l0_1 (ji26)).f3.f0) _ _ ((rd_T145 l0_1 (ji26)).f3.f1) x27_2 t1118 t1119 t1120 false _ ?side1 HC1116_2.out ?side3 HC1116_4.out A29.out).mono ?_); (case side1 => exact Kd.C_below HR1116_2.out (tb HB)); (case side3 => exact Kd.C_below HR1116_4.out (tb HB)); rintro e w81 ⟨rfl, hb⟩; refine ⟨_, rfl, ?_⟩; replace BK1110 := bbf BK1110 hb; replace BK1114 := bbf BK1114 hb; replace BK1117 := bbp5 BK1117 hb; replace HB := bs HB hb; (try clear hb)) | ((with_reducible refine gq 6 rfl ?_); (try (refine gate_guard (by rfl) ?_; dsimp only)); refine bx3 HB BK1110 BK1114 BK1117 (N := 6) (cs := #[.int .i64 0, .int .i64 0, .int .i64 0]) (t := 166) ?_; clear HB BK1110 BK1114 BK1117; intro gb1122 w82 BK1122 GE1122 HB NB1110_1122 NB1122_1110 BK1110 NB1114_1122 NB1122_1114 BK1114 NB1117_1122 NB1122_1117 BK1117; have hnb83 := NB1122_1110.out; have hnc83 := NB1110_1122.out; have hnb84 := NB1122_1114.out; have hnc84 := NB1114_1122.out; have hnb85 := NB1122_1117.out; have hnc85 := NB1117_1122.out; have hz86 := cs3_ BK1122))
      go_ret
      exact ⟨by first | rfl | (simp [errW_none, errW_some] <;> rfl) | (simp only [← hji26]; first | rfl | (simp [errW_none, errW_some] <;> rfl)) | (simp [*, errW_none, errW_some] <;> rfl), tb HB⟩
     replace H := ipt H
     by_cases c31 : ((rd_T145 l0_1 (ji26)).f0) = ((rd_T141 l0_0 x27_2).f2)
     case neg =>
      rw [if_neg c31] at H
      have c31b0 : (((rd_T145 l0_1 (ji26)).f0) == ((rd_T141 l0_0 x27_2).f2)) = false := beq_eq_false_iff_ne.mpr c31
      have c31b1 : (((rd_T145 l0_1 (ji26)).f0) != ((rd_T141 l0_0 x27_2).f2)) = true := bne_iff_ne.mpr c31
      obtain rfl := oin H
      have p1113 : 0 ≤ (x27_2 : Int) := od
      have q1113 : x27_2 < (l0_0.length : Int) := od
      obtain ⟨ad1113, e1113, hx1113_0, hx1113_1, hx1113_2⟩ := at_T141 HR0_0.out x27_2 p1113 q1113
      cases e1113
      replace hx1113_0 := ox HB hx1113_0
      replace hx1113_1 := ox HB hx1113_1
      replace hx1113_2 := ox HB hx1113_2
      replace p1113 := eq_true p1113
      replace q1113 := eq_true q1113
      go_wp2_with (first | ((with_reducible refine gq 4 rfl ?_); (try (refine gate_guard (by rfl) ?_; dsimp only)); refine bx1 HB BK1110 (N := 4) (cs := #[.int .i64 0, .int .i64 0, .int .i64 0]) (t := 141) ?_; clear HB BK1110; intro gb1114 w51 BK1114 GE1114 HB NB1110_1114 NB1114_1110 BK1110; have hnb52 := NB1114_1110.out; have hnc52 := NB1110_1114.out; have hz53 := cs3_ BK1114; have hz54 := cs2_ BK1110) | ((with_reducible refine gf 183 rfl ?_); refine gL 36 Try.func183 #[.agg #[.int .i64 ((rd_T141 l0_0 x27_2).f0), .int .i64 ((rd_T141 l0_0 x27_2).f1), .int .i64 ((rd_T141 l0_0 x27_2).f2)], .int .i64 (l0_1.length : Int)] ?_; (with_reducible refine (impl_WordOk.calls ((rd_T141 l0_0 x27_2).f0) ((rd_T141 l0_0 x27_2).f1) ((rd_T141 l0_0 x27_2).f2) (l0_1.length : Int) true _ A17.out).mono ?_); rintro e w55 ⟨rfl, hb⟩; refine ⟨_, rfl, ?_⟩; replace BK1110 := bbf BK1110 hb; replace BK1114 := bbp3 BK1114 hb; replace HB := bs HB hb; (try clear hb); have hz56 := cs3_ BK1114; have hz57 := cs2_ BK1110; have p1116 : 0 ≤ ((ji26) : Int) := od; have q1116 : (ji26) < (l0_1.length : Int) := od; obtain ⟨ad1116, A1116_2, c1116_2, A1116_4, c1116_4, e1116, hx1116_0, hx1116_1, hx1116_2, hx1116_3, hx1116_4, hl1116_2, hi1116_2, hl1116_4, hi1116_4⟩ := at_T145 HR0_1.out (ji26) p1116 q1116; cases e1116; replace hx1116_0 := ox HB hx1116_0; replace hx1116_1 := ox HB hx1116_1; replace hx1116_2 := ox HB hx1116_2; replace hx1116_3 := ox HB hx1116_3; replace hx1116_4 := ox HB hx1116_4; have HR1116_2 := Aside0.mk hi1116_2; have HC1116_2 := Aside0.mk hl1116_2; clear hi1116_2 hl1116_2; have HR1116_4 := Aside0.mk hi1116_4; have HC1116_4 := Aside0.mk hl1116_4; clear hi1116_4 hl1116_4; replace p1116 := eq_true p1116; replace q1116 := eq_true q1116) | ((with_reducible refine gq 5 rfl ?_); (try (refine gate_guard (by rfl) ?_; dsimp only)); refine bx2 HB BK1110 BK1114 (N := 5) (cs := #[.int .i64 0, .int .i64 0, .slice none 0 0, .int .i64 0, .slice none 0 0]) (t := 145) ?_; clear HB BK1110 BK1114; intro gb1117 w58 BK1117 GE1117 HB NB1110_1117 NB1117_1110 BK1110 NB1114_1117 NB1117_1114 BK1114; have hnb59 := NB1117_1110.out; have hnc59 := NB1110_1117.out; have hnb60 := NB1117_1114.out; have hnc60 := NB1114_1117.out; have hz61 := cs5_ BK1117) | ((with_reducible refine gf 157 rfl ?_); refine goesL_ (some 51) rfl rfl Try.func157 (by kernel_rfl) rfl #[.agg #[.int .i64 ((rd_T145 l0_1 (ji26)).f0), .int .i64 ((rd_T145 l0_1 (ji26)).f1), .slice A1116_2 ((rd_T145 l0_1 (ji26)).f2).length c1116_2, .int .i64 ((rd_T145 l0_1 (ji26)).f3.f0), .slice A1116_4 ((rd_T145 l0_1 (ji26)).f3.f1).length c1116_4], .int .i64 x27_2] rfl (by (try simp only [List.map_toArray, List.map_cons, List.map_nil]); first | done | (simp only [hji26]; rfl) | rfl | (simp only [List.length_drop, List.length_take]; rfl)) ?_; (with_reducible refine (impl_Entries.calls k2 ((rd_T145 l0_1 (ji26)).f0) ((rd_T145 l0_1 (ji26)).f1) _ _ ((rd_T145 l0_1 (ji26)).f2) ((rd_T145 l0_1 (ji26)).f3.f0) _ _ ((rd_T145 l0_1 (ji26)).f3.f1) x27_2 t1118 t1119 t1120 true _ ?side1 HC1116_2.out ?side3 HC1116_4.out A29.out).mono ?_); (case side1 => exact Kd.C_below HR1116_2.out (tb HB)); (case side3 => exact Kd.C_below HR1116_4.out (tb HB)); rintro e w62 ⟨rfl, hb⟩; refine ⟨_, rfl, ?_⟩; replace BK1110 := bbf BK1110 hb; replace BK1114 := bbf BK1114 hb; replace BK1117 := bbp5 BK1117 hb; replace HB := bs HB hb; (try clear hb)) | ((with_reducible refine gq 6 rfl ?_); (try (refine gate_guard (by rfl) ?_; dsimp only)); refine bx3 HB BK1110 BK1114 BK1117 (N := 6) (cs := #[.int .i64 0, .int .i64 0, .int .i64 0]) (t := 166) ?_; clear HB BK1110 BK1114 BK1117; intro gb1122 w63 BK1122 GE1122 HB NB1110_1122 NB1122_1110 BK1110 NB1114_1122 NB1122_1114 BK1114 NB1117_1122 NB1122_1117 BK1117; have hnb64 := NB1122_1110.out; have hnc64 := NB1110_1122.out; have hnb65 := NB1122_1114.out; have hnc65 := NB1114_1122.out; have hnb66 := NB1122_1117.out; have hnc66 := NB1117_1122.out; have hz67 := cs3_ BK1122; have hz68 := cs5_ BK1117; have hz69 := cs3_ BK1114))
      go_ret
      exact ⟨by first | rfl | (simp [errW_none, errW_some] <;> rfl) | (simp only [← hji26]; first | rfl | (simp [errW_none, errW_some] <;> rfl)) | (simp [*, errW_none, errW_some] <;> rfl), tb HB⟩
     rw [if_pos c31] at H
     have c31b0 : (((rd_T145 l0_1 (ji26)).f0) == ((rd_T141 l0_0 x27_2).f2)) = true := beq_iff_eq.mpr c31
     have c31b1 : (((rd_T145 l0_1 (ji26)).f0) != ((rd_T141 l0_0 x27_2).f2)) = false := bne_eq_false_iff_eq.mpr c31
     clear c31
     have H' := Aside0.mk H
     clear H
     have p1113 : 0 ≤ (x27_2 : Int) := od
     have q1113 : x27_2 < (l0_0.length : Int) := od
     obtain ⟨ad1113, e1113, hx1113_0, hx1113_1, hx1113_2⟩ := at_T141 HR0_0.out x27_2 p1113 q1113
     cases e1113
     replace hx1113_0 := ox HB hx1113_0
     replace hx1113_1 := ox HB hx1113_1
     replace hx1113_2 := ox HB hx1113_2
     replace p1113 := eq_true p1113
     replace q1113 := eq_true q1113
     go_wp2_with (first | ((with_reducible refine gq 4 rfl ?_); (try (refine gate_guard (by rfl) ?_; dsimp only)); refine bx1 HB BK1110 (N := 4) (cs := #[.int .i64 0, .int .i64 0, .int .i64 0]) (t := 141) ?_; clear HB BK1110; intro gb1114 w32 BK1114 GE1114 HB NB1110_1114 NB1114_1110 BK1110; have hnb33 := NB1114_1110.out; have hnc33 := NB1110_1114.out; have hz34 := cs3_ BK1114; have hz35 := cs2_ BK1110) | ((with_reducible refine gf 183 rfl ?_); refine gL 36 Try.func183 #[.agg #[.int .i64 ((rd_T141 l0_0 x27_2).f0), .int .i64 ((rd_T141 l0_0 x27_2).f1), .int .i64 ((rd_T141 l0_0 x27_2).f2)], .int .i64 (l0_1.length : Int)] ?_; (with_reducible refine (impl_WordOk.calls ((rd_T141 l0_0 x27_2).f0) ((rd_T141 l0_0 x27_2).f1) ((rd_T141 l0_0 x27_2).f2) (l0_1.length : Int) true _ A17.out).mono ?_); rintro e w36 ⟨rfl, hb⟩; refine ⟨_, rfl, ?_⟩; replace BK1110 := bbf BK1110 hb; replace BK1114 := bbp3 BK1114 hb; replace HB := bs HB hb; (try clear hb); have hz37 := cs3_ BK1114; have hz38 := cs2_ BK1110; have p1116 : 0 ≤ ((ji26) : Int) := od; have q1116 : (ji26) < (l0_1.length : Int) := od; obtain ⟨ad1116, A1116_2, c1116_2, A1116_4, c1116_4, e1116, hx1116_0, hx1116_1, hx1116_2, hx1116_3, hx1116_4, hl1116_2, hi1116_2, hl1116_4, hi1116_4⟩ := at_T145 HR0_1.out (ji26) p1116 q1116; cases e1116; replace hx1116_0 := ox HB hx1116_0; replace hx1116_1 := ox HB hx1116_1; replace hx1116_2 := ox HB hx1116_2; replace hx1116_3 := ox HB hx1116_3; replace hx1116_4 := ox HB hx1116_4; have HR1116_2 := Aside0.mk hi1116_2; have HC1116_2 := Aside0.mk hl1116_2; clear hi1116_2 hl1116_2; have HR1116_4 := Aside0.mk hi1116_4; have HC1116_4 := Aside0.mk hl1116_4; clear hi1116_4 hl1116_4; replace p1116 := eq_true p1116; replace q1116 := eq_true q1116) | ((with_reducible refine gq 5 rfl ?_); (try (refine gate_guard (by rfl) ?_; dsimp only)); refine bx2 HB BK1110 BK1114 (N := 5) (cs := #[.int .i64 0, .int .i64 0, .slice none 0 0, .int .i64 0, .slice none 0 0]) (t := 145) ?_; clear HB BK1110 BK1114; intro gb1117 w39 BK1117 GE1117 HB NB1110_1117 NB1117_1110 BK1110 NB1114_1117 NB1117_1114 BK1114; have hnb40 := NB1117_1110.out; have hnc40 := NB1110_1117.out; have hnb41 := NB1117_1114.out; have hnc41 := NB1114_1117.out; have hz42 := cs5_ BK1117) | ((with_reducible refine gf 157 rfl ?_); refine goesL_ (some 51) rfl rfl Try.func157 (by kernel_rfl) rfl #[.agg #[.int .i64 ((rd_T145 l0_1 (ji26)).f0), .int .i64 ((rd_T145 l0_1 (ji26)).f1), .slice A1116_2 ((rd_T145 l0_1 (ji26)).f2).length c1116_2, .int .i64 ((rd_T145 l0_1 (ji26)).f3.f0), .slice A1116_4 ((rd_T145 l0_1 (ji26)).f3.f1).length c1116_4], .int .i64 x27_2] rfl (by (try simp only [List.map_toArray, List.map_cons, List.map_nil]); first | done | (simp only [hji26]; rfl) | rfl | (simp only [List.length_drop, List.length_take]; rfl)) ?_; (with_reducible refine (impl_Entries.calls k2 ((rd_T145 l0_1 (ji26)).f0) ((rd_T145 l0_1 (ji26)).f1) _ _ ((rd_T145 l0_1 (ji26)).f2) ((rd_T145 l0_1 (ji26)).f3.f0) _ _ ((rd_T145 l0_1 (ji26)).f3.f1) x27_2 t1118 t1119 t1120 true _ ?side1 HC1116_2.out ?side3 HC1116_4.out A29.out).mono ?_); (case side1 => exact Kd.C_below HR1116_2.out (tb HB)); (case side3 => exact Kd.C_below HR1116_4.out (tb HB)); rintro e w43 ⟨rfl, hb⟩; refine ⟨_, rfl, ?_⟩; replace BK1110 := bbf BK1110 hb; replace BK1114 := bbf BK1114 hb; replace BK1117 := bbp5 BK1117 hb; replace HB := bs HB hb; (try clear hb)) | ((with_reducible refine gq 6 rfl ?_); (try (refine gate_guard (by rfl) ?_; dsimp only)); refine bx3 HB BK1110 BK1114 BK1117 (N := 6) (cs := #[.int .i64 0, .int .i64 0, .int .i64 0]) (t := 166) ?_; clear HB BK1110 BK1114 BK1117; intro gb1122 w44 BK1122 GE1122 HB NB1110_1122 NB1122_1110 BK1110 NB1114_1122 NB1122_1114 BK1114 NB1117_1122 NB1122_1117 BK1117; have hnb45 := NB1122_1110.out; have hnc45 := NB1110_1122.out; have hnb46 := NB1122_1114.out; have hnc46 := NB1114_1122.out; have hnb47 := NB1122_1117.out; have hnc47 := NB1117_1122.out; have hz48 := cs3_ BK1122; have hz49 := cs5_ BK1117; have hz50 := cs3_ BK1114))
     go_roundg k2
     case measure => have := HJ1.out; have := HK2.out; omega
     case rel => exact ⟨(wrap64 (x27_2 + 1)), rsd, H', ⟨by have := HJ1.out; have := HK2.out; omega⟩, ⟨bf BK1110⟩, ⟨tb HB⟩⟩
end Go.Proofs.Ytopikhjcbcpiaaa.Q
section
/- What is marked is held: words, entries, tries, a memory. -/
namespace Go.Proofs.Ytopikhjcbcpiaaa.Q
set_option linter.unusedSimpArgs false
open Go.RowKit Go.Proofs.YtopikhjcbcpiaaaW.PrintWords Go.Proofs.YtopikhjcbcpiaaaX
def mkW (m : Int) : Nat → List S141
  | 0 => []
  | n + 1 => ⟨m, m + 1, m + 2⟩ :: mkW (m + 3) n
def mkE (m : Int) : Nat → List S166
  | 0 => []
  | n + 1 => ⟨m, m + 1, m + 2⟩ :: mkE (m + 3) n
theorem mkW_length (m : Int) (n : Nat) : (mkW m n).length = n := by
  induction n generalizing m with
  | zero => rfl
  | succ n ih => simp [mkW, ih]
theorem mkE_length (m : Int) (n : Nat) : (mkE m n).length = n := by
  induction n generalizing m with
  | zero => rfl
  | succ n ih => simp [mkE, ih]
theorem at141 (p : List S141) (x : S141) (r : List S141) : rd_T141 (p ++ x :: r) (p.length : Int) = x := by
  show (p ++ x :: r).getD (p.length : Int).toNat z141 = x
  simp [List.getD_eq_getElem?_getD]
theorem at166 (p : List S166) (x : S166) (r : List S166) : rd_T166 (p ++ x :: r) (p.length : Int) = x := by
  show (p ++ x :: r).getD (p.length : Int).toNat z166 = x
  simp [List.getD_eq_getElem?_getD]
theorem at145 (p : List S145) (x : S145) (r : List S145) : rd_T145 (p ++ x :: r) (p.length : Int) = x := by
  show (p ++ x :: r).getD (p.length : Int).toNat z145 = x
  simp [List.getD_eq_getElem?_getD]
theorem set_at {α : Type} (p : List α) (x y : α) (r : List α) : (p ++ x :: r).set (p.length : Int).toNat y = p ++ y :: r := by simp
theorem next_at {α : Type} (p : List α) (x : α) (h : p.length ≤ 1048576) : wrap64 ((p.length : Int) + 1) = (((p ++ [x]).length : Nat) : Int) := by
  rw [wrap_in (by omega) (by omega)]; simp
theorem three {m : Int} (h0 : 0 ≤ m) (h1 : m ≤ 1125899906842624) : wrap64 (m + 1) = m + 1 ∧ wrap64 (m + 1 + 1) = m + 2 ∧ wrap64 (m + 2 + 1) = m + 3 := by
  refine ⟨wrap_in (by omega) (by omega), ?_, ?_⟩ <;> (rw [wrap_in (by omega) (by omega)]; omega)
theorem ev_markW (l : List S141) (m : Int) (h0 : 0 ≤ m) (h1 : m + 3 * (l.length : Int) ≤ 1125899906842000) (hl : l.length ≤ 1048576) : Ev (fun k => laws_markWordS.f k l m) (m + 3 * (l.length : Int), mkW m l.length) := by
  have key : ∀ (r p : List S141) (m : Int), 0 ≤ m → m + 3 * (r.length : Int) ≤ 1125899906842000 → p.length + r.length ≤ 1048576 → Ev (fun k => laws_markWordS.l0 k (p ++ r) m (p.length : Int)) (m + 3 * (r.length : Int), p ++ mkW m r.length) := by
    intro r
    induction r with
    | nil =>
      intro p m _ _ _
      refine ev_succ (fun k => ?_)
      simp only [laws_markWordS.l0]; rw [if_neg (by simp)]; simp [mkW]
    | cons x r ih =>
      intro p m hm0 hm1 hlen
      simp only [List.length_cons] at hm1 hlen
      have h := ih (p ++ [⟨m, m + 1, m + 2⟩]) (m + 3) (by omega) (by omega) (by simp; omega)
      refine ev_to (Ev.step (fun k => ?_) h) (by simp [mkW]; omega)
      obtain ⟨e1, e2, e3⟩ := three hm0 (show m ≤ 1125899906842624 by omega)
      simp only [laws_markWordS.l0, Option.bind_some]
      first | rw [if_pos (by simp <;> omega), if_pos (by omega)] | rw [if_pos (by simp <;> omega)]
      simp only [set_at, at141, e1, e2, e3]
      rw [next_at p (⟨m, m + 1, m + 2⟩ : S141) (by omega)]
      simp
  simpa [laws_markWordS.f] using key l [] m h0 h1 (by simpa using hl)
theorem ev_markE (l : List S166) (m : Int) (h0 : 0 ≤ m) (h1 : m + 3 * (l.length : Int) ≤ 1125899906842000) (hl : l.length ≤ 1048576) : Ev (fun k => laws_markEntryS.f k l m) (m + 3 * (l.length : Int), mkE m l.length) := by
  have key : ∀ (r p : List S166) (m : Int), 0 ≤ m → m + 3 * (r.length : Int) ≤ 1125899906842000 → p.length + r.length ≤ 1048576 → Ev (fun k => laws_markEntryS.l0 k (p ++ r) m (p.length : Int)) (m + 3 * (r.length : Int), p ++ mkE m r.length) := by
    intro r
    induction r with
    | nil =>
      intro p m _ _ _
      refine ev_succ (fun k => ?_)
      simp only [laws_markEntryS.l0]; rw [if_neg (by simp)]; simp [mkE]
    | cons x r ih =>
      intro p m hm0 hm1 hlen
      simp only [List.length_cons] at hm1 hlen
      have h := ih (p ++ [⟨m, m + 1, m + 2⟩]) (m + 3) (by omega) (by omega) (by simp; omega)
      refine ev_to (Ev.step (fun k => ?_) h) (by simp [mkE]; omega)
      obtain ⟨e1, e2, e3⟩ := three hm0 (show m ≤ 1125899906842624 by omega)
      simp only [laws_markEntryS.l0, Option.bind_some]
      first | rw [if_pos (by simp <;> omega), if_pos (by omega)] | rw [if_pos (by simp <;> omega)]
      simp only [set_at, at166, e1, e2, e3]
      rw [next_at p (⟨m, m + 1, m + 2⟩ : S166) (by omega)]
      simp
  simpa [laws_markEntryS.f] using key l [] m h0 h1 (by simpa using hl)
theorem ev_heldW (n : Nat) (m : Int) (h0 : 0 ≤ m) (h1 : m + 3 * (n : Int) ≤ 1125899906842000) (hl : n ≤ 1048576) : Ev (fun k => laws_heldWordS.f k (mkW m n) m) (m + 3 * (n : Int)) := by
  have key : ∀ (n : Nat) (p : List S141) (m : Int), 0 ≤ m → m + 3 * (n : Int) ≤ 1125899906842000 → p.length + n ≤ 1048576 → Ev (fun k => laws_heldWordS.l0 k (p ++ mkW m n) m (p.length : Int)) (m + 3 * (n : Int)) := by
    intro n
    induction n with
    | zero =>
      intro p m _ _ _
      refine ev_succ (fun k => ?_)
      simp only [laws_heldWordS.l0]; rw [if_neg (by simp [mkW])]; simp
    | succ n ih =>
      intro p m hm0 hm1 hlen
      have h := ih (p ++ [⟨m, m + 1, m + 2⟩]) (m + 3) (by omega) (by omega) (by simp; omega)
      refine ev_to (Ev.step (fun k => ?_) h) (by omega)
      obtain ⟨e1, e2, e3⟩ := three hm0 (show m ≤ 1125899906842624 by omega)
      simp only [laws_heldWordS.l0, mkW]
      first | rw [if_pos (by simp <;> omega), if_pos (by omega)] | rw [if_pos (by simp <;> omega)]
      simp only [at141, e1, e2, e3, if_true]
      rw [next_at p (⟨m, m + 1, m + 2⟩ : S141) (by omega)]
      first | (simp; done) | (simp; intro h'; exfalso; omega)
  simpa [laws_heldWordS.f] using key n [] m h0 h1 (by simpa using hl)
theorem ev_heldE (n : Nat) (m : Int) (h0 : 0 ≤ m) (h1 : m + 3 * (n : Int) ≤ 1125899906842000) (hl : n ≤ 1048576) : Ev (fun k => laws_heldEntryS.f k (mkE m n) m) (m + 3 * (n : Int)) := by
  have key : ∀ (n : Nat) (p : List S166) (m : Int), 0 ≤ m → m + 3 * (n : Int) ≤ 1125899906842000 → p.length + n ≤ 1048576 → Ev (fun k => laws_heldEntryS.l0 k (p ++ mkE m n) m (p.length : Int)) (m + 3 * (n : Int)) := by
    intro n
    induction n with
    | zero =>
      intro p m _ _ _
      refine ev_succ (fun k => ?_)
      simp only [laws_heldEntryS.l0]; rw [if_neg (by simp [mkE])]; simp
    | succ n ih =>
      intro p m hm0 hm1 hlen
      have h := ih (p ++ [⟨m, m + 1, m + 2⟩]) (m + 3) (by omega) (by omega) (by simp; omega)
      refine ev_to (Ev.step (fun k => ?_) h) (by omega)
      obtain ⟨e1, e2, e3⟩ := three hm0 (show m ≤ 1125899906842624 by omega)
      simp only [laws_heldEntryS.l0, mkE]
      first | rw [if_pos (by simp <;> omega), if_pos (by omega)] | rw [if_pos (by simp <;> omega)]
      simp only [at166, e1, e2, e3, if_true]
      rw [next_at p (⟨m, m + 1, m + 2⟩ : S166) (by omega)]
      first | (simp; done) | (simp; intro h'; exfalso; omega)
  simpa [laws_heldEntryS.f] using key n [] m h0 h1 (by simpa using hl)
def mk1 (m : Int) (x : S145) : S145 := ⟨m, m + 1, mkE (m + 2) x.f2.length, ⟨m + 2 + 3 * (x.f2.length : Int), marks (m + 3 + 3 * (x.f2.length : Int)) 0 x.f3.f1.length⟩⟩
def nx1 (m : Int) (x : S145) : Int := m + 3 + 3 * (x.f2.length : Int) + (x.f3.f1.length : Int)
def mkD : Int → List S145 → List S145
  | _, [] => []
  | m, x :: r => mk1 m x :: mkD (nx1 m x) r
def nxD : Int → List S145 → Int
  | m, [] => m
  | m, x :: r => nxD (nx1 m x) r
theorem mkD_length (l : List S145) (m : Int) : (mkD m l).length = l.length := by
  induction l generalizing m with
  | nil => rfl
  | cons x r ih => simp [mkD, ih]
theorem nx1_bd {m : Int} {x : S145} (h0 : 0 ≤ m) (hx : fitE x) : 0 ≤ nx1 m x ∧ nx1 m x ≤ m + 8388608 := by
  unfold nx1
  have := hx.1; have := hx.2
  omega
theorem nxD_pos (l : List S145) (m : Int) (h0 : 0 ≤ m) : 0 ≤ nxD m l := by
  induction l generalizing m with
  | nil => exact h0
  | cons x r ih => exact ih _ (by unfold nx1; omega)
theorem ev_markD (l : List S145) (m : Int) (h0 : 0 ≤ m) (h1 : m ≤ 4194304) (hl : l.length ≤ 1048576) (hf : ∀ x ∈ l, fitE x) : Ev (fun k => laws_markDescSX.f k l m) (nxD m l, mkD m l) := by
  have key : ∀ (r p : List S145) (m : Int), 0 ≤ m → m + 8388608 * (r.length : Int) ≤ 9007199254740992 / 8 → p.length + r.length ≤ 1048576 → (∀ x ∈ r, fitE x) → Ev (fun k => laws_markDescSX.l0 k (p ++ r) m (p.length : Int)) (nxD m r, p ++ mkD m r) := by
    intro r
    induction r with
    | nil =>
      intro p m _ _ _ _
      refine ev_succ (fun k => ?_)
      simp only [laws_markDescSX.l0]; rw [if_neg (by simp)]; simp [mkD, nxD]
    | cons x r ih =>
      intro p m hm0 hm1 hlen hfit
      simp only [List.length_cons] at hm1 hlen
      have hx : fitE x := hfit x List.mem_cons_self
      have hb := nx1_bd hm0 hx
      have h := ih (p ++ [mk1 m x]) (nx1 m x) hb.1 (by omega) (by simp; omega) (fun y hy => hfit y (List.mem_cons_of_mem _ hy))
      have hx1 := hx.1
      have hx2 := hx.2
      obtain ⟨e1, e2, e3⟩ := three hm0 (show m ≤ 1125899906842624 by omega)
      have a2 := ev_markE x.f2 (m + 2) (by omega) (by omega) hx.1
      have a4 := ev_markIntS x.f3.f1 (m + 3 + 3 * (x.f2.length : Int)) (by omega) (by omega) hx.2
      have e4 : wrap64 (m + 2 + 3 * (x.f2.length : Int) + 1) = m + 3 + 3 * (x.f2.length : Int) := by rw [wrap_in (by omega) (by omega)]; omega
      have hg : (nxD m (x :: r), p ++ mkD m (x :: r)) = (nxD (nx1 m x) r, p ++ [mk1 m x] ++ mkD (nx1 m x) r) := by simp [mkD, nxD]
      rw [hg]
      refine (Ev.step (f := fun k => (laws_markEntryS.f k x.f2 (m + 2)).bind fun b2 => (laws_markIntS.f k x.f3.f1 (wrap64 (b2.1 + 1))).bind fun b4 => laws_markDescSX.l0 k (p ++ (⟨m, m + 1, b2.2, ⟨b2.1, b4.2⟩⟩ : S145) :: r) b4.1 (((p ++ [x]).length : Nat) : Int)) (fun k => ?_) (Ev.bind a2 ?_))
      · simp only [laws_markDescSX.l0]
        first | rw [if_pos (by simp <;> omega), if_pos (by omega)] | rw [if_pos (by simp <;> omega)]
        simp only [set_at, at145, e1, e2]
        rw [next_at p x (by omega)]
      · simp only [e4]
        refine Ev.bind a4 ?_
        have e5 : ((p ++ [x]).length : Nat) = (p ++ [mk1 m x]).length := by simp
        have e6 : m + 3 + 3 * (x.f2.length : Int) + (x.f3.f1.length : Int) = nx1 m x := rfl
        simp only [e5, e6]
        have e7 : p ++ (⟨m, m + 1, mkE (m + 2) x.f2.length, ⟨m + 2 + 3 * (x.f2.length : Int), marks (m + 3 + 3 * (x.f2.length : Int)) 0 x.f3.f1.length⟩⟩ : S145) :: r = p ++ [mk1 m x] ++ r := by simp [mk1]
        rw [e7]
        exact ev_to h (by simp)
  simpa [laws_markDescSX.f] using key l [] m h0 (by omega) (by simpa using hl) hf
theorem ev_heldD (l : List S145) (m : Int) (h0 : 0 ≤ m) (h1 : m ≤ 4194304) (hl : l.length ≤ 1048576) (hf : ∀ x ∈ l, fitE x) : Ev (fun k => laws_heldDescS.f k (mkD m l) m) (nxD m l) := by
  have key : ∀ (r p : List S145) (m : Int), 0 ≤ m → m + 8388608 * (r.length : Int) ≤ 9007199254740992 / 8 → p.length + r.length ≤ 1048576 → (∀ x ∈ r, fitE x) → Ev (fun k => laws_heldDescS.l0 k (p ++ mkD m r) m (p.length : Int)) (nxD m r) := by
    intro r
    induction r with
    | nil =>
      intro p m _ _ _ _
      refine ev_succ (fun k => ?_)
      simp only [laws_heldDescS.l0]; rw [if_neg (by simp [mkD])]; simp [nxD]
    | cons x r ih =>
      intro p m hm0 hm1 hlen hfit
      simp only [List.length_cons] at hm1 hlen
      have hx : fitE x := hfit x List.mem_cons_self
      have hb := nx1_bd hm0 hx
      have h := ih (p ++ [mk1 m x]) (nx1 m x) hb.1 (by omega) (by simp; omega) (fun y hy => hfit y (List.mem_cons_of_mem _ hy))
      have hx1 := hx.1
      have hx2 := hx.2
      obtain ⟨e1, e2, e3⟩ := three hm0 (show m ≤ 1125899906842624 by omega)
      have a2 := ev_heldE x.f2.length (m + 2) (by omega) (by omega) hx.1
      have a4 := ev_heldIntS (m + 3 + 3 * (x.f2.length : Int)) x.f3.f1.length (by omega) (by omega) hx.2
      have e4 : wrap64 (m + 2 + 3 * (x.f2.length : Int) + 1) = m + 3 + 3 * (x.f2.length : Int) := by rw [wrap_in (by omega) (by omega)]; omega
      refine Ev.step (f := fun k => (laws_heldEntryS.f k (mkE (m + 2) x.f2.length) (m + 2)).bind fun t => if t < 0 then some (-1) else if m + 2 + 3 * (x.f2.length : Int) = t then ((laws_heldIntS.f k (marks (m + 3 + 3 * (x.f2.length : Int)) 0 x.f3.f1.length) (wrap64 (t + 1))).bind fun t2 => if t2 < 0 then some (-1) else laws_heldDescS.l0 k (p ++ mkD m (x :: r)) t2 (((p ++ [x]).length : Nat) : Int)) else some (-1)) (fun k => ?_) (Ev.bind a2 (ev_neg (by omega) (ev_pos rfl ?_)))
      · simp only [laws_heldDescS.l0]
        first | rw [if_pos (by simp [mkD] <;> omega), if_pos (by omega)] | rw [if_pos (by simp [mkD] <;> omega)]
        have e0 : rd_T145 (p ++ mkD m (x :: r)) (p.length : Int) = mk1 m x := at145 p _ _
        simp only [e0]
        simp only [mk1, e1, e2, if_true]
        rw [next_at p x (by omega)]
        rfl
      · simp only [e4]
        refine Ev.bind a4 (ev_neg (by omega) ?_)
        have e5 : ((p ++ [x]).length : Nat) = (p ++ [mk1 m x]).length := by simp
        have e6 : m + 3 + 3 * (x.f2.length : Int) + (x.f3.f1.length : Int) = nx1 m x := rfl
        have e7 : p ++ mkD m (x :: r) = p ++ [mk1 m x] ++ mkD (nx1 m x) r := by simp [mkD]
        simp only [e5, e6, e7]
        exact h
  simpa [laws_heldDescS.f] using key l [] m h0 (by omega) (by simpa using hl) hf
theorem ev_markMem (ws : List S141) (ds : List S145) (hw : ws.length ≤ 1048576) (hd : ds.length ≤ 1048576) (hf : ∀ x ∈ ds, fitE x) :
    Ev (fun k => laws_markMem.f k ws ds 1) (nxD (1 + 3 * (ws.length : Int)) ds, mkW 1 ws.length, mkD (1 + 3 * (ws.length : Int)) ds) := by
  unfold laws_markMem.f
  refine Ev.bind (ev_markW ws 1 (by omega) (by omega) hw) (Ev.bind (ev_markD ds _ (by omega) (by omega) hd hf) (Ev.now _))
theorem ev_heldMem (ws : List S141) (ds : List S145) (hw : ws.length ≤ 1048576) (hd : ds.length ≤ 1048576) (hf : ∀ x ∈ ds, fitE x) :
    Ev (fun k => laws_heldMem.f k (mkW 1 ws.length) (mkD (1 + 3 * (ws.length : Int)) ds) 1) (nxD (1 + 3 * (ws.length : Int)) ds) := by
  unfold laws_heldMem.f
  have := nxD_pos ds (1 + 3 * (ws.length : Int)) (by omega)
  exact Ev.bind (ev_heldW ws.length 1 (by omega) (by omega) hw) (ev_neg (by omega) (Ev.bind (ev_heldD ds _ (by omega) (by omega) hd hf) (ev_neg (by omega) (Ev.now _))))
theorem ev_eqMem (ws : List S141) (ds : List S145) (hw : ws.length ≤ 1048576) (hd : ds.length ≤ 1048576) (hf : ∀ x ∈ ds, fitE x) : Ev (fun k => laws_eqMem.f k ws ds ws ds) true := by
  unfold laws_eqMem.f
  exact Ev.bind (ev_eqWordS ws hw) (ev_pos rfl (Ev.bind (ev_eqDescS ds hd hf) (ev_pos rfl (Ev.now _))))
end Go.Proofs.Ytopikhjcbcpiaaa.Q
end
namespace Go.Proofs.Ytopikhjcbcpiaaa.Q
open Go.RowKit Go.Proofs.YtopikhjcbcpiaaaW.PrintWords Go.Proofs.YtopikhjcbcpiaaaW.PrintLast Go.Proofs.YtopikhjcbcpiaaaW.PrintMore
attribute [local go_sem] max2_int min2_int max_two min_two max_three min_three max_four min_four   -- for this text's walks alone
set_option linter.unusedVariables false
set_option linter.unusedSimpArgs false
def spec_MemNew.l0 : Nat → Int → List Int → Int → List (S141) → Option ((List (S141)) × (List (S145)) × Bool)
 | 0, _, _, _, _ => none
 | k + 1, x1, x7, x8, x1059000 => if x8 < (x7.length : Int) then (if 0 ≤ x8 then (if x1059000.length < 5864062014805 then (spec_MemNew.l0 k x1 x7 (wrap64 (x8 + 1)) (x1059000 ++ [(⟨rd x7 x8, 0, 0⟩ : S141)])) else (none)) else (none)) else ((spec_l1In.f x1 1 4).bind fun t1066 => (if t1066 = true then (if 0 ≤ x1 then (if (x1 : Int).toNat ≤ 3909374676536 then ((some (List.replicate (x1 : Int).toNat z145 : List (S145))).bind fun y1067 => ((spec_MemOk.f k x1059000 y1067).bind fun t1070 => (if t1070 = true then (some (x1059000, y1067, true)) else (some (([] : List (S141)), ([] : List (S145)), false))))) else (none)) else (none)) else ((spec_MemOk.f k x1059000 ([] : List (S145))).bind fun t1071 => (if t1071 = true then (some (x1059000, ([] : List (S145)), true)) else (some (([] : List (S141)), ([] : List (S145)), false))))))
def spec_MemNew.f (k : Nat) (l0_0 : List Int) (a0_1 : Int) (a1 : Int) : Option ((List (S141)) × (List (S145)) × Bool) := (spec_WordsOf.f k l0_0 a0_1).bind fun t1059 => (spec_MemNew.l0 k a1 t1059 0 ([] : List (S141)))
def spec_MemNew.T6 : Bool × List (List Nat × List Nat) := (true, [([], []), ([0], [0]), ([], []), ([], []), ([2, 3], [2, 3]), ([4], [4]), ([5], [5]), ([6], [6]), ([1, 7], [1, 7]), ([0, 1, 2, 3, 4, 5, 6, 7, 8], []), ([9, 8, 8, 0, 1, 2, 3, 4, 5, 6, 7, 8], [8, 9])])
def spec_MemNew.B6 : List Nat := [0, 1, 0, 0, 12, 28, 60, 124, 255, 511, 1023]
theorem spec_MemNew.tab6 : rtab .any (opsOf Try.f56 6) = spec_MemNew.T6 := by kernel_rfl
theorem spec_MemNew.bits6 : waitsOk spec_MemNew.T6.2 spec_MemNew.B6 = true := by kernel_rfl
set_option maxHeartbeats 8000000 in
set_option maxRecDepth 100000 in
theorem spec_MemNew.calls (k : Nat) (A0_0 : Option Addr) (c0_0 : Nat) (l0_0 : List Int) (a0_1 : Int) (a1 : Int) (r1 : List (S141)) (r2 : List (S145)) (r3 : Bool) (w : World) (hr0_0 : Kd.C (Kd.int .i64) w A0_0 l0_0.length l0_0) (hc0_0 : l0_0.length ≤ c0_0) (h : spec_MemNew.f k l0_0 a0_1 a1 = some (r1, r2, r3)) :
  Calls Try.prog 56 #[.agg #[.slice A0_0 l0_0.length c0_0, .int .i64 a0_1], .int .i64 a1] w fun e w' => ∃ v0_ v1_ : Value, e = .returned (.tuple #[.agg #[v0_, v1_], .bool r3]) ∧ Kd.R k141 141 w' w.heap.size (fun _ => True) v0_ r1 ∧ Kd.S k145 145 w' w.heap.size (fun _ => True) v1_ r2 ∧ Below w.heap.size w w' := by
 have hu65 := Try.underlying65
 have hu88 := Try.underlying88
 have hu141 := Try.underlying141
 have HR0_0 := Aside0.mk hr0_0
 have HC0_0 := Aside0.mk hc0_0
 clear hr0_0 hc0_0
 have HB := Aside0.mk (Below.refl w.heap.size w)
 have H : ((spec_WordsOf.f k l0_0 a0_1).bind fun t1059 => (spec_MemNew.l0 k a1 t1059 0 ([] : List (S141)))) = some (r1, r2, r3) := h
 clear h
 replace H := Option.bind_eq_some_iff.mp H
 obtain ⟨t1059, A30, H⟩ := H
 replace H : (spec_MemNew.l0 k a1 t1059 0 ([] : List (S141))) = some (r1, r2, r3) := H
 have A3 := Aside0.mk A30
 clear A30
 have H' := Aside0.mk H
 clear H
 go_enter Try.func56, Try.ntmps56
 go_wp2_with (first | ((with_reducible refine gate_dst (N := 2) rfl ?_); refine bx (N := 2) (cs := #[.slice A0_0 l0_0.length c0_0, .int .i64 a0_1]) (t := 65) ?_; intro gb1056 hg w4 hbox hb; have BK1056 := Aside0.mk (hbox); have GE1056 := Aside0.mk (ge_ hg HB); replace HB := bs HB hb; clear hb hbox hg) | ((with_reducible refine gate_dst (N := 4) rfl ?_); refine bx (N := 4) (cs := #[.slice none 0 0, .slice none 0 0]) (t := 88) ?_; intro gb1057 hg w5 hbox hb; have BK1057 := Aside0.mk (hbox); have GE1057 := Aside0.mk (ge_ hg HB); replace HB := bs HB hb; have NB1056_1057 := Aside0.mk (nl_ hg BK1056); have NB1057_1056 := Aside0.mk (ng_ hg BK1056); replace BK1056 := bb BK1056 hb; clear hb hbox hg) | ((with_reducible refine gate_dst (N := 6) rfl ?_); refine bx (N := 6) (cs := #[.slice none 0 0, .slice none 0 0]) (t := 88) ?_; intro gb1058 hg w6 hbox hb; have BK1058 := Aside0.mk (hbox); have GE1058 := Aside0.mk (ge_ hg HB); replace HB := bs HB hb; have NB1056_1058 := Aside0.mk (nl_ hg BK1056); have NB1058_1056 := Aside0.mk (ng_ hg BK1056); replace BK1056 := bb BK1056 hb; have NB1057_1058 := Aside0.mk (nl_ hg BK1057); have NB1058_1057 := Aside0.mk (ng_ hg BK1057); replace BK1057 := bb BK1057 hb; clear hb hbox hg; have hnb7 := NB1058_1056.out; have hnc7 := NB1056_1058.out; have hnb8 := NB1058_1057.out; have hnc8 := NB1057_1058.out; obtain ⟨hcz9_0, hcz9_1, hfz9_0, hfz9_1⟩ := cs2_ BK1058; have hnb10 := NB1056_1057.out; have hnc10 := NB1057_1056.out; obtain ⟨hcz11_0, hcz11_1, hfz11_0, hfz11_1⟩ := cs2_ BK1056) | ((with_reducible refine gate_callee (f := 127) rfl ?_); refine gL 11 Try.func127 #[.agg #[.slice A0_0 l0_0.length c0_0, .int .i64 a0_1]] ?_; (with_reducible refine (spec_WordsOf.calls k _ _ l0_0 a0_1 t1059 _ ?side1 ?side2 A3.out).mono ?_); (case side1 => exact Kd.C_below HR0_0.out (tb HB)); (case side2 => exact HC0_0.out); rintro e w12 ⟨v1060, rfl, ho0, hb⟩; refine ⟨_, rfl, ?_⟩; have HO1061 := Aside0.mk (Kd.R_lower ho0 (below_size (tb HB))); replace BK1056 := Aside0.mk (blk_below (g := gb1056) (o := .cells #[.slice A0_0 l0_0.length c0_0, .int .i64 a0_1] 65 (0, 0)) (bf BK1056) hb); replace BK1057 := Aside0.mk (blk_below (g := gb1057) (o := .cells #[.slice none 0 0, .slice none 0 0] 88 (0, 0)) (bf BK1057) hb); replace BK1058 := Aside0.mk (blk_below (g := gb1058) (o := .cells #[.slice none 0 0, .slice none 0 0] 88 (0, 0)) (by (with_reducible repeat (first | refine blk_drewN ?_ _ | refine blk_drew ?_ | refine blk_alloc ?_ _)); refine blk_put (cs := #[.slice none 0 0, .slice none 0 0]) ?_ 1 _ rfl; (with_reducible repeat (first | refine blk_drewN ?_ _ | refine blk_drew ?_ | refine blk_alloc ?_ _)); refine blk_put (cs := #[.slice none 0 0, .slice none 0 0]) ?_ 0 _ rfl; (with_reducible repeat (first | refine blk_drewN ?_ _ | refine blk_drew ?_ | refine blk_alloc ?_ _)); exact BK1058.out) hb); replace HB := bs HB hb; (try clear hb); (try clear hb2); (try clear hk); (try clear hi); (try clear ho0)))
 go_loopg [8] k (fun kq v8 w' => ∃ (x8_1 : Int) (x1059000_1 : List (S141)) (u1059000 : Value), v8 = .int .i64 x8_1 ∧ Aside0 (spec_MemNew.l0 kq a1 t1059 x8_1 x1059000_1 = some (r1, r2, r3)) ∧ Aside0 (kq ≤ k) ∧ Aside0 (Kd.R (Kd.int .i64) 3 w' w.heap.size (fun _ => True) v1060 t1059) ∧ Aside0 (Kd.R k141 141 w' w.heap.size (fun _ => True) u1059000 x1059000_1) ∧ Aside0 (w'.heap[gb1056]? = some (.cells #[(.slice A0_0 l0_0.length c0_0), .int .i64 a0_1] 65 (0, 0))) ∧ Aside0 (w'.heap[gb1057]? = some (.cells #[(.slice none 0 0), (.slice none 0 0)] 88 (0, 0))) ∧ Aside0 (w'.heap[gb1058]? = some (.cells #[u1059000, (.slice none 0 0)] 88 (0, 0))) ∧ Aside0 (Below w.heap.size w w'))
 case atStart => exact ⟨(0), (([] : List (S141))), (.slice none 0 0), (by first | rfl | (simp; done) | (simp [*]; done)), H', ⟨Nat.le_refl _⟩, ⟨kr HO1061.out⟩, ⟨by first | exact Kd.R_nil _ _ _ _ _ | exact Kd.N_nil _ _ _ _ _ | exact Kd.V_nil _ _ _ _ _ | exact Kd.Q_nil _ _ _ _ _ | exact Kd.S_nil _ _ _ _ _⟩, ⟨by (with_reducible repeat (first | refine blk_drewN ?_ _ | refine blk_drew ?_ | refine blk_alloc ?_ _)); exact BK1056.out⟩, ⟨by (with_reducible repeat (first | refine blk_drewN ?_ _ | refine blk_drew ?_ | refine blk_alloc ?_ _)); exact BK1057.out⟩, ⟨by (with_reducible repeat (first | refine blk_drewN ?_ _ | refine blk_drew ?_ | refine blk_alloc ?_ _)); exact BK1058.out⟩, ⟨tb HB⟩⟩
 case round =>
  clear H'
  try clear c1
  try clear p2
  try clear c5
  try clear c7
  try clear c8
  try clear c10
  try clear c12
  try clear hcz11_0
  try clear hcz11_1
  try clear hcz9_0
  try clear hcz9_1
  try clear hfz11_0
  try clear hfz11_1
  try clear hfz9_0
  try clear hfz9_1
  obtain ⟨x8_1, x1059000_1, u1059000, rfl, HA, HK1, HO_7, HO_1059000, BK1056, BK1057, BK1058, HB⟩ := hrel
  cases gk with
  | zero => exact absurd HA.out (by simp [spec_MemNew.l0])
  | succ k1 =>
   have H := HA.out
   clear HA
   simp only [spec_MemNew.l0] at H
   by_cases c13 : x8_1 < (t1059.length : Int)
   ·rw [if_pos c13] at H
    have c13b0 := decide_eq_true c13
    clear c13
    by_cases c14 : 0 ≤ x8_1
    ·rw [if_pos c14] at H
     have c14b0 := decide_eq_true c14
     clear c14
     by_cases c15 : x1059000_1.length < 5864062014805
     ·rw [if_pos c15] at H
      have LMc15 := Aside0.mk c15
      clear c15
      obtain ⟨y1063, hy1063⟩ : ∃ y_ : List (S141), y_ = (x1059000_1 ++ [(⟨rd t1059 x8_1, 0, 0⟩ : S141)]) := ⟨_, rfl⟩
      replace H : (spec_MemNew.l0 k1 a1 t1059 (wrap64 (x8_1 + 1)) y1063) = some (r1, r2, r3) := by first | (rw [hy1063]; with_reducible exact H) | (have H2_ := (Option.bind_some _ _).symm.trans H; rw [hy1063]; with_reducible exact H2_) | (have H2_ := (Option.bind_some _ _).symm.trans H; with_reducible exact H2_) | with_reducible exact H | (rw [hy1063]; exact H) | exact H
      have Ny1063 := Aside0.mk hy1063
      clear hy1063
      have H' := Aside0.mk H
      clear H
      obtain ⟨Ao16, co16, eo16⟩ := Kd.R_slice HO_7.out
      subst eo16
      try go_wp2
      replace HO_7 := rd_ HO_7
      replace HO_1059000 := rd_ HO_1059000
      replace BK1056 := bd BK1056
      replace BK1057 := bd BK1057
      replace BK1058 := bd BK1058
      replace HB := Aside0.mk (below_drew1 HB.out)
      have p1062 : 0 ≤ (x8_1 : Int) := od
      have q1062 : x8_1 < (t1059.length : Int) := od
      obtain ⟨ad1062, e1062, hx1062_0⟩ := Kd.at_int (Kd.R_reads' HO_7.out).2.2 x8_1 p1062 q1062
      cases e1062
      replace p1062 := eq_true p1062
      replace q1062 := eq_true q1062
      refine start_ (n := 11) (S := fun w' => w'.cell? ⟨gb1058, 0, none⟩ = some (u1059000) ∧ w'.cell? ⟨gb1058, 1, none⟩ = some (.slice none 0 0) ∧ w'.cell? (ad1062.add (x8_1).toNat) = some (.int .i64 (rd t1059 x8_1))) (ds := [8, 10]) #[false, false, false, false, false, false, false, false, false, false, false] (by kernel_rfl) rfl rfl ⟨cz BK1058 0, cz BK1058 1, hx1062_0⟩ (fun hHeld => ?_); refine with_tabW spec_MemNew.tab6 spec_MemNew.bits6 (fun HT_ HW_ => ?_)
      generalize wr.drew = w17 at HO_7 HO_1059000 BK1056 BK1057 BK1058 HB hx1062_0 hHeld ⊢
      refine pu 0 18 ?_
      refine pu 2 20 ?_
      refine pu 3 21 ?_
      refine pu 4 22 ?_
      refine ta 1 19 ?_
      refine ta 5 23 ?_
      refine pu 6 24 ?_
      refine one_ (i := 7) (N := some 25) #[true, true, true, true, true, true, true, true, false, false, false] rfl rfl (one_of HT_.out (by kernel_rfl)) (by decide) (fun K hK => ?_)
      refine value_ (w1 := ?_) (v := ?_) (by rfl) rfl ?_ ?_
      rotate_left 2
      ·go_simp
       constructor
       ·rfl
       ·rfl
      refine hK.out _ _ ⟨(blk_cell (blk_alloc BK1058.out _) 0).trans rfl, (blk_cell (blk_alloc BK1058.out _) 1).trans rfl, (World.cell?_alloc_lt _ _ _ (World.block_lt_of_cell? _ _ (hHeld.2.2))).trans (hHeld.2.2)⟩ (fun hHeld => ?_)
      clear hK K
      refine nm 25 ?_
      refine last_ (i := 8) (N := some 26) #[true, true, true, true, true, true, true, true, true, false, false] rfl rfl (one_of HT_.out (by kernel_rfl)) (by decide) (fun K hK => ?_)
      refine Kd.R_append_step k141 (w0 := w) w.heap.size (by rfl) (.tmp 19) (.tmp 25) 47 141 (.agg #[(.int .i64 0), (.int .i64 0), (.int .i64 0)]) 24 rfl Try.underlying47 info141 rfl (by decide) (by omega) u1059000 x1059000_1 (⟨rd t1059 x8_1, 0, 0⟩ : S141) [.int .i64 (rd t1059 x8_1), .int .i64 0, .int .i64 0] (fun _ => True) (fun _ => False) rfl rfl ?aP (fun _ hk => hk.elim) ?aF ?aO ?aB ?aS ?aL ?_
      (case aP => exact k141_mkM _ _ _ (⟨rd t1059 x8_1, 0, 0⟩ : S141))
      (case aB => exact (tb HB))
      (case aF => exact (fun _ _ => trivial))
      (case aO => exact (kr HO_1059000.out))
      (case aS => exact (below_size (tb HB)))
      (case aL => have := LMc15.out; omega)
      intro v1064 w18 ho hb hg hat
      rw [← Ny1063.out] at ho
      replace HO_7 := Aside0.mk (Kd.R_over' (kr HO_7.out) (Kd.R_typed (kr HO_1059000.out)) (by decide) hg)
      replace BK1056 := Aside0.mk (blk_grown (g := gb1056) (o := .cells #[.slice A0_0 l0_0.length c0_0, .int .i64 a0_1] 65 (0, 0)) (bk BK1056) hg (Kd.R_ne HO_1059000.out BK1056.out (by decide)))
      replace BK1057 := Aside0.mk (blk_grown (g := gb1057) (o := .cells #[.slice none 0 0, .slice none 0 0] 88 (0, 0)) (bk BK1057) hg (Kd.R_ne HO_1059000.out BK1057.out (by decide)))
      replace BK1058 := Aside0.mk (blk_grown (g := gb1058) (o := .cells #[u1059000, .slice none 0 0] 88 (0, 0)) (bk BK1058) hg (Kd.R_ne HO_1059000.out BK1058.out (by decide)))
      replace HB := Aside0.mk (hb)
      have HO1065 := Aside0.mk (ho)
      clear HO_1059000
      clear ho hb hg hat
      obtain ⟨Ao19, co19, eo19⟩ := Kd.R_slice HO1065.out
      (first | subst eo19 | (injection eo19 with f1_ f2_ f3_; have f4_ := f1_.symm; have f5_ := f3_.symm; clear f1_ f2_ f3_; subst f4_; subst f5_))
      refine hK.out _ _ ?_
      clear hK K
      refine nm 26 ?_
      refine pu 9 27 ?_
      refine last_ (i := 10) (N := none) #[true, true, true, true, true, true, true, true, true, true, true] rfl rfl (one_of HT_.out (by kernel_rfl)) (by decide) (fun K hK => ?_)
      have hs20 : w18.cell? ⟨gb1058, 0, none⟩ = some (u1059000) := cz BK1058 0
      have hfs20 := blk_frozen BK1058.out 0
      have hns20_0 := NB1056_1058.out
      have hns20_1 := NB1057_1058.out
      have hms20_0 := NB1058_1056.out
      have hms20_1 := NB1058_1057.out
      refine skip_ (w1 := ?_) (by rfl) rfl ?_ ?_
      rotate_left
      ·go_simp
       rfl
      refine hK.out _ _ ?_
      clear hK K
      refine done_ (done_of HT_.out (by kernel_rfl)) ?_
      try go_wp2
      go_roundg k1
      case measure => have := HK1.out; omega
      case rel => exact ⟨(wrap64 (x8_1 + 1)), (y1063), (.slice Ao19 y1063.length co19), (by first | rfl | (simp; done) | (simp [*]; done)), H', ⟨by have := HK1.out; omega⟩, ⟨by (with_reducible repeat (first | apply Kd.R_alloc | apply Kd.R_drewN | apply Kd.R_drew)); exact Kd.R_mono (Kd.R_far (p := ⟨gb1058, 0, none⟩) (Kd.R_types HO_7.out BK1058.out (by decide)) (fun _ hk => hk.2) (.slice Ao19 y1063.length co19)) (fun _ hk => trivial)⟩, ⟨by (with_reducible repeat (first | apply Kd.R_alloc | apply Kd.R_drewN | apply Kd.R_drew)); exact Kd.R_mono (Kd.R_far (p := ⟨gb1058, 0, none⟩) (Kd.R_types HO1065.out BK1058.out (by decide)) (fun _ hk => hk.2) (.slice Ao19 y1063.length co19)) (fun _ hk => trivial)⟩, ⟨bf BK1056⟩, ⟨bf BK1057⟩, ⟨by (with_reducible repeat (first | refine blk_drewN ?_ _ | refine blk_drew ?_ | refine blk_alloc ?_ _)); refine blk_put (cs := #[u1059000, .slice none 0 0]) ?_ 0 _ rfl; (with_reducible repeat (first | refine blk_drewN ?_ _ | refine blk_drew ?_ | refine blk_alloc ?_ _)); exact BK1058.out⟩, ⟨tb HB⟩⟩
     ·rw [if_neg c15] at H
      exact absurd H (by simp)
    ·rw [if_neg c14] at H
     exact absurd H (by simp)
   ·rw [if_neg c13] at H
    have c13b0 := decide_eq_false c13
    clear c13
    replace H := Option.bind_eq_some_iff.mp H
    obtain ⟨t1066, A210, H⟩ := H
    replace H : (if t1066 = true then (if 0 ≤ a1 then (if (a1 : Int).toNat ≤ 3909374676536 then ((some (List.replicate (a1 : Int).toNat z145 : List (S145))).bind fun y1067 => ((spec_MemOk.f k1 x1059000_1 y1067).bind fun t1070 => (if t1070 = true then (some (x1059000_1, y1067, true)) else (some (([] : List (S141)), ([] : List (S145)), false))))) else (none)) else (none)) else ((spec_MemOk.f k1 x1059000_1 ([] : List (S145))).bind fun t1071 => (if t1071 = true then (some (x1059000_1, ([] : List (S145)), true)) else (some (([] : List (S141)), ([] : List (S145)), false))))) = some (r1, r2, r3) := H
    have A21 := Aside0.mk A210
    clear A210
    by_cases c22 : t1066 = true
    ·subst c22
     have H1 : (if 0 ≤ a1 then (if (a1 : Int).toNat ≤ 3909374676536 then ((some (List.replicate (a1 : Int).toNat z145 : List (S145))).bind fun y1067 => ((spec_MemOk.f k1 x1059000_1 y1067).bind fun t1070 => (if t1070 = true then (some (x1059000_1, y1067, true)) else (some (([] : List (S141)), ([] : List (S145)), false))))) else (none)) else (none)) = some (r1, r2, r3) := by rw [if_pos rfl] at H; exact H
     clear H
     have H := H1
     clear H1
     by_cases c23 : 0 ≤ a1
     ·rw [if_pos c23] at H
      have c23b0 := eq_true c23
      have c23b1 := decide_eq_true c23
      clear c23
      by_cases c24 : (a1 : Int).toNat ≤ 3909374676536
      ·rw [if_pos c24] at H
       have c24b0 := eq_true c24
       have c24b1 := decide_eq_true c24
       clear c24
       obtain ⟨y1067, hy1067⟩ : ∃ y_ : List (S145), y_ = (List.replicate (a1 : Int).toNat z145) := ⟨_, rfl⟩
       replace H : ((spec_MemOk.f k1 x1059000_1 y1067).bind fun t1070 => (if t1070 = true then (some (x1059000_1, y1067, true)) else (some (([] : List (S141)), ([] : List (S145)), false)))) = some (r1, r2, r3) := by first | (rw [hy1067]; with_reducible exact H) | (have H2_ := (Option.bind_some _ _).symm.trans H; rw [hy1067]; with_reducible exact H2_) | (have H2_ := (Option.bind_some _ _).symm.trans H; with_reducible exact H2_) | with_reducible exact H | (rw [hy1067]; exact H) | exact H
       have Ny1067 := Aside0.mk hy1067
       clear hy1067
       replace H := Option.bind_eq_some_iff.mp H
       obtain ⟨t1070, A250, H⟩ := H
       replace H : (if t1070 = true then (some (x1059000_1, y1067, true)) else (some (([] : List (S141)), ([] : List (S145)), false))) = some (r1, r2, r3) := H
       have A25 := Aside0.mk A250
       clear A250
       by_cases c26 : t1070 = true
       ·subst c26
        have H1 : (some (x1059000_1, y1067, true)) = some (r1, r2, r3) := by rw [if_pos rfl] at H; exact H
        clear H
        have H := H1
        clear H1
        simp only [Option.some.injEq, Prod.mk.injEq] at H
        obtain ⟨rfl, rfl, rfl⟩ := H
        obtain ⟨Ao27, co27, eo27⟩ := Kd.R_slice HO_7.out
        subst eo27
        go_wp2_with (first | ((with_reducible refine gate_callee (f := 79) rfl ?_); refine gL 29 Try.func79 #[.int .i64 a1, .int .i64 1, .int .i64 4] ?_; (with_reducible refine (spec_l1In.calls a1 1 4 true _ A21.out).mono ?_); rintro e w' ⟨rfl, ⟨nd, rfl⟩⟩; refine ⟨_, rfl, ?_⟩; (try (rw [drewN_self wr]; generalize hq_ : World.drewN wr _ = wr; have n0_ : Aside0 (Kd.R k141 141 wr w.heap.size (fun _ => True) u1059000 x1059000_1) := ⟨by rw [← hq_]; exact (kr HO_1059000.out)⟩; have n1_ : Aside0 (Kd.R (Kd.int .i64) 3 wr w.heap.size (fun _ => True) (.slice Ao27 t1059.length co27) t1059) := ⟨by rw [← hq_]; exact (kr HO_7.out)⟩; have n2_ : Aside0 (wr.heap[gb1056]? = some (.cells #[.slice A0_0 l0_0.length c0_0, .int .i64 a0_1] 65 (0, 0))) := ⟨by rw [← hq_]; exact (bk BK1056)⟩; have n3_ : Aside0 (wr.heap[gb1057]? = some (.cells #[.slice none 0 0, .slice none 0 0] 88 (0, 0))) := ⟨by rw [← hq_]; exact (bk BK1057)⟩; have n4_ : Aside0 (wr.heap[gb1058]? = some (.cells #[u1059000, .slice none 0 0] 88 (0, 0))) := ⟨by rw [← hq_]; exact (bk BK1058)⟩; have n5_ : Aside0 (Below w.heap.size w wr) := ⟨by rw [← hq_]; exact (tb HB)⟩; clear HO_1059000 HO_7 BK1056 BK1057 BK1058 HB hq_; have HO_1059000 := n0_; have HO_7 := n1_; have BK1056 := n2_; have BK1057 := n3_; have BK1058 := n4_; have HB := n5_; clear n0_ n1_ n2_ n3_ n4_ n5_))) | ((with_reducible refine gate_dst (N := 31) rfl ?_); refine Kd.S_make k145 _ 145 rfl (N := 31) rfl 49 _ _ rfl a1 rfl rfl Try.underlying49 (.agg #[(.int .i64 0), (.int .i64 0), (.slice none 0 0), (.int .i64 0), (.slice none 0 0)]) 72 info145 rfl (by decide) (by omega) z145 (ok := fun _ => True) (okp := fun _ => True) (k145_mkM _ _ _ z145 (Kd.R_nil _ _ _ _ _) (Kd.R_nil _ _ _ _ _)) (fun _ hk => hk) trivial (od) (Nat.le_trans (Nat.mul_le_mul_right _ (od : a1.toNat ≤ 3909374676536)) (by omega)) (Below.refl _ _) (Nat.le_refl _) ?_; intro v1068 w28 ho29 hb hg_ hnew_; clear hg_ hnew_; (first | rw [← Ny1067.out] at ho29 | (simp only [Int.reduceToNat] at ho29; rw [← Ny1067.out] at ho29)); replace HO_1059000 := rb HO_1059000 hb; have HO1069 := Aside0.mk (Kd.S_lower (Kd.S_new' ho29 (Kd.R_lt (kr HO_7.out))) (below_size (tb HB))); replace HO_7 := rb HO_7 hb; replace BK1056 := bb BK1056 hb; replace BK1057 := bb BK1057 hb; replace BK1058 := bb BK1058 hb; replace HB := bs HB hb; clear hb ho29; obtain ⟨Ao30, co30, eo30⟩ := Kd.S_slice HO1069.out; subst eo30; have hnb31 := NB1058_1056.out; have hnc31 := NB1056_1058.out; have hnb32 := NB1058_1057.out; have hnc32 := NB1057_1058.out; obtain ⟨hcz33_0, hcz33_1, hfz33_0, hfz33_1⟩ := cs2_ BK1058; obtain ⟨Ao34, co34, eo34⟩ := Kd.R_slice HO_1059000.out; subst eo34) | ((with_reducible refine gate_callee (f := 128) rfl ?_); refine gL 34 Try.func128 #[.agg #[.slice Ao34 x1059000_1.length co34, .slice Ao30 y1067.length co30]] ?_; (with_reducible refine (spec_MemOk.calls k1 _ _ x1059000_1 _ _ y1067 true _ ?side1 ?side2 ?side3 ?side4 A25.out).mono ?_); (case side1 => refine (Kd.R_reads' (e := 141) (base := w.heap.size) (ok := fun k_ => True) (n := x1059000_1.length) (c := co34) ?_).2.2; exact (kr ((Kd.R_mono (Kd.R_far (p := ⟨gb1058, 1, none⟩) (Kd.R_types HO_1059000.out BK1058.out (by decide)) (fun _ hk => hk.2) (.slice Ao30 y1067.length co30)) (fun _ h_ => h_.1))))); (case side2 => exact (Kd.R_reads' HO_1059000.out).2.1); (case side3 => refine (Kd.S_reads' (e := 145) (base := w.heap.size) (ok := fun k_ => (True ∧ some k_ ≠ (.slice Ao27 t1059.length co27 : Value).ownBlock)) (n := y1067.length) (c := co30) ?_).2.2; exact (by (with_reducible repeat (first | apply Kd.S_alloc | apply Kd.S_drewN | apply Kd.S_drew)); exact (Kd.S_mono (Kd.S_far (p := ⟨gb1058, 1, none⟩) (Kd.S_types HO1069.out BK1058.out (by decide)) (fun _ hk => hk.2) (.slice Ao30 y1067.length co30)) (fun _ h_ => h_.1)))); (case side4 => exact (Kd.S_reads' HO1069.out).2.1); rintro e w35 ⟨rfl, hb⟩; refine ⟨_, rfl, ?_⟩; replace HO_7 := Aside0.mk (Kd.R_below (kr ((Kd.R_mono (Kd.R_far (p := ⟨gb1058, 1, none⟩) (Kd.R_types HO_7.out BK1058.out (by decide)) (fun _ hk => hk.2) (.slice Ao30 y1067.length co30)) (fun _ h_ => h_.1)))) hb); replace HO_1059000 := Aside0.mk (Kd.R_below (kr ((Kd.R_mono (Kd.R_far (p := ⟨gb1058, 1, none⟩) (Kd.R_types HO_1059000.out BK1058.out (by decide)) (fun _ hk => hk.2) (.slice Ao30 y1067.length co30)) (fun _ h_ => h_.1)))) hb); replace HO1069 := Aside0.mk (Kd.S_below (by (with_reducible repeat (first | apply Kd.S_alloc | apply Kd.S_drewN | apply Kd.S_drew)); exact (Kd.S_mono (Kd.S_far (p := ⟨gb1058, 1, none⟩) (Kd.S_types HO1069.out BK1058.out (by decide)) (fun _ hk => hk.2) (.slice Ao30 y1067.length co30)) (fun _ h_ => h_.1))) hb); replace BK1056 := Aside0.mk (blk_below (g := gb1056) (o := .cells #[.slice A0_0 l0_0.length c0_0, .int .i64 a0_1] 65 (0, 0)) (bf BK1056) hb); replace BK1057 := Aside0.mk (blk_below (g := gb1057) (o := .cells #[.slice none 0 0, .slice none 0 0] 88 (0, 0)) (bf BK1057) hb); replace BK1058 := Aside0.mk (blk_below (g := gb1058) (o := .cells #[.slice Ao34 x1059000_1.length co34, .slice Ao30 y1067.length co30] 88 (0, 0)) (by (with_reducible repeat (first | refine blk_drewN ?_ _ | refine blk_drew ?_ | refine blk_alloc ?_ _)); refine blk_put (cs := #[.slice Ao34 x1059000_1.length co34, .slice none 0 0]) ?_ 1 _ rfl; (with_reducible repeat (first | refine blk_drewN ?_ _ | refine blk_drew ?_ | refine blk_alloc ?_ _)); exact BK1058.out) hb); replace HB := bs HB hb; (try clear hb); (try clear hb2); (try clear hk); (try clear hi); obtain ⟨hcz36_0, hcz36_1, hfz36_0, hfz36_1⟩ := cs2_ BK1058; have hnb37 := NB1057_1056.out; have hnc37 := NB1056_1057.out; obtain ⟨hcz38_0, hcz38_1, hfz38_0, hfz38_1⟩ := cs2_ BK1057))
        refine bodyPost_ret (results_ct rfl _ _ gb1057 88 #[.slice Ao34 x1059000_1.length co34, .slice Ao30 y1067.length co30] (0, 0) _ rfl (by (with_reducible repeat (first | refine blk_drewN ?_ _ | refine blk_drew ?_ | refine blk_alloc ?_ _)); refine blk_put (cs := #[.slice Ao34 x1059000_1.length co34, .slice none 0 0]) ?_ 1 _ rfl; (with_reducible repeat (first | refine blk_drewN ?_ _ | refine blk_drew ?_ | refine blk_alloc ?_ _)); refine blk_put (cs := #[.slice none 0 0, .slice none 0 0]) ?_ 0 _ rfl; (with_reducible repeat (first | refine blk_drewN ?_ _ | refine blk_drew ?_ | refine blk_alloc ?_ _)); exact BK1057.out) Try.underlying88 rfl (by kernel_rfl)) rfl ?_
        exact ⟨_, _, er, by (with_reducible repeat (first | apply Kd.R_alloc | apply Kd.R_drewN | apply Kd.R_drew)); exact Kd.R_mono (Kd.R_far (p := ⟨gb1057, 1, none⟩) (Kd.R_far (p := ⟨gb1057, 0, none⟩) (Kd.R_types HO_1059000.out BK1057.out (by decide)) (fun _ hk => hk.2) (.slice Ao34 x1059000_1.length co34)) (fun _ hk => hk.2) (.slice Ao30 y1067.length co30)) (fun _ hk => trivial), by (with_reducible repeat (first | apply Kd.S_alloc | apply Kd.S_drewN | apply Kd.S_drew)); exact Kd.S_mono (Kd.S_far (p := ⟨gb1057, 1, none⟩) (Kd.S_far (p := ⟨gb1057, 0, none⟩) (Kd.S_types HO1069.out BK1057.out (by decide)) (fun _ hk => hk.2) (.slice Ao34 x1059000_1.length co34)) (fun _ hk => hk.2) (.slice Ao30 y1067.length co30)) (fun _ hk => trivial), tb HB⟩
       ·replace c26 := Bool.eq_false_iff.mpr c26
        subst c26
        have H1 : (some (([] : List (S141)), ([] : List (S145)), false)) = some (r1, r2, r3) := by rw [if_neg (show ¬ (false = true) by decide)] at H; exact H
        clear H
        have H := H1
        clear H1
        simp only [Option.some.injEq, Prod.mk.injEq] at H
        obtain ⟨rfl, rfl, rfl⟩ := H
        obtain ⟨Ao39, co39, eo39⟩ := Kd.R_slice HO_7.out
        subst eo39
        go_wp2_with (first | ((with_reducible refine gate_callee (f := 79) rfl ?_); refine gL 29 Try.func79 #[.int .i64 a1, .int .i64 1, .int .i64 4] ?_; (with_reducible refine (spec_l1In.calls a1 1 4 true _ A21.out).mono ?_); rintro e w' ⟨rfl, ⟨nd, rfl⟩⟩; refine ⟨_, rfl, ?_⟩; (try (rw [drewN_self wr]; generalize hq_ : World.drewN wr _ = wr; have n0_ : Aside0 (Kd.R k141 141 wr w.heap.size (fun _ => True) u1059000 x1059000_1) := ⟨by rw [← hq_]; exact (kr HO_1059000.out)⟩; have n1_ : Aside0 (Kd.R (Kd.int .i64) 3 wr w.heap.size (fun _ => True) (.slice Ao39 t1059.length co39) t1059) := ⟨by rw [← hq_]; exact (kr HO_7.out)⟩; have n2_ : Aside0 (wr.heap[gb1056]? = some (.cells #[.slice A0_0 l0_0.length c0_0, .int .i64 a0_1] 65 (0, 0))) := ⟨by rw [← hq_]; exact (bk BK1056)⟩; have n3_ : Aside0 (wr.heap[gb1057]? = some (.cells #[.slice none 0 0, .slice none 0 0] 88 (0, 0))) := ⟨by rw [← hq_]; exact (bk BK1057)⟩; have n4_ : Aside0 (wr.heap[gb1058]? = some (.cells #[u1059000, .slice none 0 0] 88 (0, 0))) := ⟨by rw [← hq_]; exact (bk BK1058)⟩; have n5_ : Aside0 (Below w.heap.size w wr) := ⟨by rw [← hq_]; exact (tb HB)⟩; clear HO_1059000 HO_7 BK1056 BK1057 BK1058 HB hq_; have HO_1059000 := n0_; have HO_7 := n1_; have BK1056 := n2_; have BK1057 := n3_; have BK1058 := n4_; have HB := n5_; clear n0_ n1_ n2_ n3_ n4_ n5_))) | ((with_reducible refine gate_dst (N := 31) rfl ?_); refine Kd.S_make k145 _ 145 rfl (N := 31) rfl 49 _ _ rfl a1 rfl rfl Try.underlying49 (.agg #[(.int .i64 0), (.int .i64 0), (.slice none 0 0), (.int .i64 0), (.slice none 0 0)]) 72 info145 rfl (by decide) (by omega) z145 (ok := fun _ => True) (okp := fun _ => True) (k145_mkM _ _ _ z145 (Kd.R_nil _ _ _ _ _) (Kd.R_nil _ _ _ _ _)) (fun _ hk => hk) trivial (od) (Nat.le_trans (Nat.mul_le_mul_right _ (od : a1.toNat ≤ 3909374676536)) (by omega)) (Below.refl _ _) (Nat.le_refl _) ?_; intro v1068 w40 ho41 hb hg_ hnew_; clear hg_ hnew_; (first | rw [← Ny1067.out] at ho41 | (simp only [Int.reduceToNat] at ho41; rw [← Ny1067.out] at ho41)); replace HO_1059000 := rb HO_1059000 hb; have HO1069 := Aside0.mk (Kd.S_lower (Kd.S_new' ho41 (Kd.R_lt (kr HO_7.out))) (below_size (tb HB))); replace HO_7 := rb HO_7 hb; replace BK1056 := bb BK1056 hb; replace BK1057 := bb BK1057 hb; replace BK1058 := bb BK1058 hb; replace HB := bs HB hb; clear hb ho41; obtain ⟨Ao42, co42, eo42⟩ := Kd.S_slice HO1069.out; subst eo42; have hnb43 := NB1058_1056.out; have hnc43 := NB1056_1058.out; have hnb44 := NB1058_1057.out; have hnc44 := NB1057_1058.out; obtain ⟨hcz45_0, hcz45_1, hfz45_0, hfz45_1⟩ := cs2_ BK1058; obtain ⟨Ao46, co46, eo46⟩ := Kd.R_slice HO_1059000.out; subst eo46) | ((with_reducible refine gate_callee (f := 128) rfl ?_); refine gL 34 Try.func128 #[.agg #[.slice Ao46 x1059000_1.length co46, .slice Ao42 y1067.length co42]] ?_; (with_reducible refine (spec_MemOk.calls k1 _ _ x1059000_1 _ _ y1067 false _ ?side1 ?side2 ?side3 ?side4 A25.out).mono ?_); (case side1 => refine (Kd.R_reads' (e := 141) (base := w.heap.size) (ok := fun k_ => True) (n := x1059000_1.length) (c := co46) ?_).2.2; exact (kr ((Kd.R_mono (Kd.R_far (p := ⟨gb1058, 1, none⟩) (Kd.R_types HO_1059000.out BK1058.out (by decide)) (fun _ hk => hk.2) (.slice Ao42 y1067.length co42)) (fun _ h_ => h_.1))))); (case side2 => exact (Kd.R_reads' HO_1059000.out).2.1); (case side3 => refine (Kd.S_reads' (e := 145) (base := w.heap.size) (ok := fun k_ => (True ∧ some k_ ≠ (.slice Ao39 t1059.length co39 : Value).ownBlock)) (n := y1067.length) (c := co42) ?_).2.2; exact (by (with_reducible repeat (first | apply Kd.S_alloc | apply Kd.S_drewN | apply Kd.S_drew)); exact (Kd.S_mono (Kd.S_far (p := ⟨gb1058, 1, none⟩) (Kd.S_types HO1069.out BK1058.out (by decide)) (fun _ hk => hk.2) (.slice Ao42 y1067.length co42)) (fun _ h_ => h_.1)))); (case side4 => exact (Kd.S_reads' HO1069.out).2.1); rintro e w47 ⟨rfl, hb⟩; refine ⟨_, rfl, ?_⟩; replace HO_7 := Aside0.mk (Kd.R_below (kr ((Kd.R_mono (Kd.R_far (p := ⟨gb1058, 1, none⟩) (Kd.R_types HO_7.out BK1058.out (by decide)) (fun _ hk => hk.2) (.slice Ao42 y1067.length co42)) (fun _ h_ => h_.1)))) hb); replace HO_1059000 := Aside0.mk (Kd.R_below (kr ((Kd.R_mono (Kd.R_far (p := ⟨gb1058, 1, none⟩) (Kd.R_types HO_1059000.out BK1058.out (by decide)) (fun _ hk => hk.2) (.slice Ao42 y1067.length co42)) (fun _ h_ => h_.1)))) hb); replace HO1069 := Aside0.mk (Kd.S_below (by (with_reducible repeat (first | apply Kd.S_alloc | apply Kd.S_drewN | apply Kd.S_drew)); exact (Kd.S_mono (Kd.S_far (p := ⟨gb1058, 1, none⟩) (Kd.S_types HO1069.out BK1058.out (by decide)) (fun _ hk => hk.2) (.slice Ao42 y1067.length co42)) (fun _ h_ => h_.1))) hb); replace BK1056 := Aside0.mk (blk_below (g := gb1056) (o := .cells #[.slice A0_0 l0_0.length c0_0, .int .i64 a0_1] 65 (0, 0)) (bf BK1056) hb); replace BK1057 := Aside0.mk (blk_below (g := gb1057) (o := .cells #[.slice none 0 0, .slice none 0 0] 88 (0, 0)) (bf BK1057) hb); replace BK1058 := Aside0.mk (blk_below (g := gb1058) (o := .cells #[.slice Ao46 x1059000_1.length co46, .slice Ao42 y1067.length co42] 88 (0, 0)) (by (with_reducible repeat (first | refine blk_drewN ?_ _ | refine blk_drew ?_ | refine blk_alloc ?_ _)); refine blk_put (cs := #[.slice Ao46 x1059000_1.length co46, .slice none 0 0]) ?_ 1 _ rfl; (with_reducible repeat (first | refine blk_drewN ?_ _ | refine blk_drew ?_ | refine blk_alloc ?_ _)); exact BK1058.out) hb); replace HB := bs HB hb; (try clear hb); (try clear hb2); (try clear hk); (try clear hi); have hnb48 := NB1057_1056.out; have hnc48 := NB1056_1057.out; obtain ⟨hcz49_0, hcz49_1, hfz49_0, hfz49_1⟩ := cs2_ BK1057))
        refine bodyPost_ret (results_ct rfl _ _ gb1057 88 #[.slice none 0 0, .slice none 0 0] (0, 0) _ rfl (by (with_reducible repeat (first | refine blk_drewN ?_ _ | refine blk_drew ?_ | refine blk_alloc ?_ _)); refine blk_put (cs := #[.slice none 0 0, .slice none 0 0]) ?_ 1 _ rfl; (with_reducible repeat (first | refine blk_drewN ?_ _ | refine blk_drew ?_ | refine blk_alloc ?_ _)); refine blk_put (cs := #[.slice none 0 0, .slice none 0 0]) ?_ 0 _ rfl; (with_reducible repeat (first | refine blk_drewN ?_ _ | refine blk_drew ?_ | refine blk_alloc ?_ _)); exact BK1057.out) Try.underlying88 rfl (by kernel_rfl)) rfl ?_
        exact ⟨_, _, er, by first | exact Kd.R_nil _ _ _ _ _ | exact Kd.N_nil _ _ _ _ _ | exact Kd.V_nil _ _ _ _ _ | exact Kd.Q_nil _ _ _ _ _ | exact Kd.S_nil _ _ _ _ _, by first | exact Kd.S_nil _ _ _ _ _ | exact Kd.N_nil _ _ _ _ _ | exact Kd.V_nil _ _ _ _ _ | exact Kd.Q_nil _ _ _ _ _ | exact Kd.R_nil _ _ _ _ _, tb HB⟩
      ·rw [if_neg c24] at H
       exact absurd H (by simp)
     ·rw [if_neg c23] at H
      exact absurd H (by simp)
    ·replace c22 := Bool.eq_false_iff.mpr c22
     subst c22
     have H1 : ((spec_MemOk.f k1 x1059000_1 ([] : List (S145))).bind fun t1071 => (if t1071 = true then (some (x1059000_1, ([] : List (S145)), true)) else (some (([] : List (S141)), ([] : List (S145)), false)))) = some (r1, r2, r3) := by rw [if_neg (show ¬ (false = true) by decide)] at H; exact H
     clear H
     have H := H1
     clear H1
     replace H := Option.bind_eq_some_iff.mp H
     obtain ⟨t1071, A500, H⟩ := H
     replace H : (if t1071 = true then (some (x1059000_1, ([] : List (S145)), true)) else (some (([] : List (S141)), ([] : List (S145)), false))) = some (r1, r2, r3) := H
     have A50 := Aside0.mk A500
     clear A500
     by_cases c51 : t1071 = true
     ·subst c51
      have H1 : (some (x1059000_1, ([] : List (S145)), true)) = some (r1, r2, r3) := by rw [if_pos rfl] at H; exact H
      clear H
      have H := H1
      clear H1
      simp only [Option.some.injEq, Prod.mk.injEq] at H
      obtain ⟨rfl, rfl, rfl⟩ := H
      obtain ⟨Ao52, co52, eo52⟩ := Kd.R_slice HO_7.out
      subst eo52
      go_wp2_with (first | ((with_reducible refine gate_callee (f := 79) rfl ?_); refine gL 29 Try.func79 #[.int .i64 a1, .int .i64 1, .int .i64 4] ?_; (with_reducible refine (spec_l1In.calls a1 1 4 false _ A21.out).mono ?_); rintro e w' ⟨rfl, ⟨nd, rfl⟩⟩; refine ⟨_, rfl, ?_⟩; (try (rw [drewN_self wr]; generalize hq_ : World.drewN wr _ = wr; have n0_ : Aside0 (Kd.R k141 141 wr w.heap.size (fun _ => True) u1059000 x1059000_1) := ⟨by rw [← hq_]; exact (kr HO_1059000.out)⟩; have n1_ : Aside0 (Kd.R (Kd.int .i64) 3 wr w.heap.size (fun _ => True) (.slice Ao52 t1059.length co52) t1059) := ⟨by rw [← hq_]; exact (kr HO_7.out)⟩; have n2_ : Aside0 (wr.heap[gb1056]? = some (.cells #[.slice A0_0 l0_0.length c0_0, .int .i64 a0_1] 65 (0, 0))) := ⟨by rw [← hq_]; exact (bk BK1056)⟩; have n3_ : Aside0 (wr.heap[gb1057]? = some (.cells #[.slice none 0 0, .slice none 0 0] 88 (0, 0))) := ⟨by rw [← hq_]; exact (bk BK1057)⟩; have n4_ : Aside0 (wr.heap[gb1058]? = some (.cells #[u1059000, .slice none 0 0] 88 (0, 0))) := ⟨by rw [← hq_]; exact (bk BK1058)⟩; have n5_ : Aside0 (Below w.heap.size w wr) := ⟨by rw [← hq_]; exact (tb HB)⟩; clear HO_1059000 HO_7 BK1056 BK1057 BK1058 HB hq_; have HO_1059000 := n0_; have HO_7 := n1_; have BK1056 := n2_; have BK1057 := n3_; have BK1058 := n4_; have HB := n5_; clear n0_ n1_ n2_ n3_ n4_ n5_)); have hnb53 := NB1058_1056.out; have hnc53 := NB1056_1058.out; have hnb54 := NB1058_1057.out; have hnc54 := NB1057_1058.out; obtain ⟨hcz55_0, hcz55_1, hfz55_0, hfz55_1⟩ := cs2_ BK1058; obtain ⟨Ao56, co56, eo56⟩ := Kd.R_slice HO_1059000.out; subst eo56) | ((with_reducible refine gate_callee (f := 128) rfl ?_); refine gL 34 Try.func128 #[.agg #[.slice Ao56 x1059000_1.length co56, .slice none 0 0]] ?_; (refine (spec_MemOk.calls k1 _ _ x1059000_1 _ _ ([] : List (S145)) true _ ?side1 ?side2 ?side3 ?side4 A50.out).mono ?_); (case side1 => repeat (first | exact (Kd.R_reads' HO_1059000.out).2.2 | (with_reducible refine Kd.C_alloc ?_ _) | (with_reducible refine Kd.C_drewN ?_ _) | (with_reducible refine Kd.C_drew ?_))); (case side2 => exact (Kd.R_reads' HO_1059000.out).2.1); (case side3 => exact Kd.C_nil _ _); (case side4 => exact Nat.le_refl _); rintro e w57 ⟨rfl, hb⟩; refine ⟨_, rfl, ?_⟩; replace HO_7 := rb HO_7 hb; replace HO_1059000 := rb HO_1059000 hb; replace BK1056 := bb BK1056 hb; replace BK1057 := bb BK1057 hb; replace BK1058 := bb BK1058 hb; replace HB := bs HB hb; (try clear hb); (try clear hb2); (try clear hk); (try clear hi); obtain ⟨hcz58_0, hcz58_1, hfz58_0, hfz58_1⟩ := cs2_ BK1058; have hnb59 := NB1057_1056.out; have hnc59 := NB1056_1057.out; obtain ⟨hcz60_0, hcz60_1, hfz60_0, hfz60_1⟩ := cs2_ BK1057))
      refine bodyPost_ret (results_ct rfl _ _ gb1057 88 #[.slice Ao56 x1059000_1.length co56, .slice none 0 0] (0, 0) _ rfl (by (with_reducible repeat (first | refine blk_drewN ?_ _ | refine blk_drew ?_ | refine blk_alloc ?_ _)); refine blk_put (cs := #[.slice Ao56 x1059000_1.length co56, .slice none 0 0]) ?_ 1 _ rfl; (with_reducible repeat (first | refine blk_drewN ?_ _ | refine blk_drew ?_ | refine blk_alloc ?_ _)); refine blk_put (cs := #[.slice none 0 0, .slice none 0 0]) ?_ 0 _ rfl; (with_reducible repeat (first | refine blk_drewN ?_ _ | refine blk_drew ?_ | refine blk_alloc ?_ _)); exact BK1057.out) Try.underlying88 rfl (by kernel_rfl)) rfl ?_
      exact ⟨_, _, er, by (with_reducible repeat (first | apply Kd.R_alloc | apply Kd.R_drewN | apply Kd.R_drew)); exact Kd.R_mono (Kd.R_far (p := ⟨gb1057, 1, none⟩) (Kd.R_far (p := ⟨gb1057, 0, none⟩) (Kd.R_types HO_1059000.out BK1057.out (by decide)) (fun _ hk => hk.2) (.slice Ao56 x1059000_1.length co56)) (fun _ hk => hk.2) (.slice none 0 0)) (fun _ hk => trivial), by first | exact Kd.S_nil _ _ _ _ _ | exact Kd.N_nil _ _ _ _ _ | exact Kd.V_nil _ _ _ _ _ | exact Kd.Q_nil _ _ _ _ _ | exact Kd.R_nil _ _ _ _ _, tb HB⟩
     ·replace c51 := Bool.eq_false_iff.mpr c51
      subst c51
      have H1 : (some (([] : List (S141)), ([] : List (S145)), false)) = some (r1, r2, r3) := by rw [if_neg (show ¬ (false = true) by decide)] at H; exact H
      clear H
      have H := H1
      clear H1
      simp only [Option.some.injEq, Prod.mk.injEq] at H
      obtain ⟨rfl, rfl, rfl⟩ := H
      obtain ⟨Ao61, co61, eo61⟩ := Kd.R_slice HO_7.out
      subst eo61
      go_wp2_with (first | ((with_reducible refine gate_callee (f := 79) rfl ?_); refine gL 29 Try.func79 #[.int .i64 a1, .int .i64 1, .int .i64 4] ?_; (with_reducible refine (spec_l1In.calls a1 1 4 false _ A21.out).mono ?_); rintro e w' ⟨rfl, ⟨nd, rfl⟩⟩; refine ⟨_, rfl, ?_⟩; (try (rw [drewN_self wr]; generalize hq_ : World.drewN wr _ = wr; have n0_ : Aside0 (Kd.R k141 141 wr w.heap.size (fun _ => True) u1059000 x1059000_1) := ⟨by rw [← hq_]; exact (kr HO_1059000.out)⟩; have n1_ : Aside0 (Kd.R (Kd.int .i64) 3 wr w.heap.size (fun _ => True) (.slice Ao61 t1059.length co61) t1059) := ⟨by rw [← hq_]; exact (kr HO_7.out)⟩; have n2_ : Aside0 (wr.heap[gb1056]? = some (.cells #[.slice A0_0 l0_0.length c0_0, .int .i64 a0_1] 65 (0, 0))) := ⟨by rw [← hq_]; exact (bk BK1056)⟩; have n3_ : Aside0 (wr.heap[gb1057]? = some (.cells #[.slice none 0 0, .slice none 0 0] 88 (0, 0))) := ⟨by rw [← hq_]; exact (bk BK1057)⟩; have n4_ : Aside0 (wr.heap[gb1058]? = some (.cells #[u1059000, .slice none 0 0] 88 (0, 0))) := ⟨by rw [← hq_]; exact (bk BK1058)⟩; have n5_ : Aside0 (Below w.heap.size w wr) := ⟨by rw [← hq_]; exact (tb HB)⟩; clear HO_1059000 HO_7 BK1056 BK1057 BK1058 HB hq_; have HO_1059000 := n0_; have HO_7 := n1_; have BK1056 := n2_; have BK1057 := n3_; have BK1058 := n4_; have HB := n5_; clear n0_ n1_ n2_ n3_ n4_ n5_)); have hnb62 := NB1058_1056.out; have hnc62 := NB1056_1058.out; have hnb63 := NB1058_1057.out; have hnc63 := NB1057_1058.out; obtain ⟨hcz64_0, hcz64_1, hfz64_0, hfz64_1⟩ := cs2_ BK1058; obtain ⟨Ao65, co65, eo65⟩ := Kd.R_slice HO_1059000.out; subst eo65) | ((with_reducible refine gate_callee (f := 128) rfl ?_); refine gL 34 Try.func128 #[.agg #[.slice Ao65 x1059000_1.length co65, .slice none 0 0]] ?_; (refine (spec_MemOk.calls k1 _ _ x1059000_1 _ _ ([] : List (S145)) false _ ?side1 ?side2 ?side3 ?side4 A50.out).mono ?_); (case side1 => repeat (first | exact (Kd.R_reads' HO_1059000.out).2.2 | (with_reducible refine Kd.C_alloc ?_ _) | (with_reducible refine Kd.C_drewN ?_ _) | (with_reducible refine Kd.C_drew ?_))); (case side2 => exact (Kd.R_reads' HO_1059000.out).2.1); (case side3 => exact Kd.C_nil _ _); (case side4 => exact Nat.le_refl _); rintro e w66 ⟨rfl, hb⟩; refine ⟨_, rfl, ?_⟩; replace HO_7 := rb HO_7 hb; replace HO_1059000 := rb HO_1059000 hb; replace BK1056 := bb BK1056 hb; replace BK1057 := bb BK1057 hb; replace BK1058 := bb BK1058 hb; replace HB := bs HB hb; (try clear hb); (try clear hb2); (try clear hk); (try clear hi); have hnb67 := NB1057_1056.out; have hnc67 := NB1056_1057.out; obtain ⟨hcz68_0, hcz68_1, hfz68_0, hfz68_1⟩ := cs2_ BK1057))
      refine bodyPost_ret (results_ct rfl _ _ gb1057 88 #[.slice none 0 0, .slice none 0 0] (0, 0) _ rfl (by (with_reducible repeat (first | refine blk_drewN ?_ _ | refine blk_drew ?_ | refine blk_alloc ?_ _)); refine blk_put (cs := #[.slice none 0 0, .slice none 0 0]) ?_ 1 _ rfl; (with_reducible repeat (first | refine blk_drewN ?_ _ | refine blk_drew ?_ | refine blk_alloc ?_ _)); refine blk_put (cs := #[.slice none 0 0, .slice none 0 0]) ?_ 0 _ rfl; (with_reducible repeat (first | refine blk_drewN ?_ _ | refine blk_drew ?_ | refine blk_alloc ?_ _)); exact BK1057.out) Try.underlying88 rfl (by kernel_rfl)) rfl ?_
      exact ⟨_, _, er, by first | exact Kd.R_nil _ _ _ _ _ | exact Kd.N_nil _ _ _ _ _ | exact Kd.V_nil _ _ _ _ _ | exact Kd.Q_nil _ _ _ _ _ | exact Kd.S_nil _ _ _ _ _, by first | exact Kd.S_nil _ _ _ _ _ | exact Kd.N_nil _ _ _ _ _ | exact Kd.V_nil _ _ _ _ _ | exact Kd.Q_nil _ _ _ _ _ | exact Kd.R_nil _ _ _ _ _, tb HB⟩
end Go.Proofs.Ytopikhjcbcpiaaa.Q
