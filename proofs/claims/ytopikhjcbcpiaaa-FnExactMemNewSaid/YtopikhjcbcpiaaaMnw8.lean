/- Part 8 of the steps by which the law is shown: what each function of the program, of the reference and of the law computes. No condition. -/
import Derived.Test.YtopikhjcbcpiaaaMnw0
import Derived.Test.YtopikhjcbcpiaaaMnw2
import Derived.Test.YtopikhjcbcpiaaaMnw3
import Derived.Test.YtopikhjcbcpiaaaMnw4
import Derived.Test.YtopikhjcbcpiaaaMnw5
import Derived.Test.YtopikhjcbcpiaaaMnw6
namespace Go.Proofs.Ytopikhjcbcpiaaa.Q
open Go.RowKit Go.Proofs.YtopikhjcbcpiaaaW.PrintWords Go.Proofs.YtopikhjcbcpiaaaW.PrintLast Go.Proofs.YtopikhjcbcpiaaaW.PrintMore
attribute [local go_sem] max2_int min2_int max_two min_two max_three min_three max_four min_four   -- for this text's walks alone
set_option linter.unusedVariables false
set_option linter.unusedSimpArgs false
mutual
def spec_MemOk.j0 : Nat → Bool → List (S141) → List (S145) → Option (Bool)
 | 0, _, _, _ => none
 | k + 1, x18, x1043000, x1043001 => if x18 = true then (some false) else (spec_MemOk.l0 k 0 x1043000 x1043001)
def spec_MemOk.l0 : Nat → Int → List (S141) → List (S145) → Option (Bool)
 | 0, _, _, _ => none
 | k + 1, x3, x1043000, x1043001 => if x3 < (x1043001.length : Int) then (if 0 ≤ x3 then ((spec_DescOk.f k ((rd_T145 x1043001 x3).f0) ((rd_T145 x1043001 x3).f1) ((rd_T145 x1043001 x3).f2) ((rd_T145 x1043001 x3).f3.f0) ((rd_T145 x1043001 x3).f3.f1)).bind fun t1045 => (if t1045 = true then (spec_MemOk.l0 k (wrap64 (x3 + 1)) x1043000 x1043001) else (some false))) else (none)) else (spec_MemOk.l1 k 0 x1043000 x1043001)
def spec_MemOk.l1 : Nat → Int → List (S141) → List (S145) → Option (Bool)
 | 0, _, _, _ => none
 | k + 1, x4, x1043000, x1043001 => if x4 < (x1043000.length : Int) then (if 0 ≤ x4 then ((spec_WordOk.f ((rd_T141 x1043000 x4).f0) ((rd_T141 x1043000 x4).f1) ((rd_T141 x1043000 x4).f2) (x1043001.length : Int)).bind fun t1048 => (if t1048 = true then (if ((rd_T141 x1043000 x4).f1) > 0 then (if 0 ≤ (wrap64 (((rd_T141 x1043000 x4).f1) - 1)) then (if (wrap64 (((rd_T141 x1043000 x4).f1) - 1)) < (x1043001.length : Int) then ((spec_Entries.f k ((rd_T145 x1043001 (wrap64 (((rd_T141 x1043000 x4).f1) - 1))).f0) ((rd_T145 x1043001 (wrap64 (((rd_T141 x1043000 x4).f1) - 1))).f1) ((rd_T145 x1043001 (wrap64 (((rd_T141 x1043000 x4).f1) - 1))).f2) ((rd_T145 x1043001 (wrap64 (((rd_T141 x1043000 x4).f1) - 1))).f3.f0) ((rd_T145 x1043001 (wrap64 (((rd_T141 x1043000 x4).f1) - 1))).f3.f1) x4).bind fun bt1050 => (if bt1050.2.2.2 = true then (if ((rd_T145 x1043001 (wrap64 (((rd_T141 x1043000 x4).f1) - 1))).f0) = ((rd_T141 x1043000 x4).f2) then (spec_MemOk.l1 k (wrap64 (x4 + 1)) x1043000 x1043001) else (some false)) else (some false))) else (none)) else (none)) else (spec_MemOk.l1 k (wrap64 (x4 + 1)) x1043000 x1043001)) else (some false))) else (none)) else (some true)
end
def spec_MemOk.f (k : Nat) (l0_0 : List (S141)) (l0_1 : List (S145)) : Option (Bool) := if (l0_0.length : Int) = 20 then ((spec_l1In.f (l0_1.length : Int) 1 4).bind fun t1043 => (spec_MemOk.j0 k (!t1043) l0_0 l0_1)) else (spec_MemOk.j0 k true l0_0 l0_1)
set_option maxHeartbeats 8000000 in
set_option maxRecDepth 100000 in
theorem spec_MemOk.calls (k : Nat) (A0_0 : Option Addr) (c0_0 : Nat) (l0_0 : List (S141)) (A0_1 : Option Addr) (c0_1 : Nat) (l0_1 : List (S145)) (r : Bool) (w : World) (hr0_0 : Kd.C k141 w A0_0 l0_0.length l0_0) (hc0_0 : l0_0.length ≤ c0_0) (hr0_1 : Kd.C k145 w A0_1 l0_1.length l0_1) (hc0_1 : l0_1.length ≤ c0_1) (h : spec_MemOk.f k l0_0 l0_1 = some r) :
  Calls Try.prog 128 #[.agg #[.slice A0_0 l0_0.length c0_0, .slice A0_1 l0_1.length c0_1]] w fun e w' => e = .returned (.bool r) ∧ Below w.heap.size w w' := by
 have hu88 := Try.underlying88
 have hu145 := Try.underlying145
 have hu141 := Try.underlying141
 have hu166 := Try.underlying166
 have HR0_0 := Aside0.mk hr0_0
 have HC0_0 := Aside0.mk hc0_0
 clear hr0_0 hc0_0
 have HR0_1 := Aside0.mk hr0_1
 have HC0_1 := Aside0.mk hc0_1
 clear hr0_1 hc0_1
 have HB := Aside0.mk (Below.refl w.heap.size w)
 have H := h
 clear h
 unfold spec_MemOk.f at H
 have HC2 := Aside0.mk H
 clear H
 go_enter Try.func128, Try.ntmps128
 go_upto_region 1 with (first | ((with_reducible refine gq 1 rfl ?_); (try (refine gate_guard (by rfl) ?_; dsimp only)); refine bx0 HB (N := 1) (t := 88) ?_; clear HB; intro gb1042 w3 BK1042 GE1042 HB))
 repeat (go_quiet (first | ((with_reducible refine gq 1 rfl ?_); (try (refine gate_guard (by rfl) ?_; dsimp only)); refine bx0 HB (N := 1) (t := 88) ?_; clear HB; intro gb1042 w3 BK1042 GE1042 HB)); go_upto_region 1 with (first | ((with_reducible refine gq 1 rfl ?_); (try (refine gate_guard (by rfl) ?_; dsimp only)); refine bx0 HB (N := 1) (t := 88) ?_; clear HB; intro gb1042 w3 BK1042 GE1042 HB)))
 (try simp only [Act.put, sA, sB, sC])
 go_cut [18] (fun v18 wc => ∃ (kq : Nat) (x18_1 : Bool), v18 = .bool x18_1 ∧ Aside0 (spec_MemOk.j0 kq x18_1 l0_0 l0_1 = some r) ∧ Aside0 (kq ≤ k) ∧ Aside0 (wc.heap[gb1042]? = some (.cells #[(.slice A0_0 l0_0.length c0_0), (.slice A0_1 l0_1.length c0_1)] 88 (0, 0))) ∧ Aside0 (Below w.heap.size w wc))
 case first =>
  have H := HC2.out
  clear HC2
  by_cases c4 : (l0_0.length : Int) = 20
  case neg =>
   rw [if_neg c4] at H
   have c4b0 : ((l0_0.length : Int) == 20) = false := beq_eq_false_iff_ne.mpr c4
   have c4b1 : ((l0_0.length : Int) != 20) = true := bne_iff_ne.mpr c4
   (first | rw [c4b0] | (simp only [i64_w, i32_w]; rw [c4b0]) | skip)
   have H' := Aside0.mk H
   clear H
   have hz7 := cs2_ BK1042
   go_wp2
   repeat (go_quiet (fail); try go_wp2)
   go_meet
   case rel => exact ⟨_, (true), rsd, H', ⟨by first | omega | exact Nat.le_refl _⟩, ⟨by (with_reducible repeat (first | refine blk_drewN ?_ _ | refine blk_drew ?_ | refine blk_alloc ?_ _)); exact BK1042.out⟩, ⟨tb HB⟩⟩
  rw [if_pos c4] at H
  have c4b0 : ((l0_0.length : Int) == 20) = true := beq_iff_eq.mpr c4
  have c4b1 : ((l0_0.length : Int) != 20) = false := bne_eq_false_iff_eq.mpr c4
  clear c4
  (first | rw [c4b0] | (simp only [i64_w, i32_w]; rw [c4b0]) | skip)
  obtain ⟨t1043, A5, H⟩ := bn H
  try dsimp only at H
  have H' := Aside0.mk H
  clear H
  have hz6 := cs2_ BK1042
  go_wp2_with (first | (go_at_call 79; (with_reducible refine (spec_l1In.calls (l0_1.length : Int) 1 4 t1043 _ A5.out).mono ?_); rintro e w' ⟨rfl, ⟨nd, rfl⟩⟩; (try first | exact ⟨rfl, _, World.drewN_drewN _ _ _⟩ | exact ⟨rfl, _, Eq.trans (World.drewN_drewN _ _ _) (congrArg (World.drewN _) (Nat.add_assoc _ _ _))⟩)))
  repeat (go_quiet (first | (go_at_call 79; (with_reducible refine (spec_l1In.calls (l0_1.length : Int) 1 4 t1043 _ A5.out).mono ?_); rintro e w' ⟨rfl, ⟨nd, rfl⟩⟩; (try first | exact ⟨rfl, _, World.drewN_drewN _ _ _⟩ | exact ⟨rfl, _, Eq.trans (World.drewN_drewN _ _ _) (congrArg (World.drewN _) (Nat.add_assoc _ _ _))⟩))); try go_wp2_with (first | (go_at_call 79; (with_reducible refine (spec_l1In.calls (l0_1.length : Int) 1 4 t1043 _ A5.out).mono ?_); rintro e w' ⟨rfl, ⟨nd, rfl⟩⟩; (try first | exact ⟨rfl, _, World.drewN_drewN _ _ _⟩ | exact ⟨rfl, _, Eq.trans (World.drewN_drewN _ _ _) (congrArg (World.drewN _) (Nat.add_assoc _ _ _))⟩))))
  go_meet
  case rel => exact ⟨_, (!t1043), rsd, H', ⟨by first | omega | exact Nat.le_refl _⟩, ⟨by (with_reducible repeat (first | refine blk_drewN ?_ _ | refine blk_drew ?_ | refine blk_alloc ?_ _)); exact BK1042.out⟩, ⟨tb HB⟩⟩
 case rest =>
  clear HC2
  obtain ⟨kq, x18_1, rfl, HA, HJ1, BK1042, HB⟩ := hcut
  cases kq with
  | zero => exact absurd HA.out (by simp [spec_MemOk.j0])
  | succ kj1 =>
   have H := HA.out
   clear HA
   simp only [spec_MemOk.j0] at H
   cases x18_1
   case true =>
    replace H := ipt H
    obtain rfl := oin H
    go_wp2
    repeat (go_quiet (fail); try go_wp2)
    go_ret
    exact ⟨er, tb HB⟩
   replace H := ipf H
   have H' := Aside0.mk H
   clear H
   go_wp2
   repeat (go_quiet (fail); try go_wp2)
   go_loopg [3] kj1 (fun kq v3 w' => ∃ (x3_2 : Int), v3 = .int .i64 x3_2 ∧ Aside0 (spec_MemOk.l0 kq x3_2 l0_0 l0_1 = some r) ∧ Aside0 (kq ≤ kj1) ∧ Aside0 (w'.heap[gb1042]? = some (.cells #[(.slice A0_0 l0_0.length c0_0), (.slice A0_1 l0_1.length c0_1)] 88 (0, 0))) ∧ Aside0 (Below w.heap.size w w'))
   case atStart => exact ⟨(0), rsd, H', ⟨Nat.le_refl _⟩, ⟨by (with_reducible repeat (first | refine blk_drewN ?_ _ | refine blk_drew ?_ | refine blk_alloc ?_ _)); exact BK1042.out⟩, ⟨tb HB⟩⟩
   case round =>
    clear H'
    obtain ⟨x3_2, rfl, HA, HK2, BK1042, HB⟩ := hrel
    cases gk with
    | zero => exact absurd HA.out (by simp [spec_MemOk.l0])
    | succ k2 =>
     have H := HA.out
     clear HA
     simp only [spec_MemOk.l0] at H
     revert H; refine icd (fun c9b0 H => ?pos) fun c9b0 H => ?_
     case pos =>
      obtain ⟨c10b0, H⟩ := itd H
      obtain ⟨t1045, A11, H⟩ := bn H
      try dsimp only at H
      cases t1045
      case false =>
       replace H := ipf H
       obtain rfl := oin H
       have hz15 := cs2_ BK1042
       have p1044 : 0 ≤ (x3_2 : Int) := od
       have q1044 : x3_2 < (l0_1.length : Int) := od
       obtain ⟨ad1044, A1044_2, c1044_2, A1044_4, c1044_4, e1044, hx1044, hl1044_2, hi1044_2, hl1044_4, hi1044_4⟩ := att145 HR0_1.out x3_2 p1044 q1044
       cases e1044
       replace hx1044 := ox5 HB hx1044
       have HR1044_2 := Aside0.mk hi1044_2
       have HC1044_2 := Aside0.mk hl1044_2
       clear hi1044_2 hl1044_2
       have HR1044_4 := Aside0.mk hi1044_4
       have HC1044_4 := Aside0.mk hl1044_4
       clear hi1044_4 hl1044_4
       replace p1044 := eq_true p1044
       replace q1044 := eq_true q1044
       go_wp2_with (first | (go_at_call 173; (with_reducible refine (spec_DescOk.calls k2 ((rd_T145 l0_1 x3_2).f0) ((rd_T145 l0_1 x3_2).f1) _ _ ((rd_T145 l0_1 x3_2).f2) ((rd_T145 l0_1 x3_2).f3.f0) _ _ ((rd_T145 l0_1 x3_2).f3.f1) false _ (kc HR1044_2 HB) HC1044_2.out (kc HR1044_4 HB) HC1044_4.out A11.out).mono ?_); rintro e w16 ⟨rfl, hb⟩; replace BK1042 := bb BK1042 hb; replace HB := bs HB hb; (try clear hb)))
       repeat (go_quiet (first | (go_at_call 173; (with_reducible refine (spec_DescOk.calls k2 ((rd_T145 l0_1 x3_2).f0) ((rd_T145 l0_1 x3_2).f1) _ _ ((rd_T145 l0_1 x3_2).f2) ((rd_T145 l0_1 x3_2).f3.f0) _ _ ((rd_T145 l0_1 x3_2).f3.f1) false _ (kc HR1044_2 HB) HC1044_2.out (kc HR1044_4 HB) HC1044_4.out A11.out).mono ?_); rintro e w16 ⟨rfl, hb⟩; replace BK1042 := bb BK1042 hb; replace HB := bs HB hb; (try clear hb))); try go_wp2_with (first | (go_at_call 173; (with_reducible refine (spec_DescOk.calls k2 ((rd_T145 l0_1 x3_2).f0) ((rd_T145 l0_1 x3_2).f1) _ _ ((rd_T145 l0_1 x3_2).f2) ((rd_T145 l0_1 x3_2).f3.f0) _ _ ((rd_T145 l0_1 x3_2).f3.f1) false _ (kc HR1044_2 HB) HC1044_2.out (kc HR1044_4 HB) HC1044_4.out A11.out).mono ?_); rintro e w16 ⟨rfl, hb⟩; replace BK1042 := bb BK1042 hb; replace HB := bs HB hb; (try clear hb))))
       go_ret
       exact ⟨er, tb HB⟩
      replace H := ipt H
      have H' := Aside0.mk H
      clear H
      have hz13 := cs2_ BK1042
      have p1044 : 0 ≤ (x3_2 : Int) := od
      have q1044 : x3_2 < (l0_1.length : Int) := od
      obtain ⟨ad1044, A1044_2, c1044_2, A1044_4, c1044_4, e1044, hx1044_0, hx1044_1, hx1044_2, hx1044_3, hx1044_4, hl1044_2, hi1044_2, hl1044_4, hi1044_4⟩ := at_T145 HR0_1.out x3_2 p1044 q1044
      cases e1044
      replace hx1044_0 := ox HB hx1044_0
      replace hx1044_1 := ox HB hx1044_1
      replace hx1044_2 := ox HB hx1044_2
      replace hx1044_3 := ox HB hx1044_3
      replace hx1044_4 := ox HB hx1044_4
      have HR1044_2 := Aside0.mk hi1044_2
      have HC1044_2 := Aside0.mk hl1044_2
      clear hi1044_2 hl1044_2
      have HR1044_4 := Aside0.mk hi1044_4
      have HC1044_4 := Aside0.mk hl1044_4
      clear hi1044_4 hl1044_4
      replace p1044 := eq_true p1044
      replace q1044 := eq_true q1044
      go_wp2_with (first | (go_at_call 173; (with_reducible refine (spec_DescOk.calls k2 ((rd_T145 l0_1 x3_2).f0) ((rd_T145 l0_1 x3_2).f1) _ _ ((rd_T145 l0_1 x3_2).f2) ((rd_T145 l0_1 x3_2).f3.f0) _ _ ((rd_T145 l0_1 x3_2).f3.f1) true _ (kc HR1044_2 HB) HC1044_2.out (kc HR1044_4 HB) HC1044_4.out A11.out).mono ?_); rintro e w14 ⟨rfl, hb⟩; replace BK1042 := bb BK1042 hb; replace HB := bs HB hb; (try clear hb)))
      repeat (go_quiet (first | (go_at_call 173; (with_reducible refine (spec_DescOk.calls k2 ((rd_T145 l0_1 x3_2).f0) ((rd_T145 l0_1 x3_2).f1) _ _ ((rd_T145 l0_1 x3_2).f2) ((rd_T145 l0_1 x3_2).f3.f0) _ _ ((rd_T145 l0_1 x3_2).f3.f1) true _ (kc HR1044_2 HB) HC1044_2.out (kc HR1044_4 HB) HC1044_4.out A11.out).mono ?_); rintro e w14 ⟨rfl, hb⟩; replace BK1042 := bb BK1042 hb; replace HB := bs HB hb; (try clear hb))); try go_wp2_with (first | (go_at_call 173; (with_reducible refine (spec_DescOk.calls k2 ((rd_T145 l0_1 x3_2).f0) ((rd_T145 l0_1 x3_2).f1) _ _ ((rd_T145 l0_1 x3_2).f2) ((rd_T145 l0_1 x3_2).f3.f0) _ _ ((rd_T145 l0_1 x3_2).f3.f1) true _ (kc HR1044_2 HB) HC1044_2.out (kc HR1044_4 HB) HC1044_4.out A11.out).mono ?_); rintro e w14 ⟨rfl, hb⟩; replace BK1042 := bb BK1042 hb; replace HB := bs HB hb; (try clear hb))))
      go_roundg k2
      case measure => have := HJ1.out; have := HK2.out; omega
      case rel => exact ⟨(wrap64 (x3_2 + 1)), rsd, H', ⟨by have := HJ1.out; have := HK2.out; omega⟩, ⟨by (with_reducible repeat (first | refine blk_drewN ?_ _ | refine blk_drew ?_ | refine blk_alloc ?_ _)); exact BK1042.out⟩, ⟨tb HB⟩⟩
     have H' := Aside0.mk H
     clear H
     have hz17 := cs2_ BK1042
     go_wp2
     repeat (go_quiet (fail); try go_wp2)
     go_loopg [4] k2 (fun kq v4 w' => ∃ (x4_3 : Int), v4 = .int .i64 x4_3 ∧ Aside0 (spec_MemOk.l1 kq x4_3 l0_0 l0_1 = some r) ∧ Aside0 (kq ≤ k2) ∧ Aside0 (w'.heap[gb1042]? = some (.cells #[(.slice A0_0 l0_0.length c0_0), (.slice A0_1 l0_1.length c0_1)] 88 (0, 0))) ∧ Aside0 (Below w.heap.size w w'))
     case atStart => exact ⟨(0), rsd, H', ⟨Nat.le_refl _⟩, ⟨by (with_reducible repeat (first | refine blk_drewN ?_ _ | refine blk_drew ?_ | refine blk_alloc ?_ _)); exact BK1042.out⟩, ⟨tb HB⟩⟩
     case round =>
      clear H'
      try clear hx1044_0
      try clear hx1044_1
      try clear hx1044_2
      try clear hx1044_3
      try clear hx1044_4
      obtain ⟨x4_3, rfl, HA, HK3, BK1042, HB⟩ := hrel
      cases gk with
      | zero => exact absurd HA.out (by simp [spec_MemOk.l1])
      | succ k3 =>
       have H := HA.out
       clear HA
       simp only [spec_MemOk.l1] at H
       revert H; refine icd (fun c18b0 H => ?_) fun c18b0 H => ?neg
       case neg =>
        obtain rfl := oin H
        have hz85 := cs2_ BK1042
        go_wp2
        repeat (go_quiet (fail); try go_wp2)
        go_ret
        exact ⟨er, tb HB⟩
       obtain ⟨c19b0, H⟩ := itd H
       obtain ⟨t1048, A20, H⟩ := bn H
       try dsimp only at H
       cases t1048
       case false =>
        replace H := ipf H
        obtain rfl := oin H
        have hz79 := cs2_ BK1042
        have p1046 : 0 ≤ (x4_3 : Int) := od
        have q1046 : x4_3 < (l0_0.length : Int) := od
        obtain ⟨ad1046, e1046, hx1046⟩ := att141 HR0_0.out x4_3 p1046 q1046
        cases e1046
        replace hx1046 := ox3 HB hx1046
        replace p1046 := eq_true p1046
        replace q1046 := eq_true q1046
        go_wp2_with (first | ((with_reducible refine gq 5 rfl ?_); (try (refine gate_guard (by rfl) ?_; dsimp only)); refine bx1 HB BK1042 (N := 5) (cs := #[.int .i64 0, .int .i64 0, .int .i64 0]) (t := 141) ?_; clear HB BK1042; intro gb1047 w80 BK1047 GE1047 HB NB1042_1047 NB1047_1042 BK1042; have hnb81 := NB1047_1042.out; have hnc81 := NB1042_1047.out; have hz82 := cs3_ BK1047; have hz83 := cs2_ BK1042) | (go_at_call 174; (with_reducible refine (spec_WordOk.calls ((rd_T141 l0_0 x4_3).f0) ((rd_T141 l0_0 x4_3).f1) ((rd_T141 l0_0 x4_3).f2) (l0_1.length : Int) false _ A20.out).mono ?_); rintro e w84 ⟨rfl, hb⟩; replace BK1042 := bbf BK1042 hb; replace BK1047 := bbp3 BK1047 hb; replace HB := bs HB hb; (try clear hb)))
        repeat (go_quiet (first | ((with_reducible refine gq 5 rfl ?_); (try (refine gate_guard (by rfl) ?_; dsimp only)); refine bx1 HB BK1042 (N := 5) (cs := #[.int .i64 0, .int .i64 0, .int .i64 0]) (t := 141) ?_; clear HB BK1042; intro gb1047 w80 BK1047 GE1047 HB NB1042_1047 NB1047_1042 BK1042; have hnb81 := NB1047_1042.out; have hnc81 := NB1042_1047.out; have hz82 := cs3_ BK1047; have hz83 := cs2_ BK1042) | (go_at_call 174; (with_reducible refine (spec_WordOk.calls ((rd_T141 l0_0 x4_3).f0) ((rd_T141 l0_0 x4_3).f1) ((rd_T141 l0_0 x4_3).f2) (l0_1.length : Int) false _ A20.out).mono ?_); rintro e w84 ⟨rfl, hb⟩; replace BK1042 := bbf BK1042 hb; replace BK1047 := bbp3 BK1047 hb; replace HB := bs HB hb; (try clear hb))); try go_wp2_with (first | ((with_reducible refine gq 5 rfl ?_); (try (refine gate_guard (by rfl) ?_; dsimp only)); refine bx1 HB BK1042 (N := 5) (cs := #[.int .i64 0, .int .i64 0, .int .i64 0]) (t := 141) ?_; clear HB BK1042; intro gb1047 w80 BK1047 GE1047 HB NB1042_1047 NB1047_1042 BK1042; have hnb81 := NB1047_1042.out; have hnc81 := NB1042_1047.out; have hz82 := cs3_ BK1047; have hz83 := cs2_ BK1042) | (go_at_call 174; (with_reducible refine (spec_WordOk.calls ((rd_T141 l0_0 x4_3).f0) ((rd_T141 l0_0 x4_3).f1) ((rd_T141 l0_0 x4_3).f2) (l0_1.length : Int) false _ A20.out).mono ?_); rintro e w84 ⟨rfl, hb⟩; replace BK1042 := bbf BK1042 hb; replace BK1047 := bbp3 BK1047 hb; replace HB := bs HB hb; (try clear hb))))
        go_ret
        exact ⟨er, tb HB⟩
       replace H := ipt H
       revert H; refine icd (fun c22b0 H => ?_) fun c22b0 H => ?neg
       case neg =>
        have H' := Aside0.mk H
        clear H
        have hz72 := cs2_ BK1042
        have p1046 : 0 ≤ (x4_3 : Int) := od
        have q1046 : x4_3 < (l0_0.length : Int) := od
        obtain ⟨ad1046, e1046, hx1046_0, hx1046_1, hx1046_2⟩ := at_T141 HR0_0.out x4_3 p1046 q1046
        cases e1046
        replace hx1046_0 := ox HB hx1046_0
        replace hx1046_1 := ox HB hx1046_1
        replace hx1046_2 := ox HB hx1046_2
        replace p1046 := eq_true p1046
        replace q1046 := eq_true q1046
        go_wp2_with (first | ((with_reducible refine gq 5 rfl ?_); (try (refine gate_guard (by rfl) ?_; dsimp only)); refine bx1 HB BK1042 (N := 5) (cs := #[.int .i64 0, .int .i64 0, .int .i64 0]) (t := 141) ?_; clear HB BK1042; intro gb1047 w73 BK1047 GE1047 HB NB1042_1047 NB1047_1042 BK1042; have hnb74 := NB1047_1042.out; have hnc74 := NB1042_1047.out; have hz75 := cs3_ BK1047; have hz76 := cs2_ BK1042) | (go_at_call 174; (with_reducible refine (spec_WordOk.calls ((rd_T141 l0_0 x4_3).f0) ((rd_T141 l0_0 x4_3).f1) ((rd_T141 l0_0 x4_3).f2) (l0_1.length : Int) true _ A20.out).mono ?_); rintro e w77 ⟨rfl, hb⟩; replace BK1042 := bbf BK1042 hb; replace BK1047 := bbp3 BK1047 hb; replace HB := bs HB hb; (try clear hb); have hz78 := cs3_ BK1047))
        repeat (go_quiet (first | ((with_reducible refine gq 5 rfl ?_); (try (refine gate_guard (by rfl) ?_; dsimp only)); refine bx1 HB BK1042 (N := 5) (cs := #[.int .i64 0, .int .i64 0, .int .i64 0]) (t := 141) ?_; clear HB BK1042; intro gb1047 w73 BK1047 GE1047 HB NB1042_1047 NB1047_1042 BK1042; have hnb74 := NB1047_1042.out; have hnc74 := NB1042_1047.out; have hz75 := cs3_ BK1047; have hz76 := cs2_ BK1042) | (go_at_call 174; (with_reducible refine (spec_WordOk.calls ((rd_T141 l0_0 x4_3).f0) ((rd_T141 l0_0 x4_3).f1) ((rd_T141 l0_0 x4_3).f2) (l0_1.length : Int) true _ A20.out).mono ?_); rintro e w77 ⟨rfl, hb⟩; replace BK1042 := bbf BK1042 hb; replace BK1047 := bbp3 BK1047 hb; replace HB := bs HB hb; (try clear hb); have hz78 := cs3_ BK1047)); try go_wp2_with (first | ((with_reducible refine gq 5 rfl ?_); (try (refine gate_guard (by rfl) ?_; dsimp only)); refine bx1 HB BK1042 (N := 5) (cs := #[.int .i64 0, .int .i64 0, .int .i64 0]) (t := 141) ?_; clear HB BK1042; intro gb1047 w73 BK1047 GE1047 HB NB1042_1047 NB1047_1042 BK1042; have hnb74 := NB1047_1042.out; have hnc74 := NB1042_1047.out; have hz75 := cs3_ BK1047; have hz76 := cs2_ BK1042) | (go_at_call 174; (with_reducible refine (spec_WordOk.calls ((rd_T141 l0_0 x4_3).f0) ((rd_T141 l0_0 x4_3).f1) ((rd_T141 l0_0 x4_3).f2) (l0_1.length : Int) true _ A20.out).mono ?_); rintro e w77 ⟨rfl, hb⟩; replace BK1042 := bbf BK1042 hb; replace BK1047 := bbp3 BK1047 hb; replace HB := bs HB hb; (try clear hb); have hz78 := cs3_ BK1047)))
        go_roundg k3
        case measure => have := HJ1.out; have := HK2.out; have := HK3.out; omega
        case rel => exact ⟨(wrap64 (x4_3 + 1)), rsd, H', ⟨by have := HJ1.out; have := HK2.out; have := HK3.out; omega⟩, ⟨by (with_reducible repeat (first | refine blk_drewN ?_ _ | refine blk_drew ?_ | refine blk_alloc ?_ _)); exact BK1042.out⟩, ⟨tb HB⟩⟩
       obtain ⟨ji23, hji23⟩ : ∃ j_ : Int, (wrap64 (((rd_T141 l0_0 x4_3).f1) - 1)) = j_ := ⟨_, rfl⟩
       replace H : (if 0 ≤ (ji23) then (if (ji23) < (l0_1.length : Int) then ((spec_Entries.f k3 ((rd_T145 l0_1 (ji23)).f0) ((rd_T145 l0_1 (ji23)).f1) ((rd_T145 l0_1 (ji23)).f2) ((rd_T145 l0_1 (ji23)).f3.f0) ((rd_T145 l0_1 (ji23)).f3.f1) x4_3).bind fun bt1050 => (if bt1050.2.2.2 = true then (if ((rd_T145 l0_1 (ji23)).f0) = ((rd_T141 l0_0 x4_3).f2) then (spec_MemOk.l1 k3 (wrap64 (x4_3 + 1)) l0_0 l0_1) else (some false)) else (some false))) else (none)) else (none)) = some r := by first | (rw [hji23] at H; exact H) | (simp only [hji23] at H ⊢; exact H)
       (try rw [hji23] at A20)
       have hji23w : (IntKind.i64.wrap (((rd_T141 l0_0 x4_3).f1) - 1)) = ji23 := (i64_w _).trans hji23
       obtain ⟨c24b0, H⟩ := itd H
       obtain ⟨c25b0, H⟩ := itd H
       obtain ⟨⟨t1050, t1051, t1052, t1053⟩, A26, H⟩ := bn H
       try dsimp only at H
       cases t1053
       case false =>
        replace H := ipf H
        obtain rfl := oin H
        have hz59 := cs2_ BK1042
        have p1046 : 0 ≤ (x4_3 : Int) := od
        have q1046 : x4_3 < (l0_0.length : Int) := od
        obtain ⟨ad1046, e1046, hx1046_0, hx1046_1, hx1046_2⟩ := at_T141 HR0_0.out x4_3 p1046 q1046
        cases e1046
        replace hx1046_0 := ox HB hx1046_0
        replace hx1046_1 := ox HB hx1046_1
        replace hx1046_2 := ox HB hx1046_2
        replace p1046 := eq_true p1046
        replace q1046 := eq_true q1046
        go_wp2_with (first | ((with_reducible refine gq 5 rfl ?_); (try (refine gate_guard (by rfl) ?_; dsimp only)); refine bx1 HB BK1042 (N := 5) (cs := #[.int .i64 0, .int .i64 0, .int .i64 0]) (t := 141) ?_; clear HB BK1042; intro gb1047 w60 BK1047 GE1047 HB NB1042_1047 NB1047_1042 BK1042; have hnb61 := NB1047_1042.out; have hnc61 := NB1042_1047.out; have hz62 := cs3_ BK1047; have hz63 := cs2_ BK1042) | (go_at_call 174; (with_reducible refine (spec_WordOk.calls ((rd_T141 l0_0 x4_3).f0) ((rd_T141 l0_0 x4_3).f1) ((rd_T141 l0_0 x4_3).f2) (l0_1.length : Int) true _ A20.out).mono ?_); rintro e w64 ⟨rfl, hb⟩; replace BK1042 := bbf BK1042 hb; replace BK1047 := bbp3 BK1047 hb; replace HB := bs HB hb; (try clear hb); have hz65 := cs3_ BK1047; have hz66 := cs2_ BK1042; have p1049 : 0 ≤ ((ji23) : Int) := od; have q1049 : (ji23) < (l0_1.length : Int) := od; obtain ⟨ad1049, A1049_2, c1049_2, A1049_4, c1049_4, e1049, hx1049_0, hx1049_1, hx1049_2, hx1049_3, hx1049_4, hl1049_2, hi1049_2, hl1049_4, hi1049_4⟩ := at_T145 HR0_1.out (ji23) p1049 q1049; cases e1049; replace hx1049_0 := ox HB hx1049_0; replace hx1049_1 := ox HB hx1049_1; replace hx1049_2 := ox HB hx1049_2; replace hx1049_3 := ox HB hx1049_3; replace hx1049_4 := ox HB hx1049_4; have HR1049_2 := Aside0.mk hi1049_2; have HC1049_2 := Aside0.mk hl1049_2; clear hi1049_2 hl1049_2; have HR1049_4 := Aside0.mk hi1049_4; have HC1049_4 := Aside0.mk hl1049_4; clear hi1049_4 hl1049_4; replace p1049 := eq_true p1049; replace q1049 := eq_true q1049) | (go_at_call 156; (with_reducible refine (spec_Entries.calls k3 ((rd_T145 l0_1 (ji23)).f0) ((rd_T145 l0_1 (ji23)).f1) _ _ ((rd_T145 l0_1 (ji23)).f2) ((rd_T145 l0_1 (ji23)).f3.f0) _ _ ((rd_T145 l0_1 (ji23)).f3.f1) x4_3 t1050 t1051 t1052 false _ (kc HR1049_2 HB) HC1049_2.out (kc HR1049_4 HB) HC1049_4.out A26.out).mono ?_); rintro e w67 ⟨rfl, hb⟩; replace BK1042 := bb BK1042 hb; replace BK1047 := bb BK1047 hb; replace HB := bs HB hb; (try clear hb)) | ((with_reducible refine gq 6 rfl ?_); (try (refine gate_guard (by rfl) ?_; dsimp only)); refine bx (N := 6) (cs := #[.int .i64 0, .int .i64 0, .int .i64 0]) (t := 166) ?_; intro gb1054 hg w68 hbox hb; have BK1054 := Aside0.mk (hbox); have GW1054 := Aside0.mk (ge_ hg HB); have GE1054 := Aside0.mk (ge_ hg HB); replace HB := bs HB hb; have NB1042_1054 := Aside0.mk (nl_ hg BK1042); have NB1054_1042 := Aside0.mk (ng_ hg BK1042); replace BK1042 := bb BK1042 hb; have NB1047_1054 := Aside0.mk (nl_ hg BK1047); have NB1054_1047 := Aside0.mk (ng_ hg BK1047); replace BK1047 := bb BK1047 hb; clear hb hbox hg; have hnb69 := NB1054_1042.out; have hnc69 := NB1042_1054.out; have hnb70 := NB1054_1047.out; have hnc70 := NB1047_1054.out; have hz71 := cs3_ BK1054))
        repeat (go_quiet (first | ((with_reducible refine gq 5 rfl ?_); (try (refine gate_guard (by rfl) ?_; dsimp only)); refine bx1 HB BK1042 (N := 5) (cs := #[.int .i64 0, .int .i64 0, .int .i64 0]) (t := 141) ?_; clear HB BK1042; intro gb1047 w60 BK1047 GE1047 HB NB1042_1047 NB1047_1042 BK1042; have hnb61 := NB1047_1042.out; have hnc61 := NB1042_1047.out; have hz62 := cs3_ BK1047; have hz63 := cs2_ BK1042) | (go_at_call 174; (with_reducible refine (spec_WordOk.calls ((rd_T141 l0_0 x4_3).f0) ((rd_T141 l0_0 x4_3).f1) ((rd_T141 l0_0 x4_3).f2) (l0_1.length : Int) true _ A20.out).mono ?_); rintro e w64 ⟨rfl, hb⟩; replace BK1042 := bbf BK1042 hb; replace BK1047 := bbp3 BK1047 hb; replace HB := bs HB hb; (try clear hb); have hz65 := cs3_ BK1047; have hz66 := cs2_ BK1042; have p1049 : 0 ≤ ((ji23) : Int) := od; have q1049 : (ji23) < (l0_1.length : Int) := od; obtain ⟨ad1049, A1049_2, c1049_2, A1049_4, c1049_4, e1049, hx1049_0, hx1049_1, hx1049_2, hx1049_3, hx1049_4, hl1049_2, hi1049_2, hl1049_4, hi1049_4⟩ := at_T145 HR0_1.out (ji23) p1049 q1049; cases e1049; replace hx1049_0 := ox HB hx1049_0; replace hx1049_1 := ox HB hx1049_1; replace hx1049_2 := ox HB hx1049_2; replace hx1049_3 := ox HB hx1049_3; replace hx1049_4 := ox HB hx1049_4; have HR1049_2 := Aside0.mk hi1049_2; have HC1049_2 := Aside0.mk hl1049_2; clear hi1049_2 hl1049_2; have HR1049_4 := Aside0.mk hi1049_4; have HC1049_4 := Aside0.mk hl1049_4; clear hi1049_4 hl1049_4; replace p1049 := eq_true p1049; replace q1049 := eq_true q1049) | (go_at_call 156; (with_reducible refine (spec_Entries.calls k3 ((rd_T145 l0_1 (ji23)).f0) ((rd_T145 l0_1 (ji23)).f1) _ _ ((rd_T145 l0_1 (ji23)).f2) ((rd_T145 l0_1 (ji23)).f3.f0) _ _ ((rd_T145 l0_1 (ji23)).f3.f1) x4_3 t1050 t1051 t1052 false _ (kc HR1049_2 HB) HC1049_2.out (kc HR1049_4 HB) HC1049_4.out A26.out).mono ?_); rintro e w67 ⟨rfl, hb⟩; replace BK1042 := bb BK1042 hb; replace BK1047 := bb BK1047 hb; replace HB := bs HB hb; (try clear hb)) | ((with_reducible refine gq 6 rfl ?_); (try (refine gate_guard (by rfl) ?_; dsimp only)); refine bx1 HB BK1042 (N := 6) (cs := #[.int .i64 0, .int .i64 0, .int .i64 0]) (t := 166) ?_; intro gb1054 hg w68 hbox hb; have BK1054 := Aside0.mk (hbox); have GW1054 := Aside0.mk (ge_ hg HB); have GE1054 := Aside0.mk (ge_ hg HB); replace HB := bs HB hb; have NB1042_1054 := Aside0.mk (nl_ hg BK1042); have NB1054_1042 := Aside0.mk (ng_ hg BK1042); replace BK1042 := bb BK1042 hb; have NB1047_1054 := Aside0.mk (nl_ hg BK1047); have NB1054_1047 := Aside0.mk (ng_ hg BK1047); replace BK1047 := bb BK1047 hb; clear hb hbox hg; have hnb69 := NB1054_1042.out; have hnc69 := NB1042_1054.out; have hnb70 := NB1054_1047.out; have hnc70 := NB1047_1054.out; have hz71 := cs3_ BK1054)); try go_wp2_with (first | ((with_reducible refine gq 5 rfl ?_); (try (refine gate_guard (by rfl) ?_; dsimp only)); refine bx (N := 5) (cs := #[.int .i64 0, .int .i64 0, .int .i64 0]) (t := 141) ?_; clear HB BK1042; intro gb1047 w60 BK1047 GE1047 HB NB1042_1047 NB1047_1042 BK1042; have hnb61 := NB1047_1042.out; have hnc61 := NB1042_1047.out; have hz62 := cs3_ BK1047; have hz63 := cs2_ BK1042) | (go_at_call 174; (with_reducible refine (spec_WordOk.calls ((rd_T141 l0_0 x4_3).f0) ((rd_T141 l0_0 x4_3).f1) ((rd_T141 l0_0 x4_3).f2) (l0_1.length : Int) true _ A20.out).mono ?_); rintro e w64 ⟨rfl, hb⟩; replace BK1042 := bbf BK1042 hb; replace BK1047 := bbp3 BK1047 hb; replace HB := bs HB hb; (try clear hb); have hz65 := cs3_ BK1047; have hz66 := cs2_ BK1042; have p1049 : 0 ≤ ((ji23) : Int) := od; have q1049 : (ji23) < (l0_1.length : Int) := od; obtain ⟨ad1049, A1049_2, c1049_2, A1049_4, c1049_4, e1049, hx1049_0, hx1049_1, hx1049_2, hx1049_3, hx1049_4, hl1049_2, hi1049_2, hl1049_4, hi1049_4⟩ := at_T145 HR0_1.out (ji23) p1049 q1049; cases e1049; replace hx1049_0 := ox HB hx1049_0; replace hx1049_1 := ox HB hx1049_1; replace hx1049_2 := ox HB hx1049_2; replace hx1049_3 := ox HB hx1049_3; replace hx1049_4 := ox HB hx1049_4; have HR1049_2 := Aside0.mk hi1049_2; have HC1049_2 := Aside0.mk hl1049_2; clear hi1049_2 hl1049_2; have HR1049_4 := Aside0.mk hi1049_4; have HC1049_4 := Aside0.mk hl1049_4; clear hi1049_4 hl1049_4; replace p1049 := eq_true p1049; replace q1049 := eq_true q1049) | (go_at_call 156; (with_reducible refine (spec_Entries.calls k3 ((rd_T145 l0_1 (ji23)).f0) ((rd_T145 l0_1 (ji23)).f1) _ _ ((rd_T145 l0_1 (ji23)).f2) ((rd_T145 l0_1 (ji23)).f3.f0) _ _ ((rd_T145 l0_1 (ji23)).f3.f1) x4_3 t1050 t1051 t1052 false _ (kc HR1049_2 HB) HC1049_2.out (kc HR1049_4 HB) HC1049_4.out A26.out).mono ?_); rintro e w67 ⟨rfl, hb⟩; replace BK1042 := bb BK1042 hb; replace BK1047 := bb BK1047 hb; replace HB := bs HB hb; (try clear hb)) | ((with_reducible refine gq 6 rfl ?_); (try (refine gate_guard (by rfl) ?_; dsimp only)); refine bx (N := 6) (cs := #[.int .i64 0, .int .i64 0, .int .i64 0]) (t := 166) ?_; intro gb1054 hg w68 hbox hb; have BK1054 := Aside0.mk (hbox); have GW1054 := Aside0.mk (ge_ hg HB); have GE1054 := Aside0.mk (ge_ hg HB); replace HB := bs HB hb; have NB1042_1054 := Aside0.mk (nl_ hg BK1042); have NB1054_1042 := Aside0.mk (ng_ hg BK1042); replace BK1042 := bb BK1042 hb; have NB1047_1054 := Aside0.mk (nl_ hg BK1047); have NB1054_1047 := Aside0.mk (ng_ hg BK1047); replace BK1047 := bb BK1047 hb; clear hb hbox hg; have hnb69 := NB1054_1042.out; have hnc69 := NB1042_1054.out; have hnb70 := NB1054_1047.out; have hnc70 := NB1047_1054.out; have hz71 := cs3_ BK1054)))
        go_ret
        exact ⟨by first | rfl | (simp [errW_none, errW_some] <;> rfl) | (simp only [← hji23]; first | rfl | (simp [errW_none, errW_some] <;> rfl)) | (simp [*, errW_none, errW_some] <;> rfl), tb HB⟩
       replace H := ipt H
       by_cases c28 : ((rd_T145 l0_1 (ji23)).f0) = ((rd_T141 l0_0 x4_3).f2)
       case neg =>
        rw [if_neg c28] at H
        have c28b0 : (((rd_T145 l0_1 (ji23)).f0) == ((rd_T141 l0_0 x4_3).f2)) = false := beq_eq_false_iff_ne.mpr c28
        have c28b1 : (((rd_T145 l0_1 (ji23)).f0) != ((rd_T141 l0_0 x4_3).f2)) = true := bne_iff_ne.mpr c28
        obtain rfl := oin H
        have hz44 := cs2_ BK1042
        have p1046 : 0 ≤ (x4_3 : Int) := od
        have q1046 : x4_3 < (l0_0.length : Int) := od
        obtain ⟨ad1046, e1046, hx1046_0, hx1046_1, hx1046_2⟩ := at_T141 HR0_0.out x4_3 p1046 q1046
        cases e1046
        replace hx1046_0 := ox HB hx1046_0
        replace hx1046_1 := ox HB hx1046_1
        replace hx1046_2 := ox HB hx1046_2
        replace p1046 := eq_true p1046
        replace q1046 := eq_true q1046
        go_wp2_with (first | ((with_reducible refine gq 5 rfl ?_); (try (refine gate_guard (by rfl) ?_; dsimp only)); refine bx1 HB BK1042 (N := 5) (cs := #[.int .i64 0, .int .i64 0, .int .i64 0]) (t := 141) ?_; clear HB BK1042; intro gb1047 w45 BK1047 GE1047 HB NB1042_1047 NB1047_1042 BK1042; have hnb46 := NB1047_1042.out; have hnc46 := NB1042_1047.out; have hz47 := cs3_ BK1047; have hz48 := cs2_ BK1042) | (go_at_call 174; (with_reducible refine (spec_WordOk.calls ((rd_T141 l0_0 x4_3).f0) ((rd_T141 l0_0 x4_3).f1) ((rd_T141 l0_0 x4_3).f2) (l0_1.length : Int) true _ A20.out).mono ?_); rintro e w49 ⟨rfl, hb⟩; replace BK1042 := bbf BK1042 hb; replace BK1047 := bbp3 BK1047 hb; replace HB := bs HB hb; (try clear hb); have hz50 := cs3_ BK1047; have hz51 := cs2_ BK1042; have p1049 : 0 ≤ ((ji23) : Int) := od; have q1049 : (ji23) < (l0_1.length : Int) := od; obtain ⟨ad1049, A1049_2, c1049_2, A1049_4, c1049_4, e1049, hx1049_0, hx1049_1, hx1049_2, hx1049_3, hx1049_4, hl1049_2, hi1049_2, hl1049_4, hi1049_4⟩ := at_T145 HR0_1.out (ji23) p1049 q1049; cases e1049; replace hx1049_0 := ox HB hx1049_0; replace hx1049_1 := ox HB hx1049_1; replace hx1049_2 := ox HB hx1049_2; replace hx1049_3 := ox HB hx1049_3; replace hx1049_4 := ox HB hx1049_4; have HR1049_2 := Aside0.mk hi1049_2; have HC1049_2 := Aside0.mk hl1049_2; clear hi1049_2 hl1049_2; have HR1049_4 := Aside0.mk hi1049_4; have HC1049_4 := Aside0.mk hl1049_4; clear hi1049_4 hl1049_4; replace p1049 := eq_true p1049; replace q1049 := eq_true q1049) | (go_at_call 156; (with_reducible refine (spec_Entries.calls k3 ((rd_T145 l0_1 (ji23)).f0) ((rd_T145 l0_1 (ji23)).f1) _ _ ((rd_T145 l0_1 (ji23)).f2) ((rd_T145 l0_1 (ji23)).f3.f0) _ _ ((rd_T145 l0_1 (ji23)).f3.f1) x4_3 t1050 t1051 t1052 true _ (kc HR1049_2 HB) HC1049_2.out (kc HR1049_4 HB) HC1049_4.out A26.out).mono ?_); rintro e w52 ⟨rfl, hb⟩; replace BK1042 := bb BK1042 hb; replace BK1047 := bb BK1047 hb; replace HB := bs HB hb; (try clear hb)) | ((with_reducible refine gq 6 rfl ?_); (try (refine gate_guard (by rfl) ?_; dsimp only)); refine bx (N := 6) (cs := #[.int .i64 0, .int .i64 0, .int .i64 0]) (t := 166) ?_; intro gb1054 hg w53 hbox hb; have BK1054 := Aside0.mk (hbox); have GW1054 := Aside0.mk (ge_ hg HB); have GE1054 := Aside0.mk (ge_ hg HB); replace HB := bs HB hb; have NB1042_1054 := Aside0.mk (nl_ hg BK1042); have NB1054_1042 := Aside0.mk (ng_ hg BK1042); replace BK1042 := bb BK1042 hb; have NB1047_1054 := Aside0.mk (nl_ hg BK1047); have NB1054_1047 := Aside0.mk (ng_ hg BK1047); replace BK1047 := bb BK1047 hb; clear hb hbox hg; have hnb54 := NB1054_1042.out; have hnc54 := NB1042_1054.out; have hnb55 := NB1054_1047.out; have hnc55 := NB1047_1054.out; have hz56 := cs3_ BK1054; have hz57 := cs2_ BK1042; have hz58 := cs3_ BK1047; have p1055 : 0 ≤ ((ji23) : Int) := od; have q1055 : (ji23) < (l0_1.length : Int) := od; obtain ⟨ad1055, A1055_2, c1055_2, A1055_4, c1055_4, e1055, hx1055_0, hx1055_1, hx1055_2, hx1055_3, hx1055_4, hl1055_2, hi1055_2, hl1055_4, hi1055_4⟩ := at_T145 HR0_1.out (ji23) p1055 q1055; obtain rfl : ad1049 = ad1055 := (by injection e1055); have hn1055_0 : ad1049.block ≠ gb1054 := Nat.ne_of_lt (Nat.lt_of_lt_of_le (by have := World.block_lt_of_cell? _ _ hx1055_0; first | rwa [add_block] at this | exact this) GW1054.out); have hn1055_1 : ad1049.block ≠ gb1054 := Nat.ne_of_lt (Nat.lt_of_lt_of_le (by have := World.block_lt_of_cell? _ _ hx1055_0; first | rwa [add_block] at this | exact this) GW1054.out); have hn1055_2 : ad1049.block ≠ gb1054 := Nat.ne_of_lt (Nat.lt_of_lt_of_le (by have := World.block_lt_of_cell? _ _ hx1055_0; first | rwa [add_block] at this | exact this) GW1054.out); replace hx1055_0 := ox HB hx1055_0; replace hx1055_1 := ox HB hx1055_1; replace hx1055_2 := ox HB hx1055_2; replace hx1055_3 := ox HB hx1055_3; replace hx1055_4 := ox HB hx1055_4; have HR1055_2 := Aside0.mk hi1055_2; have HC1055_2 := Aside0.mk hl1055_2; clear hi1055_2 hl1055_2; have HR1055_4 := Aside0.mk hi1055_4; have HC1055_4 := Aside0.mk hl1055_4; clear hi1055_4 hl1055_4; replace hx1055_0 := (cell_far (p := ⟨gb1054, 0, none⟩) (by first | (rw [add_block]; exact hn1055_0) | (show (Addr.add _ _).block ≠ _; rw [add_block]; exact hn1055_0) | exact hn1055_0) (.int .i64 t1050)).trans hx1055_0; replace hx1055_1 := (cell_far (p := ⟨gb1054, 0, none⟩) (by first | (rw [add_block]; exact hn1055_0) | (show (Addr.add _ _).block ≠ _; rw [add_block]; exact hn1055_0) | exact hn1055_0) (.int .i64 t1050)).trans hx1055_1; replace hx1055_2 := (cell_far (p := ⟨gb1054, 0, none⟩) (by first | (rw [add_block]; exact hn1055_0) | (show (Addr.add _ _).block ≠ _; rw [add_block]; exact hn1055_0) | exact hn1055_0) (.int .i64 t1050)).trans hx1055_2; replace hx1055_3 := (cell_far (p := ⟨gb1054, 0, none⟩) (by first | (rw [add_block]; exact hn1055_0) | (show (Addr.add _ _).block ≠ _; rw [add_block]; exact hn1055_0) | exact hn1055_0) (.int .i64 t1050)).trans hx1055_3; replace hx1055_4 := (cell_far (p := ⟨gb1054, 0, none⟩) (by first | (rw [add_block]; exact hn1055_0) | (show (Addr.add _ _).block ≠ _; rw [add_block]; exact hn1055_0) | exact hn1055_0) (.int .i64 t1050)).trans hx1055_4; replace hx1055_0 := (cell_far (p := ⟨gb1054, 1, none⟩) (by first | (rw [add_block]; exact hn1055_1) | (show (Addr.add _ _).block ≠ _; rw [add_block]; exact hn1055_1) | exact hn1055_1) (.int .i64 t1051)).trans hx1055_0; replace hx1055_1 := (cell_far (p := ⟨gb1054, 1, none⟩) (by first | (rw [add_block]; exact hn1055_1) | (show (Addr.add _ _).block ≠ _; rw [add_block]; exact hn1055_1) | exact hn1055_1) (.int .i64 t1051)).trans hx1055_1; replace hx1055_2 := (cell_far (p := ⟨gb1054, 1, none⟩) (by first | (rw [add_block]; exact hn1055_1) | (show (Addr.add _ _).block ≠ _; rw [add_block]; exact hn1055_1) | exact hn1055_1) (.int .i64 t1051)).trans hx1055_2; replace hx1055_3 := (cell_far (p := ⟨gb1054, 1, none⟩) (by first | (rw [add_block]; exact hn1055_1) | (show (Addr.add _ _).block ≠ _; rw [add_block]; exact hn1055_1) | exact hn1055_1) (.int .i64 t1051)).trans hx1055_3; replace hx1055_4 := (cell_far (p := ⟨gb1054, 1, none⟩) (by first | (rw [add_block]; exact hn1055_1) | (show (Addr.add _ _).block ≠ _; rw [add_block]; exact hn1055_1) | exact hn1055_1) (.int .i64 t1051)).trans hx1055_4; replace hx1055_0 := (cell_far (p := ⟨gb1054, 2, none⟩) (by first | (rw [add_block]; exact hn1055_2) | (show (Addr.add _ _).block ≠ _; rw [add_block]; exact hn1055_2) | exact hn1055_2) (.int .i64 t1052)).trans hx1055_0; replace hx1055_1 := (cell_far (p := ⟨gb1054, 2, none⟩) (by first | (rw [add_block]; exact hn1055_2) | (show (Addr.add _ _).block ≠ _; rw [add_block]; exact hn1055_2) | exact hn1055_2) (.int .i64 t1052)).trans hx1055_1; replace hx1055_2 := (cell_far (p := ⟨gb1054, 2, none⟩) (by first | (rw [add_block]; exact hn1055_2) | (show (Addr.add _ _).block ≠ _; rw [add_block]; exact hn1055_2) | exact hn1055_2) (.int .i64 t1052)).trans hx1055_2; replace hx1055_3 := (cell_far (p := ⟨gb1054, 2, none⟩) (by first | (rw [add_block]; exact hn1055_2) | (show (Addr.add _ _).block ≠ _; rw [add_block]; exact hn1055_2) | exact hn1055_2) (.int .i64 t1052)).trans hx1055_3; replace hx1055_4 := (cell_far (p := ⟨gb1054, 2, none⟩) (by first | (rw [add_block]; exact hn1055_2) | (show (Addr.add _ _).block ≠ _; rw [add_block]; exact hn1055_2) | exact hn1055_2) (.int .i64 t1052)).trans hx1055_4; (try have hy1055_0 := fun (n_ : Nat) => (show (((((w53.drewN n_).setCell ⟨gb1054, 0, none⟩ (.int .i64 t1050)).setCell ⟨gb1054, 1, none⟩ (.int .i64 t1051)).setCell ⟨gb1054, 2, none⟩ (.int .i64 t1052))).cell? _ = some _ from hx1055_0)); (try have hy1055_1 := fun (n_ : Nat) => (show (((((w53.drewN n_).setCell ⟨gb1054, 0, none⟩ (.int .i64 t1050)).setCell ⟨gb1054, 1, none⟩ (.int .i64 t1051)).setCell ⟨gb1054, 2, none⟩ (.int .i64 t1052))).cell? _ = some _ from hx1055_1)); (try have hy1055_2 := fun (n_ : Nat) => (show (((((w53.drewN n_).setCell ⟨gb1054, 0, none⟩ (.int .i64 t1050)).setCell ⟨gb1054, 1, none⟩ (.int .i64 t1051)).setCell ⟨gb1054, 2, none⟩ (.int .i64 t1052))).cell? _ = some _ from hx1055_2)); (try have hy1055_3 := fun (n_ : Nat) => (show (((((w53.drewN n_).setCell ⟨gb1054, 0, none⟩ (.int .i64 t1050)).setCell ⟨gb1054, 1, none⟩ (.int .i64 t1051)).setCell ⟨gb1054, 2, none⟩ (.int .i64 t1052))).cell? _ = some _ from hx1055_3)); (try have hy1055_4 := fun (n_ : Nat) => (show (((((w53.drewN n_).setCell ⟨gb1054, 0, none⟩ (.int .i64 t1050)).setCell ⟨gb1054, 1, none⟩ (.int .i64 t1051)).setCell ⟨gb1054, 2, none⟩ (.int .i64 t1052))).cell? _ = some _ from hx1055_4)); clear hn1055_0; clear hn1055_1; clear hn1055_2; replace p1055 := eq_true p1055; replace q1055 := eq_true q1055))
        repeat (go_quiet (first | ((with_reducible refine gq 5 rfl ?_); (try (refine gate_guard (by rfl) ?_; dsimp only)); refine bx1 HB BK1042 (N := 5) (cs := #[.int .i64 0, .int .i64 0, .int .i64 0]) (t := 141) ?_; clear HB BK1042; intro gb1047 w45 BK1047 GE1047 HB NB1042_1047 NB1047_1042 BK1042; have hnb46 := NB1047_1042.out; have hnc46 := NB1042_1047.out; have hz47 := cs3_ BK1047; have hz48 := cs2_ BK1042) | (go_at_call 174; (with_reducible refine (spec_WordOk.calls ((rd_T141 l0_0 x4_3).f0) ((rd_T141 l0_0 x4_3).f1) ((rd_T141 l0_0 x4_3).f2) (l0_1.length : Int) true _ A20.out).mono ?_); rintro e w49 ⟨rfl, hb⟩; replace BK1042 := bbf BK1042 hb; replace BK1047 := bbp3 BK1047 hb; replace HB := bs HB hb; (try clear hb); have hz50 := cs3_ BK1047; have hz51 := cs2_ BK1042; have p1049 : 0 ≤ ((ji23) : Int) := od; have q1049 : (ji23) < (l0_1.length : Int) := od; obtain ⟨ad1049, A1049_2, c1049_2, A1049_4, c1049_4, e1049, hx1049_0, hx1049_1, hx1049_2, hx1049_3, hx1049_4, hl1049_2, hi1049_2, hl1049_4, hi1049_4⟩ := at_T145 HR0_1.out (ji23) p1049 q1049; cases e1049; replace hx1049_0 := ox HB hx1049_0; replace hx1049_1 := ox HB hx1049_1; replace hx1049_2 := ox HB hx1049_2; replace hx1049_3 := ox HB hx1049_3; replace hx1049_4 := ox HB hx1049_4; have HR1049_2 := Aside0.mk hi1049_2; have HC1049_2 := Aside0.mk hl1049_2; clear hi1049_2 hl1049_2; have HR1049_4 := Aside0.mk hi1049_4; have HC1049_4 := Aside0.mk hl1049_4; clear hi1049_4 hl1049_4; replace p1049 := eq_true p1049; replace q1049 := eq_true q1049) | (go_at_call 156; (with_reducible refine (spec_Entries.calls k3 ((rd_T145 l0_1 (ji23)).f0) ((rd_T145 l0_1 (ji23)).f1) _ _ ((rd_T145 l0_1 (ji23)).f2) ((rd_T145 l0_1 (ji23)).f3.f0) _ _ ((rd_T145 l0_1 (ji23)).f3.f1) x4_3 t1050 t1051 t1052 true _ (kc HR1049_2 HB) HC1049_2.out (kc HR1049_4 HB) HC1049_4.out A26.out).mono ?_); rintro e w52 ⟨rfl, hb⟩; replace BK1042 := bb BK1042 hb; replace BK1047 := bb BK1047 hb; replace HB := bs HB hb; (try clear hb)) | ((with_reducible refine gq 6 rfl ?_); (try (refine gate_guard (by rfl) ?_; dsimp only)); refine bx1 HB BK1042 (N := 6) (cs := #[.int .i64 0, .int .i64 0, .int .i64 0]) (t := 166) ?_; intro gb1054 hg w53 hbox hb; have BK1054 := Aside0.mk (hbox); have GW1054 := Aside0.mk (ge_ hg HB); have GE1054 := Aside0.mk (ge_ hg HB); replace HB := bs HB hb; have NB1042_1054 := Aside0.mk (nl_ hg BK1042); have NB1054_1042 := Aside0.mk (ng_ hg BK1042); replace BK1042 := bb BK1042 hb; have NB1047_1054 := Aside0.mk (nl_ hg BK1047); have NB1054_1047 := Aside0.mk (ng_ hg BK1047); replace BK1047 := bb BK1047 hb; clear hb hbox hg; have hnb54 := NB1054_1042.out; have hnc54 := NB1042_1054.out; have hnb55 := NB1054_1047.out; have hnc55 := NB1047_1054.out; have hz56 := cs3_ BK1054; have hz57 := cs2_ BK1042; have hz58 := cs3_ BK1047; have p1055 : 0 ≤ ((ji23) : Int) := od; have q1055 : (ji23) < (l0_1.length : Int) := od; obtain ⟨ad1055, A1055_2, c1055_2, A1055_4, c1055_4, e1055, hx1055_0, hx1055_1, hx1055_2, hx1055_3, hx1055_4, hl1055_2, hi1055_2, hl1055_4, hi1055_4⟩ := at_T145 HR0_1.out (ji23) p1055 q1055; obtain rfl : ad1049 = ad1055 := (by injection e1055); have hn1055_0 : ad1049.block ≠ gb1054 := Nat.ne_of_lt (Nat.lt_of_lt_of_le (by have := World.block_lt_of_cell? _ _ hx1055_0; first | rwa [add_block] at this | exact this) GW1054.out); have hn1055_1 : ad1049.block ≠ gb1054 := Nat.ne_of_lt (Nat.lt_of_lt_of_le (by have := World.block_lt_of_cell? _ _ hx1055_0; first | rwa [add_block] at this | exact this) GW1054.out); have hn1055_2 : ad1049.block ≠ gb1054 := Nat.ne_of_lt (Nat.lt_of_lt_of_le (by have := World.block_lt_of_cell? _ _ hx1055_0; first | rwa [add_block] at this | exact this) GW1054.out); replace hx1055_0 := ox HB hx1055_0; replace hx1055_1 := ox HB hx1055_1; replace hx1055_2 := ox HB hx1055_2; replace hx1055_3 := ox HB hx1055_3; replace hx1055_4 := ox HB hx1055_4; have HR1055_2 := Aside0.mk hi1055_2; have HC1055_2 := Aside0.mk hl1055_2; clear hi1055_2 hl1055_2; have HR1055_4 := Aside0.mk hi1055_4; have HC1055_4 := Aside0.mk hl1055_4; clear hi1055_4 hl1055_4; replace hx1055_0 := (cell_far (p := ⟨gb1054, 0, none⟩) (by first | (rw [add_block]; exact hn1055_0) | (show (Addr.add _ _).block ≠ _; rw [add_block]; exact hn1055_0) | exact hn1055_0) (.int .i64 t1050)).trans hx1055_0; replace hx1055_1 := (cell_far (p := ⟨gb1054, 0, none⟩) (by first | (rw [add_block]; exact hn1055_0) | (show (Addr.add _ _).block ≠ _; rw [add_block]; exact hn1055_0) | exact hn1055_0) (.int .i64 t1050)).trans hx1055_1; replace hx1055_2 := (cell_far (p := ⟨gb1054, 0, none⟩) (by first | (rw [add_block]; exact hn1055_0) | (show (Addr.add _ _).block ≠ _; rw [add_block]; exact hn1055_0) | exact hn1055_0) (.int .i64 t1050)).trans hx1055_2; replace hx1055_3 := (cell_far (p := ⟨gb1054, 0, none⟩) (by first | (rw [add_block]; exact hn1055_0) | (show (Addr.add _ _).block ≠ _; rw [add_block]; exact hn1055_0) | exact hn1055_0) (.int .i64 t1050)).trans hx1055_3; replace hx1055_4 := (cell_far (p := ⟨gb1054, 0, none⟩) (by first | (rw [add_block]; exact hn1055_0) | (show (Addr.add _ _).block ≠ _; rw [add_block]; exact hn1055_0) | exact hn1055_0) (.int .i64 t1050)).trans hx1055_4; replace hx1055_0 := (cell_far (p := ⟨gb1054, 1, none⟩) (by first | (rw [add_block]; exact hn1055_1) | (show (Addr.add _ _).block ≠ _; rw [add_block]; exact hn1055_1) | exact hn1055_1) (.int .i64 t1051)).trans hx1055_0; replace hx1055_1 := (cell_far (p := ⟨gb1054, 1, none⟩) (by first | (rw [add_block]; exact hn1055_1) | (show (Addr.add _ _).block ≠ _; rw [add_block]; exact hn1055_1) | exact hn1055_1) (.int .i64 t1051)).trans hx1055_1; replace hx1055_2 := (cell_far (p := ⟨gb1054, 1, none⟩) (by first | (rw [add_block]; exact hn1055_1) | (show (Addr.add _ _).block ≠ _; rw [add_block]; exact hn1055_1) | exact hn1055_1) (.int .i64 t1051)).trans hx1055_2; replace hx1055_3 := (cell_far (p := ⟨gb1054, 1, none⟩) (by first | (rw [add_block]; exact hn1055_1) | (show (Addr.add _ _).block ≠ _; rw [add_block]; exact hn1055_1) | exact hn1055_1) (.int .i64 t1051)).trans hx1055_3; replace hx1055_4 := (cell_far (p := ⟨gb1054, 1, none⟩) (by first | (rw [add_block]; exact hn1055_1) | (show (Addr.add _ _).block ≠ _; rw [add_block]; exact hn1055_1) | exact hn1055_1) (.int .i64 t1051)).trans hx1055_4; replace hx1055_0 := (cell_far (p := ⟨gb1054, 2, none⟩) (by first | (rw [add_block]; exact hn1055_2) | (show (Addr.add _ _).block ≠ _; rw [add_block]; exact hn1055_2) | exact hn1055_2) (.int .i64 t1052)).trans hx1055_0; replace hx1055_1 := (cell_far (p := ⟨gb1054, 2, none⟩) (by first | (rw [add_block]; exact hn1055_2) | (show (Addr.add _ _).block ≠ _; rw [add_block]; exact hn1055_2) | exact hn1055_2) (.int .i64 t1052)).trans hx1055_1; replace hx1055_2 := (cell_far (p := ⟨gb1054, 2, none⟩) (by first | (rw [add_block]; exact hn1055_2) | (show (Addr.add _ _).block ≠ _; rw [add_block]; exact hn1055_2) | exact hn1055_2) (.int .i64 t1052)).trans hx1055_2; replace hx1055_3 := (cell_far (p := ⟨gb1054, 2, none⟩) (by first | (rw [add_block]; exact hn1055_2) | (show (Addr.add _ _).block ≠ _; rw [add_block]; exact hn1055_2) | exact hn1055_2) (.int .i64 t1052)).trans hx1055_3; replace hx1055_4 := (cell_far (p := ⟨gb1054, 2, none⟩) (by first | (rw [add_block]; exact hn1055_2) | (show (Addr.add _ _).block ≠ _; rw [add_block]; exact hn1055_2) | exact hn1055_2) (.int .i64 t1052)).trans hx1055_4; (try have hy1055_0 := fun (n_ : Nat) => (show (((((w53.drewN n_).setCell ⟨gb1054, 0, none⟩ (.int .i64 t1050)).setCell ⟨gb1054, 1, none⟩ (.int .i64 t1051)).setCell ⟨gb1054, 2, none⟩ (.int .i64 t1052))).cell? _ = some _ from hx1055_0)); (try have hy1055_1 := fun (n_ : Nat) => (show (((((w53.drewN n_).setCell ⟨gb1054, 0, none⟩ (.int .i64 t1050)).setCell ⟨gb1054, 1, none⟩ (.int .i64 t1051)).setCell ⟨gb1054, 2, none⟩ (.int .i64 t1052))).cell? _ = some _ from hx1055_1)); (try have hy1055_2 := fun (n_ : Nat) => (show (((((w53.drewN n_).setCell ⟨gb1054, 0, none⟩ (.int .i64 t1050)).setCell ⟨gb1054, 1, none⟩ (.int .i64 t1051)).setCell ⟨gb1054, 2, none⟩ (.int .i64 t1052))).cell? _ = some _ from hx1055_2)); (try have hy1055_3 := fun (n_ : Nat) => (show (((((w53.drewN n_).setCell ⟨gb1054, 0, none⟩ (.int .i64 t1050)).setCell ⟨gb1054, 1, none⟩ (.int .i64 t1051)).setCell ⟨gb1054, 2, none⟩ (.int .i64 t1052))).cell? _ = some _ from hx1055_3)); (try have hy1055_4 := fun (n_ : Nat) => (show (((((w53.drewN n_).setCell ⟨gb1054, 0, none⟩ (.int .i64 t1050)).setCell ⟨gb1054, 1, none⟩ (.int .i64 t1051)).setCell ⟨gb1054, 2, none⟩ (.int .i64 t1052))).cell? _ = some _ from hx1055_4)); clear hn1055_0; clear hn1055_1; clear hn1055_2; replace p1055 := eq_true p1055; replace q1055 := eq_true q1055)); try go_wp2_with (first | ((with_reducible refine gq 5 rfl ?_); (try (refine gate_guard (by rfl) ?_; dsimp only)); refine bx (N := 5) (cs := #[.int .i64 0, .int .i64 0, .int .i64 0]) (t := 141) ?_; clear HB BK1042; intro gb1047 w45 BK1047 GE1047 HB NB1042_1047 NB1047_1042 BK1042; have hnb46 := NB1047_1042.out; have hnc46 := NB1042_1047.out; have hz47 := cs3_ BK1047; have hz48 := cs2_ BK1042) | (go_at_call 174; (with_reducible refine (spec_WordOk.calls ((rd_T141 l0_0 x4_3).f0) ((rd_T141 l0_0 x4_3).f1) ((rd_T141 l0_0 x4_3).f2) (l0_1.length : Int) true _ A20.out).mono ?_); rintro e w49 ⟨rfl, hb⟩; replace BK1042 := bbf BK1042 hb; replace BK1047 := bbp3 BK1047 hb; replace HB := bs HB hb; (try clear hb); have hz50 := cs3_ BK1047; have hz51 := cs2_ BK1042; have p1049 : 0 ≤ ((ji23) : Int) := od; have q1049 : (ji23) < (l0_1.length : Int) := od; obtain ⟨ad1049, A1049_2, c1049_2, A1049_4, c1049_4, e1049, hx1049_0, hx1049_1, hx1049_2, hx1049_3, hx1049_4, hl1049_2, hi1049_2, hl1049_4, hi1049_4⟩ := at_T145 HR0_1.out (ji23) p1049 q1049; cases e1049; replace hx1049_0 := ox HB hx1049_0; replace hx1049_1 := ox HB hx1049_1; replace hx1049_2 := ox HB hx1049_2; replace hx1049_3 := ox HB hx1049_3; replace hx1049_4 := ox HB hx1049_4; have HR1049_2 := Aside0.mk hi1049_2; have HC1049_2 := Aside0.mk hl1049_2; clear hi1049_2 hl1049_2; have HR1049_4 := Aside0.mk hi1049_4; have HC1049_4 := Aside0.mk hl1049_4; clear hi1049_4 hl1049_4; replace p1049 := eq_true p1049; replace q1049 := eq_true q1049) | (go_at_call 156; (with_reducible refine (spec_Entries.calls k3 ((rd_T145 l0_1 (ji23)).f0) ((rd_T145 l0_1 (ji23)).f1) _ _ ((rd_T145 l0_1 (ji23)).f2) ((rd_T145 l0_1 (ji23)).f3.f0) _ _ ((rd_T145 l0_1 (ji23)).f3.f1) x4_3 t1050 t1051 t1052 true _ (kc HR1049_2 HB) HC1049_2.out (kc HR1049_4 HB) HC1049_4.out A26.out).mono ?_); rintro e w52 ⟨rfl, hb⟩; replace BK1042 := bb BK1042 hb; replace BK1047 := bb BK1047 hb; replace HB := bs HB hb; (try clear hb)) | ((with_reducible refine gq 6 rfl ?_); (try (refine gate_guard (by rfl) ?_; dsimp only)); refine bx (N := 6) (cs := #[.int .i64 0, .int .i64 0, .int .i64 0]) (t := 166) ?_; intro gb1054 hg w53 hbox hb; have BK1054 := Aside0.mk (hbox); have GW1054 := Aside0.mk (ge_ hg HB); have GE1054 := Aside0.mk (ge_ hg HB); replace HB := bs HB hb; have NB1042_1054 := Aside0.mk (nl_ hg BK1042); have NB1054_1042 := Aside0.mk (ng_ hg BK1042); replace BK1042 := bb BK1042 hb; have NB1047_1054 := Aside0.mk (nl_ hg BK1047); have NB1054_1047 := Aside0.mk (ng_ hg BK1047); replace BK1047 := bb BK1047 hb; clear hb hbox hg; have hnb54 := NB1054_1042.out; have hnc54 := NB1042_1054.out; have hnb55 := NB1054_1047.out; have hnc55 := NB1047_1054.out; have hz56 := cs3_ BK1054; have hz57 := cs2_ BK1042; have hz58 := cs3_ BK1047; have p1055 : 0 ≤ ((ji23) : Int) := od; have q1055 : (ji23) < (l0_1.length : Int) := od; obtain ⟨ad1055, A1055_2, c1055_2, A1055_4, c1055_4, e1055, hx1055_0, hx1055_1, hx1055_2, hx1055_3, hx1055_4, hl1055_2, hi1055_2, hl1055_4, hi1055_4⟩ := at_T145 HR0_1.out (ji23) p1055 q1055; obtain rfl : ad1049 = ad1055 := (by injection e1055); have hn1055_0 : ad1049.block ≠ gb1054 := Nat.ne_of_lt (Nat.lt_of_lt_of_le (by have := World.block_lt_of_cell? _ _ hx1055_0; first | rwa [add_block] at this | exact this) GW1054.out); have hn1055_1 : ad1049.block ≠ gb1054 := Nat.ne_of_lt (Nat.lt_of_lt_of_le (by have := World.block_lt_of_cell? _ _ hx1055_0; first | rwa [add_block] at this | exact this) GW1054.out); have hn1055_2 : ad1049.block ≠ gb1054 := Nat.ne_of_lt (Nat.lt_of_lt_of_le (by have := World.block_lt_of_cell? _ _ hx1055_0; first | rwa [add_block] at this | exact this) GW1054.out); replace hx1055_0 := ox HB hx1055_0; replace hx1055_1 := ox HB hx1055_1; replace hx1055_2 := ox HB hx1055_2; replace hx1055_3 := ox HB hx1055_3; replace hx1055_4 := ox HB hx1055_4; have HR1055_2 := Aside0.mk hi1055_2; have HC1055_2 := Aside0.mk hl1055_2; clear hi1055_2 hl1055_2; have HR1055_4 := Aside0.mk hi1055_4; have HC1055_4 := Aside0.mk hl1055_4; clear hi1055_4 hl1055_4; replace hx1055_0 := (cell_far (p := ⟨gb1054, 0, none⟩) (by first | (rw [add_block]; exact hn1055_0) | (show (Addr.add _ _).block ≠ _; rw [add_block]; exact hn1055_0) | exact hn1055_0) (.int .i64 t1050)).trans hx1055_0; replace hx1055_1 := (cell_far (p := ⟨gb1054, 0, none⟩) (by first | (rw [add_block]; exact hn1055_0) | (show (Addr.add _ _).block ≠ _; rw [add_block]; exact hn1055_0) | exact hn1055_0) (.int .i64 t1050)).trans hx1055_1; replace hx1055_2 := (cell_far (p := ⟨gb1054, 0, none⟩) (by first | (rw [add_block]; exact hn1055_0) | (show (Addr.add _ _).block ≠ _; rw [add_block]; exact hn1055_0) | exact hn1055_0) (.int .i64 t1050)).trans hx1055_2; replace hx1055_3 := (cell_far (p := ⟨gb1054, 0, none⟩) (by first | (rw [add_block]; exact hn1055_0) | (show (Addr.add _ _).block ≠ _; rw [add_block]; exact hn1055_0) | exact hn1055_0) (.int .i64 t1050)).trans hx1055_3; replace hx1055_4 := (cell_far (p := ⟨gb1054, 0, none⟩) (by first | (rw [add_block]; exact hn1055_0) | (show (Addr.add _ _).block ≠ _; rw [add_block]; exact hn1055_0) | exact hn1055_0) (.int .i64 t1050)).trans hx1055_4; replace hx1055_0 := (cell_far (p := ⟨gb1054, 1, none⟩) (by first | (rw [add_block]; exact hn1055_1) | (show (Addr.add _ _).block ≠ _; rw [add_block]; exact hn1055_1) | exact hn1055_1) (.int .i64 t1051)).trans hx1055_0; replace hx1055_1 := (cell_far (p := ⟨gb1054, 1, none⟩) (by first | (rw [add_block]; exact hn1055_1) | (show (Addr.add _ _).block ≠ _; rw [add_block]; exact hn1055_1) | exact hn1055_1) (.int .i64 t1051)).trans hx1055_1; replace hx1055_2 := (cell_far (p := ⟨gb1054, 1, none⟩) (by first | (rw [add_block]; exact hn1055_1) | (show (Addr.add _ _).block ≠ _; rw [add_block]; exact hn1055_1) | exact hn1055_1) (.int .i64 t1051)).trans hx1055_2; replace hx1055_3 := (cell_far (p := ⟨gb1054, 1, none⟩) (by first | (rw [add_block]; exact hn1055_1) | (show (Addr.add _ _).block ≠ _; rw [add_block]; exact hn1055_1) | exact hn1055_1) (.int .i64 t1051)).trans hx1055_3; replace hx1055_4 := (cell_far (p := ⟨gb1054, 1, none⟩) (by first | (rw [add_block]; exact hn1055_1) | (show (Addr.add _ _).block ≠ _; rw [add_block]; exact hn1055_1) | exact hn1055_1) (.int .i64 t1051)).trans hx1055_4; replace hx1055_0 := (cell_far (p := ⟨gb1054, 2, none⟩) (by first | (rw [add_block]; exact hn1055_2) | (show (Addr.add _ _).block ≠ _; rw [add_block]; exact hn1055_2) | exact hn1055_2) (.int .i64 t1052)).trans hx1055_0; replace hx1055_1 := (cell_far (p := ⟨gb1054, 2, none⟩) (by first | (rw [add_block]; exact hn1055_2) | (show (Addr.add _ _).block ≠ _; rw [add_block]; exact hn1055_2) | exact hn1055_2) (.int .i64 t1052)).trans hx1055_1; replace hx1055_2 := (cell_far (p := ⟨gb1054, 2, none⟩) (by first | (rw [add_block]; exact hn1055_2) | (show (Addr.add _ _).block ≠ _; rw [add_block]; exact hn1055_2) | exact hn1055_2) (.int .i64 t1052)).trans hx1055_2; replace hx1055_3 := (cell_far (p := ⟨gb1054, 2, none⟩) (by first | (rw [add_block]; exact hn1055_2) | (show (Addr.add _ _).block ≠ _; rw [add_block]; exact hn1055_2) | exact hn1055_2) (.int .i64 t1052)).trans hx1055_3; replace hx1055_4 := (cell_far (p := ⟨gb1054, 2, none⟩) (by first | (rw [add_block]; exact hn1055_2) | (show (Addr.add _ _).block ≠ _; rw [add_block]; exact hn1055_2) | exact hn1055_2) (.int .i64 t1052)).trans hx1055_4; (try have hy1055_0 := fun (n_ : Nat) => (show (((((w53.drewN n_).setCell ⟨gb1054, 0, none⟩ (.int .i64 t1050)).setCell ⟨gb1054, 1, none⟩ (.int .i64 t1051)).setCell ⟨gb1054, 2, none⟩ (.int .i64 t1052))).cell? _ = some _ from hx1055_0)); (try have hy1055_1 := fun (n_ : Nat) => (show (((((w53.drewN n_).setCell ⟨gb1054, 0, none⟩ (.int .i64 t1050)).setCell ⟨gb1054, 1, none⟩ (.int .i64 t1051)).setCell ⟨gb1054, 2, none⟩ (.int .i64 t1052))).cell? _ = some _ from hx1055_1)); (try have hy1055_2 := fun (n_ : Nat) => (show (((((w53.drewN n_).setCell ⟨gb1054, 0, none⟩ (.int .i64 t1050)).setCell ⟨gb1054, 1, none⟩ (.int .i64 t1051)).setCell ⟨gb1054, 2, none⟩ (.int .i64 t1052))).cell? _ = some _ from hx1055_2)); (try have hy1055_3 := fun (n_ : Nat) => (show (((((w53.drewN n_).setCell ⟨gb1054, 0, none⟩ (.int .i64 t1050)).setCell ⟨gb1054, 1, none⟩ (.int .i64 t1051)).setCell ⟨gb1054, 2, none⟩ (.int .i64 t1052))).cell? _ = some _ from hx1055_3)); (try have hy1055_4 := fun (n_ : Nat) => (show (((((w53.drewN n_).setCell ⟨gb1054, 0, none⟩ (.int .i64 t1050)).setCell ⟨gb1054, 1, none⟩ (.int .i64 t1051)).setCell ⟨gb1054, 2, none⟩ (.int .i64 t1052))).cell? _ = some _ from hx1055_4)); clear hn1055_0; clear hn1055_1; clear hn1055_2; replace p1055 := eq_true p1055; replace q1055 := eq_true q1055)))
        go_ret
        exact ⟨by first | rfl | (simp [errW_none, errW_some] <;> rfl) | (simp only [← hji23]; first | rfl | (simp [errW_none, errW_some] <;> rfl)) | (simp [*, errW_none, errW_some] <;> rfl), tb HB⟩
       rw [if_pos c28] at H
       have c28b0 : (((rd_T145 l0_1 (ji23)).f0) == ((rd_T141 l0_0 x4_3).f2)) = true := beq_iff_eq.mpr c28
       have c28b1 : (((rd_T145 l0_1 (ji23)).f0) != ((rd_T141 l0_0 x4_3).f2)) = false := bne_eq_false_iff_eq.mpr c28
       clear c28
       have H' := Aside0.mk H
       clear H
       have hz29 := cs2_ BK1042
       have p1046 : 0 ≤ (x4_3 : Int) := od
       have q1046 : x4_3 < (l0_0.length : Int) := od
       obtain ⟨ad1046, e1046, hx1046_0, hx1046_1, hx1046_2⟩ := at_T141 HR0_0.out x4_3 p1046 q1046
       cases e1046
       replace hx1046_0 := ox HB hx1046_0
       replace hx1046_1 := ox HB hx1046_1
       replace hx1046_2 := ox HB hx1046_2
       replace p1046 := eq_true p1046
       replace q1046 := eq_true q1046
       go_wp2_with (first | ((with_reducible refine gq 5 rfl ?_); (try (refine gate_guard (by rfl) ?_; dsimp only)); refine bx1 HB BK1042 (N := 5) (cs := #[.int .i64 0, .int .i64 0, .int .i64 0]) (t := 141) ?_; clear HB BK1042; intro gb1047 w30 BK1047 GE1047 HB NB1042_1047 NB1047_1042 BK1042; have hnb31 := NB1047_1042.out; have hnc31 := NB1042_1047.out; have hz32 := cs3_ BK1047; have hz33 := cs2_ BK1042) | (go_at_call 174; (with_reducible refine (spec_WordOk.calls ((rd_T141 l0_0 x4_3).f0) ((rd_T141 l0_0 x4_3).f1) ((rd_T141 l0_0 x4_3).f2) (l0_1.length : Int) true _ A20.out).mono ?_); rintro e w34 ⟨rfl, hb⟩; replace BK1042 := bbf BK1042 hb; replace BK1047 := bbp3 BK1047 hb; replace HB := bs HB hb; (try clear hb); have hz35 := cs3_ BK1047; have hz36 := cs2_ BK1042; have p1049 : 0 ≤ ((ji23) : Int) := od; have q1049 : (ji23) < (l0_1.length : Int) := od; obtain ⟨ad1049, A1049_2, c1049_2, A1049_4, c1049_4, e1049, hx1049_0, hx1049_1, hx1049_2, hx1049_3, hx1049_4, hl1049_2, hi1049_2, hl1049_4, hi1049_4⟩ := at_T145 HR0_1.out (ji23) p1049 q1049; cases e1049; replace hx1049_0 := ox HB hx1049_0; replace hx1049_1 := ox HB hx1049_1; replace hx1049_2 := ox HB hx1049_2; replace hx1049_3 := ox HB hx1049_3; replace hx1049_4 := ox HB hx1049_4; have HR1049_2 := Aside0.mk hi1049_2; have HC1049_2 := Aside0.mk hl1049_2; clear hi1049_2 hl1049_2; have HR1049_4 := Aside0.mk hi1049_4; have HC1049_4 := Aside0.mk hl1049_4; clear hi1049_4 hl1049_4; replace p1049 := eq_true p1049; replace q1049 := eq_true q1049) | (go_at_call 156; (with_reducible refine (spec_Entries.calls k3 ((rd_T145 l0_1 (ji23)).f0) ((rd_T145 l0_1 (ji23)).f1) _ _ ((rd_T145 l0_1 (ji23)).f2) ((rd_T145 l0_1 (ji23)).f3.f0) _ _ ((rd_T145 l0_1 (ji23)).f3.f1) x4_3 t1050 t1051 t1052 true _ (kc HR1049_2 HB) HC1049_2.out (kc HR1049_4 HB) HC1049_4.out A26.out).mono ?_); rintro e w37 ⟨rfl, hb⟩; replace BK1042 := bb BK1042 hb; replace BK1047 := bb BK1047 hb; replace HB := bs HB hb; (try clear hb)) | ((with_reducible refine gq 6 rfl ?_); (try (refine gate_guard (by rfl) ?_; dsimp only)); refine bx (N := 6) (cs := #[.int .i64 0, .int .i64 0, .int .i64 0]) (t := 166) ?_; intro gb1054 hg w38 hbox hb; have BK1054 := Aside0.mk (hbox); have GW1054 := Aside0.mk (ge_ hg HB); have GE1054 := Aside0.mk (ge_ hg HB); replace HB := bs HB hb; have NB1042_1054 := Aside0.mk (nl_ hg BK1042); have NB1054_1042 := Aside0.mk (ng_ hg BK1042); replace BK1042 := bb BK1042 hb; have NB1047_1054 := Aside0.mk (nl_ hg BK1047); have NB1054_1047 := Aside0.mk (ng_ hg BK1047); replace BK1047 := bb BK1047 hb; clear hb hbox hg; have hnb39 := NB1054_1042.out; have hnc39 := NB1042_1054.out; have hnb40 := NB1054_1047.out; have hnc40 := NB1047_1054.out; have hz41 := cs3_ BK1054; have hz42 := cs2_ BK1042; have hz43 := cs3_ BK1047; have p1055 : 0 ≤ ((ji23) : Int) := od; have q1055 : (ji23) < (l0_1.length : Int) := od; obtain ⟨ad1055, A1055_2, c1055_2, A1055_4, c1055_4, e1055, hx1055_0, hx1055_1, hx1055_2, hx1055_3, hx1055_4, hl1055_2, hi1055_2, hl1055_4, hi1055_4⟩ := at_T145 HR0_1.out (ji23) p1055 q1055; obtain rfl : ad1049 = ad1055 := (by injection e1055); have hn1055_0 : ad1049.block ≠ gb1054 := Nat.ne_of_lt (Nat.lt_of_lt_of_le (by have := World.block_lt_of_cell? _ _ hx1055_0; first | rwa [add_block] at this | exact this) GW1054.out); have hn1055_1 : ad1049.block ≠ gb1054 := Nat.ne_of_lt (Nat.lt_of_lt_of_le (by have := World.block_lt_of_cell? _ _ hx1055_0; first | rwa [add_block] at this | exact this) GW1054.out); have hn1055_2 : ad1049.block ≠ gb1054 := Nat.ne_of_lt (Nat.lt_of_lt_of_le (by have := World.block_lt_of_cell? _ _ hx1055_0; first | rwa [add_block] at this | exact this) GW1054.out); replace hx1055_0 := ox HB hx1055_0; replace hx1055_1 := ox HB hx1055_1; replace hx1055_2 := ox HB hx1055_2; replace hx1055_3 := ox HB hx1055_3; replace hx1055_4 := ox HB hx1055_4; have HR1055_2 := Aside0.mk hi1055_2; have HC1055_2 := Aside0.mk hl1055_2; clear hi1055_2 hl1055_2; have HR1055_4 := Aside0.mk hi1055_4; have HC1055_4 := Aside0.mk hl1055_4; clear hi1055_4 hl1055_4; replace hx1055_0 := (cell_far (p := ⟨gb1054, 0, none⟩) (by first | (rw [add_block]; exact hn1055_0) | (show (Addr.add _ _).block ≠ _; rw [add_block]; exact hn1055_0) | exact hn1055_0) (.int .i64 t1050)).trans hx1055_0; replace hx1055_1 := (cell_far (p := ⟨gb1054, 0, none⟩) (by first | (rw [add_block]; exact hn1055_0) | (show (Addr.add _ _).block ≠ _; rw [add_block]; exact hn1055_0) | exact hn1055_0) (.int .i64 t1050)).trans hx1055_1; replace hx1055_2 := (cell_far (p := ⟨gb1054, 0, none⟩) (by first | (rw [add_block]; exact hn1055_0) | (show (Addr.add _ _).block ≠ _; rw [add_block]; exact hn1055_0) | exact hn1055_0) (.int .i64 t1050)).trans hx1055_2; replace hx1055_3 := (cell_far (p := ⟨gb1054, 0, none⟩) (by first | (rw [add_block]; exact hn1055_0) | (show (Addr.add _ _).block ≠ _; rw [add_block]; exact hn1055_0) | exact hn1055_0) (.int .i64 t1050)).trans hx1055_3; replace hx1055_4 := (cell_far (p := ⟨gb1054, 0, none⟩) (by first | (rw [add_block]; exact hn1055_0) | (show (Addr.add _ _).block ≠ _; rw [add_block]; exact hn1055_0) | exact hn1055_0) (.int .i64 t1050)).trans hx1055_4; replace hx1055_0 := (cell_far (p := ⟨gb1054, 1, none⟩) (by first | (rw [add_block]; exact hn1055_1) | (show (Addr.add _ _).block ≠ _; rw [add_block]; exact hn1055_1) | exact hn1055_1) (.int .i64 t1051)).trans hx1055_0; replace hx1055_1 := (cell_far (p := ⟨gb1054, 1, none⟩) (by first | (rw [add_block]; exact hn1055_1) | (show (Addr.add _ _).block ≠ _; rw [add_block]; exact hn1055_1) | exact hn1055_1) (.int .i64 t1051)).trans hx1055_1; replace hx1055_2 := (cell_far (p := ⟨gb1054, 1, none⟩) (by first | (rw [add_block]; exact hn1055_1) | (show (Addr.add _ _).block ≠ _; rw [add_block]; exact hn1055_1) | exact hn1055_1) (.int .i64 t1051)).trans hx1055_2; replace hx1055_3 := (cell_far (p := ⟨gb1054, 1, none⟩) (by first | (rw [add_block]; exact hn1055_1) | (show (Addr.add _ _).block ≠ _; rw [add_block]; exact hn1055_1) | exact hn1055_1) (.int .i64 t1051)).trans hx1055_3; replace hx1055_4 := (cell_far (p := ⟨gb1054, 1, none⟩) (by first | (rw [add_block]; exact hn1055_1) | (show (Addr.add _ _).block ≠ _; rw [add_block]; exact hn1055_1) | exact hn1055_1) (.int .i64 t1051)).trans hx1055_4; replace hx1055_0 := (cell_far (p := ⟨gb1054, 2, none⟩) (by first | (rw [add_block]; exact hn1055_2) | (show (Addr.add _ _).block ≠ _; rw [add_block]; exact hn1055_2) | exact hn1055_2) (.int .i64 t1052)).trans hx1055_0; replace hx1055_1 := (cell_far (p := ⟨gb1054, 2, none⟩) (by first | (rw [add_block]; exact hn1055_2) | (show (Addr.add _ _).block ≠ _; rw [add_block]; exact hn1055_2) | exact hn1055_2) (.int .i64 t1052)).trans hx1055_1; replace hx1055_2 := (cell_far (p := ⟨gb1054, 2, none⟩) (by first | (rw [add_block]; exact hn1055_2) | (show (Addr.add _ _).block ≠ _; rw [add_block]; exact hn1055_2) | exact hn1055_2) (.int .i64 t1052)).trans hx1055_2; replace hx1055_3 := (cell_far (p := ⟨gb1054, 2, none⟩) (by first | (rw [add_block]; exact hn1055_2) | (show (Addr.add _ _).block ≠ _; rw [add_block]; exact hn1055_2) | exact hn1055_2) (.int .i64 t1052)).trans hx1055_3; replace hx1055_4 := (cell_far (p := ⟨gb1054, 2, none⟩) (by first | (rw [add_block]; exact hn1055_2) | (show (Addr.add _ _).block ≠ _; rw [add_block]; exact hn1055_2) | exact hn1055_2) (.int .i64 t1052)).trans hx1055_4; (try have hy1055_0 := fun (n_ : Nat) => (show (((((w38.drewN n_).setCell ⟨gb1054, 0, none⟩ (.int .i64 t1050)).setCell ⟨gb1054, 1, none⟩ (.int .i64 t1051)).setCell ⟨gb1054, 2, none⟩ (.int .i64 t1052))).cell? _ = some _ from hx1055_0)); (try have hy1055_1 := fun (n_ : Nat) => (show (((((w38.drewN n_).setCell ⟨gb1054, 0, none⟩ (.int .i64 t1050)).setCell ⟨gb1054, 1, none⟩ (.int .i64 t1051)).setCell ⟨gb1054, 2, none⟩ (.int .i64 t1052))).cell? _ = some _ from hx1055_1)); (try have hy1055_2 := fun (n_ : Nat) => (show (((((w38.drewN n_).setCell ⟨gb1054, 0, none⟩ (.int .i64 t1050)).setCell ⟨gb1054, 1, none⟩ (.int .i64 t1051)).setCell ⟨gb1054, 2, none⟩ (.int .i64 t1052))).cell? _ = some _ from hx1055_2)); (try have hy1055_3 := fun (n_ : Nat) => (show (((((w38.drewN n_).setCell ⟨gb1054, 0, none⟩ (.int .i64 t1050)).setCell ⟨gb1054, 1, none⟩ (.int .i64 t1051)).setCell ⟨gb1054, 2, none⟩ (.int .i64 t1052))).cell? _ = some _ from hx1055_3)); (try have hy1055_4 := fun (n_ : Nat) => (show (((((w38.drewN n_).setCell ⟨gb1054, 0, none⟩ (.int .i64 t1050)).setCell ⟨gb1054, 1, none⟩ (.int .i64 t1051)).setCell ⟨gb1054, 2, none⟩ (.int .i64 t1052))).cell? _ = some _ from hx1055_4)); clear hn1055_0; clear hn1055_1; clear hn1055_2; replace p1055 := eq_true p1055; replace q1055 := eq_true q1055))
       repeat (go_quiet (first | ((with_reducible refine gq 5 rfl ?_); (try (refine gate_guard (by rfl) ?_; dsimp only)); refine bx1 HB BK1042 (N := 5) (cs := #[.int .i64 0, .int .i64 0, .int .i64 0]) (t := 141) ?_; clear HB BK1042; intro gb1047 w30 BK1047 GE1047 HB NB1042_1047 NB1047_1042 BK1042; have hnb31 := NB1047_1042.out; have hnc31 := NB1042_1047.out; have hz32 := cs3_ BK1047; have hz33 := cs2_ BK1042) | (go_at_call 174; (with_reducible refine (spec_WordOk.calls ((rd_T141 l0_0 x4_3).f0) ((rd_T141 l0_0 x4_3).f1) ((rd_T141 l0_0 x4_3).f2) (l0_1.length : Int) true _ A20.out).mono ?_); rintro e w34 ⟨rfl, hb⟩; replace BK1042 := bbf BK1042 hb; replace BK1047 := bbp3 BK1047 hb; replace HB := bs HB hb; (try clear hb); have hz35 := cs3_ BK1047; have hz36 := cs2_ BK1042; have p1049 : 0 ≤ ((ji23) : Int) := od; have q1049 : (ji23) < (l0_1.length : Int) := od; obtain ⟨ad1049, A1049_2, c1049_2, A1049_4, c1049_4, e1049, hx1049_0, hx1049_1, hx1049_2, hx1049_3, hx1049_4, hl1049_2, hi1049_2, hl1049_4, hi1049_4⟩ := at_T145 HR0_1.out (ji23) p1049 q1049; cases e1049; replace hx1049_0 := ox HB hx1049_0; replace hx1049_1 := ox HB hx1049_1; replace hx1049_2 := ox HB hx1049_2; replace hx1049_3 := ox HB hx1049_3; replace hx1049_4 := ox HB hx1049_4; have HR1049_2 := Aside0.mk hi1049_2; have HC1049_2 := Aside0.mk hl1049_2; clear hi1049_2 hl1049_2; have HR1049_4 := Aside0.mk hi1049_4; have HC1049_4 := Aside0.mk hl1049_4; clear hi1049_4 hl1049_4; replace p1049 := eq_true p1049; replace q1049 := eq_true q1049) | (go_at_call 156; (with_reducible refine (spec_Entries.calls k3 ((rd_T145 l0_1 (ji23)).f0) ((rd_T145 l0_1 (ji23)).f1) _ _ ((rd_T145 l0_1 (ji23)).f2) ((rd_T145 l0_1 (ji23)).f3.f0) _ _ ((rd_T145 l0_1 (ji23)).f3.f1) x4_3 t1050 t1051 t1052 true _ (kc HR1049_2 HB) HC1049_2.out (kc HR1049_4 HB) HC1049_4.out A26.out).mono ?_); rintro e w37 ⟨rfl, hb⟩; replace BK1042 := bb BK1042 hb; replace BK1047 := bb BK1047 hb; replace HB := bs HB hb; (try clear hb)) | ((with_reducible refine gq 6 rfl ?_); (try (refine gate_guard (by rfl) ?_; dsimp only)); refine bx1 HB BK1042 (N := 6) (cs := #[.int .i64 0, .int .i64 0, .int .i64 0]) (t := 166) ?_; intro gb1054 hg w38 hbox hb; have BK1054 := Aside0.mk (hbox); have GW1054 := Aside0.mk (ge_ hg HB); have GE1054 := Aside0.mk (ge_ hg HB); replace HB := bs HB hb; have NB1042_1054 := Aside0.mk (nl_ hg BK1042); have NB1054_1042 := Aside0.mk (ng_ hg BK1042); replace BK1042 := bb BK1042 hb; have NB1047_1054 := Aside0.mk (nl_ hg BK1047); have NB1054_1047 := Aside0.mk (ng_ hg BK1047); replace BK1047 := bb BK1047 hb; clear hb hbox hg; have hnb39 := NB1054_1042.out; have hnc39 := NB1042_1054.out; have hnb40 := NB1054_1047.out; have hnc40 := NB1047_1054.out; have hz41 := cs3_ BK1054; have hz42 := cs2_ BK1042; have hz43 := cs3_ BK1047; have p1055 : 0 ≤ ((ji23) : Int) := od; have q1055 : (ji23) < (l0_1.length : Int) := od; obtain ⟨ad1055, A1055_2, c1055_2, A1055_4, c1055_4, e1055, hx1055_0, hx1055_1, hx1055_2, hx1055_3, hx1055_4, hl1055_2, hi1055_2, hl1055_4, hi1055_4⟩ := at_T145 HR0_1.out (ji23) p1055 q1055; obtain rfl : ad1049 = ad1055 := (by injection e1055); have hn1055_0 : ad1049.block ≠ gb1054 := Nat.ne_of_lt (Nat.lt_of_lt_of_le (by have := World.block_lt_of_cell? _ _ hx1055_0; first | rwa [add_block] at this | exact this) GW1054.out); have hn1055_1 : ad1049.block ≠ gb1054 := Nat.ne_of_lt (Nat.lt_of_lt_of_le (by have := World.block_lt_of_cell? _ _ hx1055_0; first | rwa [add_block] at this | exact this) GW1054.out); have hn1055_2 : ad1049.block ≠ gb1054 := Nat.ne_of_lt (Nat.lt_of_lt_of_le (by have := World.block_lt_of_cell? _ _ hx1055_0; first | rwa [add_block] at this | exact this) GW1054.out); replace hx1055_0 := ox HB hx1055_0; replace hx1055_1 := ox HB hx1055_1; replace hx1055_2 := ox HB hx1055_2; replace hx1055_3 := ox HB hx1055_3; replace hx1055_4 := ox HB hx1055_4; have HR1055_2 := Aside0.mk hi1055_2; have HC1055_2 := Aside0.mk hl1055_2; clear hi1055_2 hl1055_2; have HR1055_4 := Aside0.mk hi1055_4; have HC1055_4 := Aside0.mk hl1055_4; clear hi1055_4 hl1055_4; replace hx1055_0 := (cell_far (p := ⟨gb1054, 0, none⟩) (by first | (rw [add_block]; exact hn1055_0) | (show (Addr.add _ _).block ≠ _; rw [add_block]; exact hn1055_0) | exact hn1055_0) (.int .i64 t1050)).trans hx1055_0; replace hx1055_1 := (cell_far (p := ⟨gb1054, 0, none⟩) (by first | (rw [add_block]; exact hn1055_0) | (show (Addr.add _ _).block ≠ _; rw [add_block]; exact hn1055_0) | exact hn1055_0) (.int .i64 t1050)).trans hx1055_1; replace hx1055_2 := (cell_far (p := ⟨gb1054, 0, none⟩) (by first | (rw [add_block]; exact hn1055_0) | (show (Addr.add _ _).block ≠ _; rw [add_block]; exact hn1055_0) | exact hn1055_0) (.int .i64 t1050)).trans hx1055_2; replace hx1055_3 := (cell_far (p := ⟨gb1054, 0, none⟩) (by first | (rw [add_block]; exact hn1055_0) | (show (Addr.add _ _).block ≠ _; rw [add_block]; exact hn1055_0) | exact hn1055_0) (.int .i64 t1050)).trans hx1055_3; replace hx1055_4 := (cell_far (p := ⟨gb1054, 0, none⟩) (by first | (rw [add_block]; exact hn1055_0) | (show (Addr.add _ _).block ≠ _; rw [add_block]; exact hn1055_0) | exact hn1055_0) (.int .i64 t1050)).trans hx1055_4; replace hx1055_0 := (cell_far (p := ⟨gb1054, 1, none⟩) (by first | (rw [add_block]; exact hn1055_1) | (show (Addr.add _ _).block ≠ _; rw [add_block]; exact hn1055_1) | exact hn1055_1) (.int .i64 t1051)).trans hx1055_0; replace hx1055_1 := (cell_far (p := ⟨gb1054, 1, none⟩) (by first | (rw [add_block]; exact hn1055_1) | (show (Addr.add _ _).block ≠ _; rw [add_block]; exact hn1055_1) | exact hn1055_1) (.int .i64 t1051)).trans hx1055_1; replace hx1055_2 := (cell_far (p := ⟨gb1054, 1, none⟩) (by first | (rw [add_block]; exact hn1055_1) | (show (Addr.add _ _).block ≠ _; rw [add_block]; exact hn1055_1) | exact hn1055_1) (.int .i64 t1051)).trans hx1055_2; replace hx1055_3 := (cell_far (p := ⟨gb1054, 1, none⟩) (by first | (rw [add_block]; exact hn1055_1) | (show (Addr.add _ _).block ≠ _; rw [add_block]; exact hn1055_1) | exact hn1055_1) (.int .i64 t1051)).trans hx1055_3; replace hx1055_4 := (cell_far (p := ⟨gb1054, 1, none⟩) (by first | (rw [add_block]; exact hn1055_1) | (show (Addr.add _ _).block ≠ _; rw [add_block]; exact hn1055_1) | exact hn1055_1) (.int .i64 t1051)).trans hx1055_4; replace hx1055_0 := (cell_far (p := ⟨gb1054, 2, none⟩) (by first | (rw [add_block]; exact hn1055_2) | (show (Addr.add _ _).block ≠ _; rw [add_block]; exact hn1055_2) | exact hn1055_2) (.int .i64 t1052)).trans hx1055_0; replace hx1055_1 := (cell_far (p := ⟨gb1054, 2, none⟩) (by first | (rw [add_block]; exact hn1055_2) | (show (Addr.add _ _).block ≠ _; rw [add_block]; exact hn1055_2) | exact hn1055_2) (.int .i64 t1052)).trans hx1055_1; replace hx1055_2 := (cell_far (p := ⟨gb1054, 2, none⟩) (by first | (rw [add_block]; exact hn1055_2) | (show (Addr.add _ _).block ≠ _; rw [add_block]; exact hn1055_2) | exact hn1055_2) (.int .i64 t1052)).trans hx1055_2; replace hx1055_3 := (cell_far (p := ⟨gb1054, 2, none⟩) (by first | (rw [add_block]; exact hn1055_2) | (show (Addr.add _ _).block ≠ _; rw [add_block]; exact hn1055_2) | exact hn1055_2) (.int .i64 t1052)).trans hx1055_3; replace hx1055_4 := (cell_far (p := ⟨gb1054, 2, none⟩) (by first | (rw [add_block]; exact hn1055_2) | (show (Addr.add _ _).block ≠ _; rw [add_block]; exact hn1055_2) | exact hn1055_2) (.int .i64 t1052)).trans hx1055_4; (try have hy1055_0 := fun (n_ : Nat) => (show (((((w38.drewN n_).setCell ⟨gb1054, 0, none⟩ (.int .i64 t1050)).setCell ⟨gb1054, 1, none⟩ (.int .i64 t1051)).setCell ⟨gb1054, 2, none⟩ (.int .i64 t1052))).cell? _ = some _ from hx1055_0)); (try have hy1055_1 := fun (n_ : Nat) => (show (((((w38.drewN n_).setCell ⟨gb1054, 0, none⟩ (.int .i64 t1050)).setCell ⟨gb1054, 1, none⟩ (.int .i64 t1051)).setCell ⟨gb1054, 2, none⟩ (.int .i64 t1052))).cell? _ = some _ from hx1055_1)); (try have hy1055_2 := fun (n_ : Nat) => (show (((((w38.drewN n_).setCell ⟨gb1054, 0, none⟩ (.int .i64 t1050)).setCell ⟨gb1054, 1, none⟩ (.int .i64 t1051)).setCell ⟨gb1054, 2, none⟩ (.int .i64 t1052))).cell? _ = some _ from hx1055_2)); (try have hy1055_3 := fun (n_ : Nat) => (show (((((w38.drewN n_).setCell ⟨gb1054, 0, none⟩ (.int .i64 t1050)).setCell ⟨gb1054, 1, none⟩ (.int .i64 t1051)).setCell ⟨gb1054, 2, none⟩ (.int .i64 t1052))).cell? _ = some _ from hx1055_3)); (try have hy1055_4 := fun (n_ : Nat) => (show (((((w38.drewN n_).setCell ⟨gb1054, 0, none⟩ (.int .i64 t1050)).setCell ⟨gb1054, 1, none⟩ (.int .i64 t1051)).setCell ⟨gb1054, 2, none⟩ (.int .i64 t1052))).cell? _ = some _ from hx1055_4)); clear hn1055_0; clear hn1055_1; clear hn1055_2; replace p1055 := eq_true p1055; replace q1055 := eq_true q1055)); try go_wp2_with (first | ((with_reducible refine gq 5 rfl ?_); (try (refine gate_guard (by rfl) ?_; dsimp only)); refine bx (N := 5) (cs := #[.int .i64 0, .int .i64 0, .int .i64 0]) (t := 141) ?_; clear HB BK1042; intro gb1047 w30 BK1047 GE1047 HB NB1042_1047 NB1047_1042 BK1042; have hnb31 := NB1047_1042.out; have hnc31 := NB1042_1047.out; have hz32 := cs3_ BK1047; have hz33 := cs2_ BK1042) | (go_at_call 174; (with_reducible refine (spec_WordOk.calls ((rd_T141 l0_0 x4_3).f0) ((rd_T141 l0_0 x4_3).f1) ((rd_T141 l0_0 x4_3).f2) (l0_1.length : Int) true _ A20.out).mono ?_); rintro e w34 ⟨rfl, hb⟩; replace BK1042 := bbf BK1042 hb; replace BK1047 := bbp3 BK1047 hb; replace HB := bs HB hb; (try clear hb); have hz35 := cs3_ BK1047; have hz36 := cs2_ BK1042; have p1049 : 0 ≤ ((ji23) : Int) := od; have q1049 : (ji23) < (l0_1.length : Int) := od; obtain ⟨ad1049, A1049_2, c1049_2, A1049_4, c1049_4, e1049, hx1049_0, hx1049_1, hx1049_2, hx1049_3, hx1049_4, hl1049_2, hi1049_2, hl1049_4, hi1049_4⟩ := at_T145 HR0_1.out (ji23) p1049 q1049; cases e1049; replace hx1049_0 := ox HB hx1049_0; replace hx1049_1 := ox HB hx1049_1; replace hx1049_2 := ox HB hx1049_2; replace hx1049_3 := ox HB hx1049_3; replace hx1049_4 := ox HB hx1049_4; have HR1049_2 := Aside0.mk hi1049_2; have HC1049_2 := Aside0.mk hl1049_2; clear hi1049_2 hl1049_2; have HR1049_4 := Aside0.mk hi1049_4; have HC1049_4 := Aside0.mk hl1049_4; clear hi1049_4 hl1049_4; replace p1049 := eq_true p1049; replace q1049 := eq_true q1049) | (go_at_call 156; (with_reducible refine (spec_Entries.calls k3 ((rd_T145 l0_1 (ji23)).f0) ((rd_T145 l0_1 (ji23)).f1) _ _ ((rd_T145 l0_1 (ji23)).f2) ((rd_T145 l0_1 (ji23)).f3.f0) _ _ ((rd_T145 l0_1 (ji23)).f3.f1) x4_3 t1050 t1051 t1052 true _ (kc HR1049_2 HB) HC1049_2.out (kc HR1049_4 HB) HC1049_4.out A26.out).mono ?_); rintro e w37 ⟨rfl, hb⟩; replace BK1042 := bb BK1042 hb; replace BK1047 := bb BK1047 hb; replace HB := bs HB hb; (try clear hb)) | ((with_reducible refine gq 6 rfl ?_); (try (refine gate_guard (by rfl) ?_; dsimp only)); refine bx (N := 6) (cs := #[.int .i64 0, .int .i64 0, .int .i64 0]) (t := 166) ?_; intro gb1054 hg w38 hbox hb; have BK1054 := Aside0.mk (hbox); have GW1054 := Aside0.mk (ge_ hg HB); have GE1054 := Aside0.mk (ge_ hg HB); replace HB := bs HB hb; have NB1042_1054 := Aside0.mk (nl_ hg BK1042); have NB1054_1042 := Aside0.mk (ng_ hg BK1042); replace BK1042 := bb BK1042 hb; have NB1047_1054 := Aside0.mk (nl_ hg BK1047); have NB1054_1047 := Aside0.mk (ng_ hg BK1047); replace BK1047 := bb BK1047 hb; clear hb hbox hg; have hnb39 := NB1054_1042.out; have hnc39 := NB1042_1054.out; have hnb40 := NB1054_1047.out; have hnc40 := NB1047_1054.out; have hz41 := cs3_ BK1054; have hz42 := cs2_ BK1042; have hz43 := cs3_ BK1047; have p1055 : 0 ≤ ((ji23) : Int) := od; have q1055 : (ji23) < (l0_1.length : Int) := od; obtain ⟨ad1055, A1055_2, c1055_2, A1055_4, c1055_4, e1055, hx1055_0, hx1055_1, hx1055_2, hx1055_3, hx1055_4, hl1055_2, hi1055_2, hl1055_4, hi1055_4⟩ := at_T145 HR0_1.out (ji23) p1055 q1055; obtain rfl : ad1049 = ad1055 := (by injection e1055); have hn1055_0 : ad1049.block ≠ gb1054 := Nat.ne_of_lt (Nat.lt_of_lt_of_le (by have := World.block_lt_of_cell? _ _ hx1055_0; first | rwa [add_block] at this | exact this) GW1054.out); have hn1055_1 : ad1049.block ≠ gb1054 := Nat.ne_of_lt (Nat.lt_of_lt_of_le (by have := World.block_lt_of_cell? _ _ hx1055_0; first | rwa [add_block] at this | exact this) GW1054.out); have hn1055_2 : ad1049.block ≠ gb1054 := Nat.ne_of_lt (Nat.lt_of_lt_of_le (by have := World.block_lt_of_cell? _ _ hx1055_0; first | rwa [add_block] at this | exact this) GW1054.out); replace hx1055_0 := ox HB hx1055_0; replace hx1055_1 := ox HB hx1055_1; replace hx1055_2 := ox HB hx1055_2; replace hx1055_3 := ox HB hx1055_3; replace hx1055_4 := ox HB hx1055_4; have HR1055_2 := Aside0.mk hi1055_2; have HC1055_2 := Aside0.mk hl1055_2; clear hi1055_2 hl1055_2; have HR1055_4 := Aside0.mk hi1055_4; have HC1055_4 := Aside0.mk hl1055_4; clear hi1055_4 hl1055_4; replace hx1055_0 := (cell_far (p := ⟨gb1054, 0, none⟩) (by first | (rw [add_block]; exact hn1055_0) | (show (Addr.add _ _).block ≠ _; rw [add_block]; exact hn1055_0) | exact hn1055_0) (.int .i64 t1050)).trans hx1055_0; replace hx1055_1 := (cell_far (p := ⟨gb1054, 0, none⟩) (by first | (rw [add_block]; exact hn1055_0) | (show (Addr.add _ _).block ≠ _; rw [add_block]; exact hn1055_0) | exact hn1055_0) (.int .i64 t1050)).trans hx1055_1; replace hx1055_2 := (cell_far (p := ⟨gb1054, 0, none⟩) (by first | (rw [add_block]; exact hn1055_0) | (show (Addr.add _ _).block ≠ _; rw [add_block]; exact hn1055_0) | exact hn1055_0) (.int .i64 t1050)).trans hx1055_2; replace hx1055_3 := (cell_far (p := ⟨gb1054, 0, none⟩) (by first | (rw [add_block]; exact hn1055_0) | (show (Addr.add _ _).block ≠ _; rw [add_block]; exact hn1055_0) | exact hn1055_0) (.int .i64 t1050)).trans hx1055_3; replace hx1055_4 := (cell_far (p := ⟨gb1054, 0, none⟩) (by first | (rw [add_block]; exact hn1055_0) | (show (Addr.add _ _).block ≠ _; rw [add_block]; exact hn1055_0) | exact hn1055_0) (.int .i64 t1050)).trans hx1055_4; replace hx1055_0 := (cell_far (p := ⟨gb1054, 1, none⟩) (by first | (rw [add_block]; exact hn1055_1) | (show (Addr.add _ _).block ≠ _; rw [add_block]; exact hn1055_1) | exact hn1055_1) (.int .i64 t1051)).trans hx1055_0; replace hx1055_1 := (cell_far (p := ⟨gb1054, 1, none⟩) (by first | (rw [add_block]; exact hn1055_1) | (show (Addr.add _ _).block ≠ _; rw [add_block]; exact hn1055_1) | exact hn1055_1) (.int .i64 t1051)).trans hx1055_1; replace hx1055_2 := (cell_far (p := ⟨gb1054, 1, none⟩) (by first | (rw [add_block]; exact hn1055_1) | (show (Addr.add _ _).block ≠ _; rw [add_block]; exact hn1055_1) | exact hn1055_1) (.int .i64 t1051)).trans hx1055_2; replace hx1055_3 := (cell_far (p := ⟨gb1054, 1, none⟩) (by first | (rw [add_block]; exact hn1055_1) | (show (Addr.add _ _).block ≠ _; rw [add_block]; exact hn1055_1) | exact hn1055_1) (.int .i64 t1051)).trans hx1055_3; replace hx1055_4 := (cell_far (p := ⟨gb1054, 1, none⟩) (by first | (rw [add_block]; exact hn1055_1) | (show (Addr.add _ _).block ≠ _; rw [add_block]; exact hn1055_1) | exact hn1055_1) (.int .i64 t1051)).trans hx1055_4; replace hx1055_0 := (cell_far (p := ⟨gb1054, 2, none⟩) (by first | (rw [add_block]; exact hn1055_2) | (show (Addr.add _ _).block ≠ _; rw [add_block]; exact hn1055_2) | exact hn1055_2) (.int .i64 t1052)).trans hx1055_0; replace hx1055_1 := (cell_far (p := ⟨gb1054, 2, none⟩) (by first | (rw [add_block]; exact hn1055_2) | (show (Addr.add _ _).block ≠ _; rw [add_block]; exact hn1055_2) | exact hn1055_2) (.int .i64 t1052)).trans hx1055_1; replace hx1055_2 := (cell_far (p := ⟨gb1054, 2, none⟩) (by first | (rw [add_block]; exact hn1055_2) | (show (Addr.add _ _).block ≠ _; rw [add_block]; exact hn1055_2) | exact hn1055_2) (.int .i64 t1052)).trans hx1055_2; replace hx1055_3 := (cell_far (p := ⟨gb1054, 2, none⟩) (by first | (rw [add_block]; exact hn1055_2) | (show (Addr.add _ _).block ≠ _; rw [add_block]; exact hn1055_2) | exact hn1055_2) (.int .i64 t1052)).trans hx1055_3; replace hx1055_4 := (cell_far (p := ⟨gb1054, 2, none⟩) (by first | (rw [add_block]; exact hn1055_2) | (show (Addr.add _ _).block ≠ _; rw [add_block]; exact hn1055_2) | exact hn1055_2) (.int .i64 t1052)).trans hx1055_4; (try have hy1055_0 := fun (n_ : Nat) => (show (((((w38.drewN n_).setCell ⟨gb1054, 0, none⟩ (.int .i64 t1050)).setCell ⟨gb1054, 1, none⟩ (.int .i64 t1051)).setCell ⟨gb1054, 2, none⟩ (.int .i64 t1052))).cell? _ = some _ from hx1055_0)); (try have hy1055_1 := fun (n_ : Nat) => (show (((((w38.drewN n_).setCell ⟨gb1054, 0, none⟩ (.int .i64 t1050)).setCell ⟨gb1054, 1, none⟩ (.int .i64 t1051)).setCell ⟨gb1054, 2, none⟩ (.int .i64 t1052))).cell? _ = some _ from hx1055_1)); (try have hy1055_2 := fun (n_ : Nat) => (show (((((w38.drewN n_).setCell ⟨gb1054, 0, none⟩ (.int .i64 t1050)).setCell ⟨gb1054, 1, none⟩ (.int .i64 t1051)).setCell ⟨gb1054, 2, none⟩ (.int .i64 t1052))).cell? _ = some _ from hx1055_2)); (try have hy1055_3 := fun (n_ : Nat) => (show (((((w38.drewN n_).setCell ⟨gb1054, 0, none⟩ (.int .i64 t1050)).setCell ⟨gb1054, 1, none⟩ (.int .i64 t1051)).setCell ⟨gb1054, 2, none⟩ (.int .i64 t1052))).cell? _ = some _ from hx1055_3)); (try have hy1055_4 := fun (n_ : Nat) => (show (((((w38.drewN n_).setCell ⟨gb1054, 0, none⟩ (.int .i64 t1050)).setCell ⟨gb1054, 1, none⟩ (.int .i64 t1051)).setCell ⟨gb1054, 2, none⟩ (.int .i64 t1052))).cell? _ = some _ from hx1055_4)); clear hn1055_0; clear hn1055_1; clear hn1055_2; replace p1055 := eq_true p1055; replace q1055 := eq_true q1055)))
       go_roundg k3
       case measure => have := HJ1.out; have := HK2.out; have := HK3.out; omega
       case rel => exact ⟨(wrap64 (x4_3 + 1)), rsd, H', ⟨by have := HJ1.out; have := HK2.out; have := HK3.out; omega⟩, ⟨bf BK1042⟩, ⟨tb HB⟩⟩
def impl_WordOk.f (a0_0 : Int) (a0_1 : Int) (a0_2 : Int) (a1 : Int) : Option (Bool) := if a0_1 = 0 then ((impl_isWordNum.f a0_0).bind fun t1107 => (if t1107 = true then (some (a0_2 == 0)) else (some false))) else (if a0_0 = 0 then ((impl_from.f a0_1 1 a1).bind fun t1108 => (if t1108 = true then ((impl_from.f a0_2 1 1000000).bind fun t1109 => (some t1109)) else (some false))) else (some false))
set_option maxHeartbeats 8000000 in
set_option maxRecDepth 100000 in
theorem impl_WordOk.calls (a0_0 : Int) (a0_1 : Int) (a0_2 : Int) (a1 : Int) (r : Bool) (w : World) (h : impl_WordOk.f a0_0 a0_1 a0_2 a1 = some r) :
  Calls Try.prog 183 #[.agg #[.int .i64 a0_0, .int .i64 a0_1, .int .i64 a0_2], .int .i64 a1] w fun e w' => e = .returned (.bool r) ∧ Below w.heap.size w w' := by
 have hu141 := Try.underlying141
 have HB := Aside0.mk (Below.refl w.heap.size w)
 have H := h
 clear h
 unfold impl_WordOk.f at H
 by_cases c3 : a0_1 = 0
 case pos =>
  rw [if_pos c3] at H
  have c3b0 : (a0_1 == 0) = true := beq_iff_eq.mpr c3
  have c3b1 : (a0_1 != 0) = false := bne_eq_false_iff_eq.mpr c3
  clear c3
  obtain ⟨t1107, A4, H⟩ := bn H
  try dsimp only at H
  cases t1107
  case true =>
   replace H := ipt H
   obtain rfl := oin H
   go_enter Try.func183, Try.ntmps183
   go_wp2_with (first | ((with_reducible refine gq 2 rfl ?_); refine bx0 HB (N := 2) (t := 141) ?_; clear HB; intro gb1106 w6 BK1106 GE1106 HB; have hz7 := cs3_ BK1106) | ((with_reducible refine gf 89 rfl ?_); refine gL 10 Try.func89 #[.int .i64 a0_0] ?_; (with_reducible refine (impl_isWordNum.calls a0_0 true _ A4.out).mono ?_); rintro e w' ⟨rfl, ⟨nd, rfl⟩⟩; refine ⟨_, rfl, ?_⟩))
   go_ret
   exact ⟨er, tb HB⟩
  replace H := ipf H
  obtain rfl := oin H
  go_enter Try.func183, Try.ntmps183
  go_wp2_with (first | ((with_reducible refine gq 2 rfl ?_); refine bx0 HB (N := 2) (t := 141) ?_; clear HB; intro gb1106 w8 BK1106 GE1106 HB; have hz9 := cs3_ BK1106) | ((with_reducible refine gf 89 rfl ?_); refine gL 10 Try.func89 #[.int .i64 a0_0] ?_; (with_reducible refine (impl_isWordNum.calls a0_0 false _ A4.out).mono ?_); rintro e w' ⟨rfl, ⟨nd, rfl⟩⟩; refine ⟨_, rfl, ?_⟩))
  go_ret
  exact ⟨er, tb HB⟩
 rw [if_neg c3] at H
 have c3b0 : (a0_1 == 0) = false := beq_eq_false_iff_ne.mpr c3
 have c3b1 : (a0_1 != 0) = true := bne_iff_ne.mpr c3
 by_cases c10 : a0_0 = 0
 case neg =>
  rw [if_neg c10] at H
  have c10b0 : (a0_0 == 0) = false := beq_eq_false_iff_ne.mpr c10
  have c10b1 : (a0_0 != 0) = true := bne_iff_ne.mpr c10
  obtain rfl := oin H
  go_enter Try.func183, Try.ntmps183
  go_wp2_with (first | ((with_reducible refine gq 2 rfl ?_); refine bx0 HB (N := 2) (t := 141) ?_; clear HB; intro gb1106 w18 BK1106 GE1106 HB; have hz19 := cs3_ BK1106))
  go_ret
  exact ⟨er, tb HB⟩
 
 
 rw [if_pos c10] at H
 have c10b0 : (a0_0 == 0) = true := beq_iff_eq.mpr c10
 have c10b1 : (a0_0 != 0) = false := bne_eq_false_iff_eq.mpr c10
 clear c10
 obtain ⟨t1108, A11, H⟩ := bn H
 try dsimp only at H
 cases t1108
 case false =>
  replace H := ipf H
  obtain rfl := oin H
  go_enter Try.func183, Try.ntmps183
  go_wp2_with (first | ((with_reducible refine gq 2 rfl ?_); refine bx0 HB (N := 2) (t := 141) ?_; clear HB; intro gb1106 w16 BK1106 GE1106 HB; have hz17 := cs3_ BK1106) | (go_at_call 85; (with_reducible refine (impl_from.calls a0_1 1 a1 false _ A11.out).mono ?_); rintro e w' ⟨rfl, ⟨nd, rfl⟩⟩))
  go_ret
  exact ⟨er, tb HB⟩
 replace H := ipt H
 obtain ⟨t1109, A13, H⟩ := bn H
 try dsimp only at H
 obtain rfl := oin H
 go_enter Try.func183, Try.ntmps183
 go_wp2_with (first | ((with_reducible refine gq 2 rfl ?_); refine bx0 HB (N := 2) (t := 141) ?_; clear HB; intro gb1106 w14 BK1106 GE1106 HB; have hz15 := cs3_ BK1106) | (go_at_call 85; (with_reducible refine (impl_from.calls a0_1 1 a1 true _ A11.out).mono ?_); rintro e w' ⟨rfl, ⟨nd, rfl⟩⟩) | (go_at_call 85; (with_reducible refine (impl_from.calls a0_2 1 1000000 t1109 _ A13.out).mono ?_); rintro e w' ⟨rfl, ⟨nd, rfl⟩⟩))
 go_ret
 exact ⟨er, tb HB⟩
end Go.Proofs.Ytopikhjcbcpiaaa.Q
section
namespace Go.Proofs.Ytopikhjcbcpiaaa.Q
open Go.RowKit Go.Proofs.YtopikhjcbcpiaaaW.PrintWords Go.Proofs.YtopikhjcbcpiaaaX
theorem eqWord_self (x : S141) : laws_eqWord.f x.f0 x.f1 x.f2 x.f0 x.f1 x.f2 = some true := by
  simp [laws_eqWord.f]
theorem ev_eqWordS (l : List S141) (hl : l.length ≤ 1048576) : Ev (fun k => laws_eqWordS.f k l l) true := by
  unfold laws_eqWordS.f
  refine ev_pos rfl ?_
  refine ev_down (g := fun k i => laws_eqWordS.l0 k l l i) (R := fun _ => true) (n := l.length) ?_ 0 (by omega)
  intro i hi h
  by_cases hlt : i < l.length
  · refine Ev.step (fun k => ?_) (h hlt)
    simp only [laws_eqWordS.l0, eqWord_self, Option.bind_some]
    rw [if_pos (by omega), if_pos (by omega), if_pos (by omega), if_pos trivial, wrap_succ hlt (by omega)]
  · refine ev_succ (fun k => ?_)
    simp only [laws_eqWordS.l0]
    rw [if_neg (by omega)]
theorem eqEntry_self (x : S166) : laws_eqEntry.f x.f0 x.f1 x.f2 x.f0 x.f1 x.f2 = some true := by
  simp [laws_eqEntry.f]
theorem ev_eqEntryS (l : List S166) (hl : l.length ≤ 1048576) : Ev (fun k => laws_eqEntryS.f k l l) true := by
  unfold laws_eqEntryS.f
  refine ev_pos rfl ?_
  refine ev_down (g := fun k i => laws_eqEntryS.l0 k l l i) (R := fun _ => true) (n := l.length) ?_ 0 (by omega)
  intro i hi h
  by_cases hlt : i < l.length
  · refine Ev.step (fun k => ?_) (h hlt)
    simp only [laws_eqEntryS.l0, eqEntry_self, Option.bind_some]
    rw [if_pos (by omega), if_pos (by omega), if_pos (by omega), if_pos trivial, wrap_succ hlt (by omega)]
  · refine ev_succ (fun k => ?_)
    simp only [laws_eqEntryS.l0]
    rw [if_neg (by omega)]
end Go.Proofs.Ytopikhjcbcpiaaa.Q
end
namespace Go.Proofs.Ytopikhjcbcpiaaa.Q
open Go.RowKit Go.Proofs.YtopikhjcbcpiaaaW.PrintWords Go.Proofs.YtopikhjcbcpiaaaW.PrintLast Go.Proofs.YtopikhjcbcpiaaaW.PrintMore
attribute [local go_sem] max2_int min2_int max_two min_two max_three min_three max_four min_four   -- for this text's walks alone
set_option linter.unusedVariables false
set_option linter.unusedSimpArgs false
def laws_szDesc.f (a0_0 : Int) (a0_1 : Int) (l0_2 : List (S168)) (a0_3 : Int) (l0_4 : List Int) (a1 : Int) : Option (Int) := (laws_szEntryS.f l0_2 a1).bind fun t295 => (if t295 < 0 then (some (-1)) else ((laws_szRes.f a0_3 l0_4 t295).bind fun t296 => (if t296 < 0 then (some (-1)) else (some t296))))
set_option maxHeartbeats 8000000 in
set_option maxRecDepth 100000 in
theorem laws_szDesc.calls (a0_0 : Int) (a0_1 : Int) (A0_2 : Option Addr) (c0_2 : Nat) (l0_2 : List (S168)) (a0_3 : Int) (A0_4 : Option Addr) (c0_4 : Nat) (l0_4 : List Int) (a1 : Int) (r : Int) (w : World) (hr0_2 : Kd.C k168 w A0_2 l0_2.length l0_2) (hc0_2 : l0_2.length ≤ c0_2) (hr0_4 : Kd.C (Kd.int .i64) w A0_4 l0_4.length l0_4) (hc0_4 : l0_4.length ≤ c0_4) (h : laws_szDesc.f a0_0 a0_1 l0_2 a0_3 l0_4 a1 = some r) :
  Calls Try.prog 95 #[.agg #[.int .i64 a0_0, .int .i64 a0_1, .slice A0_2 l0_2.length c0_2, .int .i64 a0_3, .slice A0_4 l0_4.length c0_4], .int .i64 a1] w fun e w' => e = .returned (.int .i64 r) ∧ Below w.heap.size w w' := by
 have hu138 := Try.underlying138
 have hu62 := Try.underlying62
 have HR0_2 := Aside0.mk hr0_2
 have HC0_2 := Aside0.mk hc0_2
 clear hr0_2 hc0_2
 have HR0_4 := Aside0.mk hr0_4
 have HC0_4 := Aside0.mk hc0_4
 clear hr0_4 hc0_4
 have HB := Aside0.mk (Below.refl w.heap.size w)
 have H := h
 clear h
 unfold laws_szDesc.f at H
 obtain ⟨t295, A3, H⟩ := bn H
 try dsimp only at H
 revert H; refine icd (fun c4b0 H => ?pos) fun c4b0 H => ?_
 case pos =>
  obtain rfl := oin H
  go_enter Try.func95, Try.ntmps95
  go_wp2_with (first | ((with_reducible refine gq 2 rfl ?_); refine bx0 HB (N := 2) (t := 138) ?_; clear HB; intro gb294 w5 BK294 GE294 HB; have hz6 := cs5_ BK294) | ((with_reducible refine gf 62 rfl ?_); refine gL 8 Try.func62 #[.slice A0_2 l0_2.length c0_2, .int .i64 a1] ?_; (with_reducible refine (laws_szEntryS.calls _ _ l0_2 a1 t295 _ (kc HR0_2 HB) HC0_2.out A3.out).mono ?_); rintro e w' ⟨rfl, ⟨nd, rfl⟩⟩; refine ⟨_, rfl, ?_⟩))
  go_ret
  exact ⟨er, tb HB⟩
 obtain ⟨t296, A7, H⟩ := bn H
 try dsimp only at H
 revert H; refine icd (fun c8b0 H => ?pos) fun c8b0 H => ?_
 case pos =>
  obtain rfl := oin H
  go_enter Try.func95, Try.ntmps95
  go_wp2_with (first | ((with_reducible refine gq 2 rfl ?_); refine bx0 HB (N := 2) (t := 138) ?_; clear HB; intro gb294 w9 BK294 GE294 HB; have hz10 := cs5_ BK294) | ((with_reducible refine gf 62 rfl ?_); refine gL 8 Try.func62 #[.slice A0_2 l0_2.length c0_2, .int .i64 a1] ?_; (with_reducible refine (laws_szEntryS.calls _ _ l0_2 a1 t295 _ (kc HR0_2 HB) HC0_2.out A3.out).mono ?_); rintro e w' ⟨rfl, ⟨nd, rfl⟩⟩; refine ⟨_, rfl, ?_⟩) | ((with_reducible refine gf 33 rfl ?_); refine gL 14 Try.func33 #[.agg #[.int .i64 a0_3, .slice A0_4 l0_4.length c0_4], .int .i64 t295] ?_; (with_reducible refine (laws_szRes.calls a0_3 _ _ l0_4 t295 t296 _ ?side1 HC0_4.out A7.out).mono ?_); (case side1 => repeat (first | exact (Kd.C_below HR0_4.out (tb HB)) | (with_reducible refine Kd.C_alloc ?_ _) | (with_reducible refine Kd.C_drewN ?_ _) | (with_reducible refine Kd.C_drew ?_))); rintro e w11 ⟨rfl, hb⟩; refine ⟨_, rfl, ?_⟩; replace BK294 := bb BK294 hb; replace HB := bs HB hb; (try clear hb)))
  go_ret
  exact ⟨er, tb HB⟩
 obtain rfl := oin H
 go_enter Try.func95, Try.ntmps95
 go_wp2_with (first | ((with_reducible refine gq 2 rfl ?_); refine bx0 HB (N := 2) (t := 138) ?_; clear HB; intro gb294 w12 BK294 GE294 HB; have hz13 := cs5_ BK294) | ((with_reducible refine gf 62 rfl ?_); refine gL 8 Try.func62 #[.slice A0_2 l0_2.length c0_2, .int .i64 a1] ?_; (with_reducible refine (laws_szEntryS.calls _ _ l0_2 a1 t295 _ (kc HR0_2 HB) HC0_2.out A3.out).mono ?_); rintro e w' ⟨rfl, ⟨nd, rfl⟩⟩; refine ⟨_, rfl, ?_⟩) | ((with_reducible refine gf 33 rfl ?_); refine gL 14 Try.func33 #[.agg #[.int .i64 a0_3, .slice A0_4 l0_4.length c0_4], .int .i64 t295] ?_; (with_reducible refine (laws_szRes.calls a0_3 _ _ l0_4 t295 t296 _ ?side1 HC0_4.out A7.out).mono ?_); (case side1 => repeat (first | exact (Kd.C_below HR0_4.out (tb HB)) | (with_reducible refine Kd.C_alloc ?_ _) | (with_reducible refine Kd.C_drewN ?_ _) | (with_reducible refine Kd.C_drew ?_))); rintro e w14 ⟨rfl, hb⟩; refine ⟨_, rfl, ?_⟩; replace BK294 := bb BK294 hb; replace HB := bs HB hb; (try clear hb)))
 go_ret
 exact ⟨er, tb HB⟩
def laws_toDesc.f (k : Nat) (a0_0 : Int) (a0_1 : Int) (l0_2 : List (S168)) (a0_3 : Int) (l0_4 : List Int) : Option (Int × Int × (List (S166)) × Int × List Int) := (laws_toEntryS.f k l0_2).bind fun t352 => ((laws_toRes.f k a0_3 l0_4).bind fun bt355 => (some (a0_0, a0_1, t352, bt355.1, bt355.2)))
set_option maxHeartbeats 8000000 in
set_option maxRecDepth 100000 in
theorem laws_toDesc.calls (k : Nat) (a0_0 : Int) (a0_1 : Int) (A0_2 : Option Addr) (c0_2 : Nat) (l0_2 : List (S168)) (a0_3 : Int) (A0_4 : Option Addr) (c0_4 : Nat) (l0_4 : List Int) (r1 : Int) (r2 : Int) (r3 : List (S166)) (r4 : Int) (r5 : List Int) (w : World) (hr0_2 : Kd.C k168 w A0_2 l0_2.length l0_2) (hc0_2 : l0_2.length ≤ c0_2) (hr0_4 : Kd.C (Kd.int .i64) w A0_4 l0_4.length l0_4) (hc0_4 : l0_4.length ≤ c0_4) (h : laws_toDesc.f k a0_0 a0_1 l0_2 a0_3 l0_4 = some (r1, r2, r3, r4, r5)) :
  Calls Try.prog 98 #[.agg #[.int .i64 a0_0, .int .i64 a0_1, .slice A0_2 l0_2.length c0_2, .int .i64 a0_3, .slice A0_4 l0_4.length c0_4]] w fun e w' => ∃ v2_ v4_ : Value, e = .returned (.agg #[.int .i64 r1, .int .i64 r2, v2_, .int .i64 r4, v4_]) ∧ Kd.R k166 166 w' w.heap.size (fun _ => True) v2_ r3 ∧ Kd.R (Kd.int .i64) 3 w' w.heap.size (fun _ => True) v4_ r5 ∧ Below w.heap.size w w' := by
 have hu138 := Try.underlying138
 have hu145 := Try.underlying145
 have hu62 := Try.underlying62
 have hu70 := Try.underlying70
 have HR0_2 := Aside0.mk hr0_2
 have HC0_2 := Aside0.mk hc0_2
 clear hr0_2 hc0_2
 have HR0_4 := Aside0.mk hr0_4
 have HC0_4 := Aside0.mk hc0_4
 clear hr0_4 hc0_4
 have HB := Aside0.mk (Below.refl w.heap.size w)
 have H := h
 clear h
 unfold laws_toDesc.f at H
 obtain ⟨t352, A2, H⟩ := bn H
 try dsimp only at H
 obtain ⟨⟨t355, t356⟩, A3, H⟩ := bn H
 try dsimp only at H
 simp only [Option.some.injEq, Prod.mk.injEq] at H
 obtain ⟨rfl, rfl, rfl, rfl, rfl⟩ := H
 go_enter Try.func98, Try.ntmps98
 go_wp2_with (first | ((with_reducible refine gq 1 rfl ?_); refine bx0 HB (N := 1) (t := 138) ?_; clear HB; intro gb349 w4 BK349 GE349 HB) | ((with_reducible refine gq 2 rfl ?_); refine bx1 HB BK349 (N := 2) (cs := #[.int .i64 0, .int .i64 0, .slice none 0 0, .int .i64 0, .slice none 0 0]) (t := 145) ?_; clear HB BK349; intro gb350 w5 BK350 GE350 HB NB349_350 NB350_349 BK349) | ((with_reducible refine gq 3 rfl ?_); refine bx2 HB BK349 BK350 (N := 3) (cs := #[.int .i64 0, .int .i64 0, .slice none 0 0, .int .i64 0, .slice none 0 0]) (t := 145) ?_; clear HB BK349 BK350; intro gb351 w6 BK351 GE351 HB NB349_351 NB351_349 BK349 NB350_351 NB351_350 BK350; have hnb7 := NB349_350.out; have hnc7 := NB350_349.out; have hnb8 := NB349_351.out; have hnc8 := NB351_349.out; have hz9 := cs5_ BK349; have hnb10 := NB351_350.out; have hnc10 := NB350_351.out; have hz11 := cs5_ BK351) | ((with_reducible refine gf 65 rfl ?_); refine gL 12 Try.func65 #[.slice A0_2 l0_2.length c0_2] ?_; (with_reducible refine (laws_toEntryS.calls k _ _ l0_2 t352 _ ?side1 HC0_2.out A2.out).mono ?_); (case side1 => exact Kd.C_below HR0_2.out (tb HB)); rintro e w12 ⟨v353, rfl, ho0, hb⟩; refine ⟨_, rfl, ?_⟩; have HO354 := Aside0.mk (Kd.R_lower ho0 (below_size (tb HB))); replace BK349 := bbf BK349 hb; replace BK350 := bbf BK350 hb; replace BK351 := Aside0.mk (blk_below (g := gb351) (o := .cells #[.int .i64 a0_0, .int .i64 a0_1, .slice none 0 0, .int .i64 0, .slice none 0 0] 145 (0, 0)) (by (with_reducible repeat (first | refine blk_drewN ?_ _ | refine blk_drew ?_ | refine blk_alloc ?_ _)); refine blk_put (cs := #[.int .i64 a0_0, .int .i64 0, .slice none 0 0, .int .i64 0, .slice none 0 0]) ?_ 1 _ rfl; (with_reducible repeat (first | refine blk_drewN ?_ _ | refine blk_drew ?_ | refine blk_alloc ?_ _)); refine blk_put (cs := #[.int .i64 0, .int .i64 0, .slice none 0 0, .int .i64 0, .slice none 0 0]) ?_ 0 _ rfl; (with_reducible repeat (first | refine blk_drewN ?_ _ | refine blk_drew ?_ | refine blk_alloc ?_ _)); exact BK351.out) hb); replace HB := bs HB hb; (try clear hb); (try clear ho0); obtain ⟨Ao13, co13, eo13⟩ := Kd.R_slice HO354.out; subst eo13; have hz14 := cs5_ BK351; have hz15 := cs5_ BK349) | ((with_reducible refine gf 37 rfl ?_); refine gL 16 Try.func37 #[.agg #[.int .i64 a0_3, .slice A0_4 l0_4.length c0_4]] ?_; (with_reducible refine (laws_toRes.calls k a0_3 _ _ l0_4 t355 t356 _ ?side1 HC0_4.out A3.out).mono ?_); (case side1 => exact Kd.C_below HR0_4.out (tb HB)); rintro e w16 ⟨v357, rfl, ho0, hb⟩; refine ⟨_, rfl, ?_⟩; replace HO354 := Aside0.mk (Kd.R_below (kr ((Kd.R_mono (Kd.R_far (p := ⟨gb351, 2, none⟩) (Kd.R_types HO354.out BK351.out (by decide)) (fun _ hk => hk.2) (.slice Ao13 t352.length co13)) (fun _ h_ => h_.1)))) hb); have HO358 := Aside0.mk (Kd.R_lower ho0 (below_size (tb HB))); replace BK349 := bbf BK349 hb; replace BK350 := bbf BK350 hb; replace BK351 := Aside0.mk (blk_below (g := gb351) (o := .cells #[.int .i64 a0_0, .int .i64 a0_1, .slice Ao13 t352.length co13, .int .i64 0, .slice none 0 0] 145 (0, 0)) (by (with_reducible repeat (first | refine blk_drewN ?_ _ | refine blk_drew ?_ | refine blk_alloc ?_ _)); refine blk_put (cs := #[.int .i64 a0_0, .int .i64 a0_1, .slice none 0 0, .int .i64 0, .slice none 0 0]) ?_ 2 _ rfl; (with_reducible repeat (first | refine blk_drewN ?_ _ | refine blk_drew ?_ | refine blk_alloc ?_ _)); exact BK351.out) hb); replace HB := bs HB hb; (try clear hb); (try clear hk); (try clear ho0); have hz17 := cs5_ BK351; obtain ⟨Ao18, co18, eo18⟩ := Kd.R_slice HO358.out; subst eo18; have hz19 := cs5_ BK350))
 refine bodyPost_ret (results_cell_row rfl _ _ gb350 145 #[.int .i64 a0_0, .int .i64 a0_1, .slice Ao13 t352.length co13, .int .i64 t355, .slice Ao18 t356.length co18] (0, 0) _ rfl (bfp5 BK350) Try.underlying145 rfl (by kernel_rfl)) rfl ?_
 exact ⟨_, _, er, by (with_reducible repeat (first | apply Kd.R_alloc | apply Kd.R_drewN | apply Kd.R_drew)); exact Kd.R_mono (Kd.R_far (p := ⟨gb350, 4, none⟩) (Kd.R_far (p := ⟨gb350, 3, none⟩) (Kd.R_far (p := ⟨gb350, 2, none⟩) (Kd.R_far (p := ⟨gb350, 1, none⟩) (Kd.R_far (p := ⟨gb350, 0, none⟩) (Kd.R_far (p := ⟨gb351, 4, none⟩) (Kd.R_far (p := ⟨gb351, 3, none⟩) (Kd.R_types (Kd.R_types HO354.out BK351.out (by decide)) BK350.out (by decide)) (fun _ hk => hk.1.2) (.int .i64 t355)) (fun _ hk => hk.1.2) (.slice Ao18 t356.length co18)) (fun _ hk => hk.2) (.int .i64 a0_0)) (fun _ hk => hk.2) (.int .i64 a0_1)) (fun _ hk => hk.2) (.slice Ao13 t352.length co13)) (fun _ hk => hk.2) (.int .i64 t355)) (fun _ hk => hk.2) (.slice Ao18 t356.length co18)) (fun _ hk => trivial), by (with_reducible repeat (first | apply Kd.R_alloc | apply Kd.R_drewN | apply Kd.R_drew)); exact Kd.R_mono (Kd.R_far (p := ⟨gb350, 4, none⟩) (Kd.R_far (p := ⟨gb350, 3, none⟩) (Kd.R_far (p := ⟨gb350, 2, none⟩) (Kd.R_far (p := ⟨gb350, 1, none⟩) (Kd.R_far (p := ⟨gb350, 0, none⟩) (Kd.R_far (p := ⟨gb351, 4, none⟩) (Kd.R_far (p := ⟨gb351, 3, none⟩) (Kd.R_types (Kd.R_types HO358.out BK351.out (by decide)) BK350.out (by decide)) (fun _ hk => hk.1.2) (.int .i64 t355)) (fun _ hk => hk.1.2) (.slice Ao18 t356.length co18)) (fun _ hk => hk.2) (.int .i64 a0_0)) (fun _ hk => hk.2) (.int .i64 a0_1)) (fun _ hk => hk.2) (.slice Ao13 t352.length co13)) (fun _ hk => hk.2) (.int .i64 t355)) (fun _ hk => hk.2) (.slice Ao18 t356.length co18)) (fun _ hk => trivial), tb HB⟩
def laws_eqDesc.f (k : Nat) (a0_0 : Int) (a0_1 : Int) (l0_2 : List (S166)) (a0_3 : Int) (l0_4 : List Int) (a1_0 : Int) (a1_1 : Int) (l1_2 : List (S166)) (a1_3 : Int) (l1_4 : List Int) : Option (Bool) := if a0_0 = a1_0 then (if a0_1 = a1_1 then ((laws_eqEntryS.f k l0_2 l1_2).bind fun t410 => (if t410 = true then ((laws_eqRes.f k a0_3 l0_4 a1_3 l1_4).bind fun t411 => (if t411 = true then (some true) else (some false))) else (some false))) else (some false)) else (some false)
set_option maxHeartbeats 8000000 in
set_option maxRecDepth 100000 in
theorem laws_eqDesc.calls (k : Nat) (a0_0 : Int) (a0_1 : Int) (A0_2 : Option Addr) (c0_2 : Nat) (l0_2 : List (S166)) (a0_3 : Int) (A0_4 : Option Addr) (c0_4 : Nat) (l0_4 : List Int) (a1_0 : Int) (a1_1 : Int) (A1_2 : Option Addr) (c1_2 : Nat) (l1_2 : List (S166)) (a1_3 : Int) (A1_4 : Option Addr) (c1_4 : Nat) (l1_4 : List Int) (r : Bool) (w : World) (hr0_2 : Kd.C k166 w A0_2 l0_2.length l0_2) (hc0_2 : l0_2.length ≤ c0_2) (hr0_4 : Kd.C (Kd.int .i64) w A0_4 l0_4.length l0_4) (hc0_4 : l0_4.length ≤ c0_4) (hr1_2 : Kd.C k166 w A1_2 l1_2.length l1_2) (hc1_2 : l1_2.length ≤ c1_2) (hr1_4 : Kd.C (Kd.int .i64) w A1_4 l1_4.length l1_4) (hc1_4 : l1_4.length ≤ c1_4) (h : laws_eqDesc.f k a0_0 a0_1 l0_2 a0_3 l0_4 a1_0 a1_1 l1_2 a1_3 l1_4 = some r) :
  Calls Try.prog 101 #[.agg #[.int .i64 a0_0, .int .i64 a0_1, .slice A0_2 l0_2.length c0_2, .int .i64 a0_3, .slice A0_4 l0_4.length c0_4], .agg #[.int .i64 a1_0, .int .i64 a1_1, .slice A1_2 l1_2.length c1_2, .int .i64 a1_3, .slice A1_4 l1_4.length c1_4]] w fun e w' => e = .returned (.bool r) ∧ Below w.heap.size w w' := by
 have hu145 := Try.underlying145
 have hu70 := Try.underlying70
 have HR0_2 := Aside0.mk hr0_2
 have HC0_2 := Aside0.mk hc0_2
 clear hr0_2 hc0_2
 have HR0_4 := Aside0.mk hr0_4
 have HC0_4 := Aside0.mk hc0_4
 clear hr0_4 hc0_4
 have HR1_2 := Aside0.mk hr1_2
 have HC1_2 := Aside0.mk hc1_2
 clear hr1_2 hc1_2
 have HR1_4 := Aside0.mk hr1_4
 have HC1_4 := Aside0.mk hc1_4
 clear hr1_4 hc1_4
 have HB := Aside0.mk (Below.refl w.heap.size w)
 have H := h
 clear h
 unfold laws_eqDesc.f at H
 by_cases c3 : a0_0 = a1_0
 case neg =>
  rw [if_neg c3] at H
  have c3b0 : (a0_0 == a1_0) = false := beq_eq_false_iff_ne.mpr c3
  have c3b1 : (a0_0 != a1_0) = true := bne_iff_ne.mpr c3
  obtain rfl := oin H
  go_enter Try.func101, Try.ntmps101
  go_wp2_with (first | ((with_reducible refine gq 2 rfl ?_); refine bx0 HB (N := 2) (t := 145) ?_; clear HB; intro gb408 w38 BK408 GE408 HB) | ((with_reducible refine gq 3 rfl ?_); refine bx1 HB BK408 (N := 3) (t := 145) ?_; clear HB BK408; intro gb409 w39 BK409 GE409 HB NB408_409 NB409_408 BK408; have hnb40 := NB408_409.out; have hnc40 := NB409_408.out; have hz41 := cs5_ BK408; have hz42 := cs5_ BK409))
  go_ret
  exact ⟨er, tb HB⟩
 
 
 rw [if_pos c3] at H
 have c3b0 : (a0_0 == a1_0) = true := beq_iff_eq.mpr c3
 have c3b1 : (a0_0 != a1_0) = false := bne_eq_false_iff_eq.mpr c3
 clear c3
 by_cases c4 : a0_1 = a1_1
 case neg =>
  rw [if_neg c4] at H
  have c4b0 : (a0_1 == a1_1) = false := beq_eq_false_iff_ne.mpr c4
  have c4b1 : (a0_1 != a1_1) = true := bne_iff_ne.mpr c4
  obtain rfl := oin H
  go_enter Try.func101, Try.ntmps101
  go_wp2_with (first | ((with_reducible refine gq 2 rfl ?_); refine bx0 HB (N := 2) (t := 145) ?_; clear HB; intro gb408 w33 BK408 GE408 HB) | ((with_reducible refine gq 3 rfl ?_); refine bx1 HB BK408 (N := 3) (t := 145) ?_; clear HB BK408; intro gb409 w34 BK409 GE409 HB NB408_409 NB409_408 BK408; have hnb35 := NB408_409.out; have hnc35 := NB409_408.out; have hz36 := cs5_ BK408; have hz37 := cs5_ BK409))
  go_ret
  exact ⟨er, tb HB⟩
 rw [if_pos c4] at H
 have c4b0 : (a0_1 == a1_1) = true := beq_iff_eq.mpr c4
 have c4b1 : (a0_1 != a1_1) = false := bne_eq_false_iff_eq.mpr c4
 clear c4
 obtain ⟨t410, A5, H⟩ := bn H
 try dsimp only at H
 cases t410
 case false =>
  replace H := ipf H
  obtain rfl := oin H
  go_enter Try.func101, Try.ntmps101
  go_wp2_with (first | ((with_reducible refine gq 2 rfl ?_); refine bx0 HB (N := 2) (t := 145) ?_; clear HB; intro gb408 w27 BK408 GE408 HB) | ((with_reducible refine gq 3 rfl ?_); refine bx1 HB BK408 (N := 3) (t := 145) ?_; clear HB BK408; intro gb409 w28 BK409 GE409 HB NB408_409 NB409_408 BK408; have hnb29 := NB408_409.out; have hnc29 := NB409_408.out; have hz30 := cs5_ BK408; have hz31 := cs5_ BK409) | ((with_reducible refine gf 68 rfl ?_); refine gL 19 Try.func68 #[.slice A0_2 l0_2.length c0_2, .slice A1_2 l1_2.length c1_2] ?_; (with_reducible refine (laws_eqEntryS.calls k _ _ l0_2 _ _ l1_2 false _ (kc HR0_2 HB) HC0_2.out (kc HR1_2 HB) HC1_2.out A5.out).mono ?_); rintro e w32 ⟨rfl, hb⟩; refine ⟨_, rfl, ?_⟩; replace BK408 := bb BK408 hb; replace BK409 := bb BK409 hb; replace HB := bs HB hb; (try clear hb)))
  go_ret
  exact ⟨er, tb HB⟩
 replace H := ipt H
 obtain ⟨t411, A7, H⟩ := bn H
 try dsimp only at H
 cases t411
 case true =>
  replace H := ipt H
  obtain rfl := oin H
  go_enter Try.func101, Try.ntmps101
  go_wp2_with (first | ((with_reducible refine gq 2 rfl ?_); refine bx0 HB (N := 2) (t := 145) ?_; clear HB; intro gb408 w9 BK408 GE408 HB) | ((with_reducible refine gq 3 rfl ?_); refine bx1 HB BK408 (N := 3) (t := 145) ?_; clear HB BK408; intro gb409 w10 BK409 GE409 HB NB408_409 NB409_408 BK408; have hnb11 := NB408_409.out; have hnc11 := NB409_408.out; have hz12 := cs5_ BK408; have hz13 := cs5_ BK409) | ((with_reducible refine gf 68 rfl ?_); refine gL 19 Try.func68 #[.slice A0_2 l0_2.length c0_2, .slice A1_2 l1_2.length c1_2] ?_; (with_reducible refine (laws_eqEntryS.calls k _ _ l0_2 _ _ l1_2 true _ (kc HR0_2 HB) HC0_2.out (kc HR1_2 HB) HC1_2.out A5.out).mono ?_); rintro e w14 ⟨rfl, hb⟩; refine ⟨_, rfl, ?_⟩; replace BK408 := bb BK408 hb; replace BK409 := bb BK409 hb; replace HB := bs HB hb; (try clear hb); have hz15 := cs5_ BK408; have hz16 := cs5_ BK409) | ((with_reducible refine gf 40 rfl ?_); refine gL 25 Try.func40 #[.agg #[.int .i64 a0_3, .slice A0_4 l0_4.length c0_4], .agg #[.int .i64 a1_3, .slice A1_4 l1_4.length c1_4]] ?_; (with_reducible refine (laws_eqRes.calls k a0_3 _ _ l0_4 a1_3 _ _ l1_4 true _ (kc HR0_4 HB) HC0_4.out (kc HR1_4 HB) HC1_4.out A7.out).mono ?_); rintro e w17 ⟨rfl, hb⟩; refine ⟨_, rfl, ?_⟩; replace BK408 := bb BK408 hb; replace BK409 := bb BK409 hb; replace HB := bs HB hb; (try clear hb)))
  go_ret
  exact ⟨er, tb HB⟩
 replace H := ipf H
 obtain rfl := oin H
 go_enter Try.func101, Try.ntmps101
 go_wp2_with (first | ((with_reducible refine gq 2 rfl ?_); refine bx0 HB (N := 2) (t := 145) ?_; clear HB; intro gb408 w18 BK408 GE408 HB) | ((with_reducible refine gq 3 rfl ?_); refine bx1 HB BK408 (N := 3) (t := 145) ?_; clear HB BK408; intro gb409 w19 BK409 GE409 HB NB408_409 NB409_408 BK408; have hnb20 := NB408_409.out; have hnc20 := NB409_408.out; have hz21 := cs5_ BK408; have hz22 := cs5_ BK409) | ((with_reducible refine gf 68 rfl ?_); refine gL 19 Try.func68 #[.slice A0_2 l0_2.length c0_2, .slice A1_2 l1_2.length c1_2] ?_; (with_reducible refine (laws_eqEntryS.calls k _ _ l0_2 _ _ l1_2 true _ (kc HR0_2 HB) HC0_2.out (kc HR1_2 HB) HC1_2.out A5.out).mono ?_); rintro e w23 ⟨rfl, hb⟩; refine ⟨_, rfl, ?_⟩; replace BK408 := bb BK408 hb; replace BK409 := bb BK409 hb; replace HB := bs HB hb; (try clear hb); have hz24 := cs5_ BK408; have hz25 := cs5_ BK409) | ((with_reducible refine gf 40 rfl ?_); refine gL 25 Try.func40 #[.agg #[.int .i64 a0_3, .slice A0_4 l0_4.length c0_4], .agg #[.int .i64 a1_3, .slice A1_4 l1_4.length c1_4]] ?_; (with_reducible refine (laws_eqRes.calls k a0_3 _ _ l0_4 a1_3 _ _ l1_4 false _ (kc HR0_4 HB) HC0_4.out (kc HR1_4 HB) HC1_4.out A7.out).mono ?_); rintro e w26 ⟨rfl, hb⟩; refine ⟨_, rfl, ?_⟩; replace BK408 := bb BK408 hb; replace BK409 := bb BK409 hb; replace HB := bs HB hb; (try clear hb)))
 go_ret
 exact ⟨er, tb HB⟩
end Go.Proofs.Ytopikhjcbcpiaaa.Q
section
namespace Go.Proofs.Ytopikhjcbcpiaaa.Q
open Go.RowKit Go.Proofs.YtopikhjcbcpiaaaW.PrintWords Go.Proofs.YtopikhjcbcpiaaaW.PrintLast Go.Proofs.YtopikhjcbcpiaaaW.PrintMore
attribute [local go_sem] max2_int min2_int max_two min_two max_three min_three max_four min_four
set_option linter.unusedVariables false
set_option linter.unusedSimpArgs false
def hM (b : Nat) (v0 v1 : Value) (ws : List S141) (ds : List S145) : HP := hBoth (hR k141 141 b v0 ws) (hS k145 145 b v1 ds)
theorem cl_M (b : Nat) (v0 v1 : Value) (ws : List S141) (ds : List S145) : Cl (hM b v0 v1 ws ds) := cl_both (cl_R _ _ _ _ _) (cl_S _ _ _ _ _)
section
variable {b : Nat} {v0 v1 : Value} {ws ws' : List S141} {ds ds' : List S145} {D D' : Nat → Prop} {W W' : World}
theorem M_words (h : hM b v0 v1 ws ds D W) : Kd.R k141 141 W b (fun k => some k = v0.ownBlock) v0 ws := Kd.R_tight rfl h.1
theorem M_apart (h : hM b v0 v1 ws ds D W) (k : Nat) (hk : D k ∧ b ≤ k ∧ k < W.heap.size ∧ ∃ q, q ∈ 145 :: k145.E ∧ ∃ cells, W.heap[k]? = some (.cells cells q (0, 0))) : ¬ some k = v0.ownBlock :=
  fun e => S_not_typed hk (Kd.R_typed h.1 k e.symm) (by decide)
theorem M_words' (h : hM b v0 v1 ws ds D W) (hk : Kept W W' (fun k => some k = v0.ownBlock)) (h1 : Kd.R k141 141 W' b (fun k => some k = v0.ownBlock ∨ W.heap.size ≤ k) v0 ws') : hM b v0 v1 ws' ds (fun k => D k ∨ W.heap.size ≤ k) W' :=
  ⟨Kd.R_mono h1 (fun k hk2 => hk2.elim (fun e => .inl (h.1.1 k e.symm)) .inr), Kd.S_mono (Kd.S_kept (Kd.S_bound h.2) hk (M_apart h)) (fun k hk2 => .inl hk2.1)⟩
theorem M_tries' (h : hM b v0 v1 ws ds D W) {D2 : Nat → Prop} (hD2 : ∀ k, D2 k → D k ∧ b ≤ k ∧ k < W.heap.size ∧ ∃ q, q ∈ 145 :: k145.E ∧ ∃ cells, W.heap[k]? = some (.cells cells q (0, 0))) (hk : Kept W W' D2) (h1 : Kd.S k145 145 W' b (fun k => D2 k ∨ W.heap.size ≤ k) v1 ds') : hM b v0 v1 ws ds' (fun k => D k ∨ W.heap.size ≤ k) W' :=
  ⟨Kd.R_mono (Kd.R_kept (M_words h) hk (fun k hk2 h2 => M_apart h k (hD2 k h2) hk2)) (fun k e => .inl (h.1.1 k e.symm)), Kd.S_mono h1 (fun k hk2 => hk2.elim (fun e => .inl (hD2 k e).1) .inr)⟩
theorem M_tries (h : hM b v0 v1 ws ds D W) : Kd.S k145 145 W b (fun k => D k ∧ b ≤ k ∧ k < W.heap.size ∧ ∃ q, q ∈ 145 :: k145.E ∧ ∃ cells, W.heap[k]? = some (.cells cells q (0, 0))) v1 ds := Kd.S_bound h.2
theorem M_forms (h : hM b v0 v1 ws ds D W) : ∃ A c A' c', v0 = .slice A ws.length c ∧ v1 = .slice A' ds.length c' := by
  obtain ⟨A, c, e⟩ := Kd.R_slice h.1
  obtain ⟨A', c', e'⟩ := Kd.S_slice h.2
  exact ⟨A, c, A', c', e, e'⟩
theorem hM_mono (h : hM b v0 v1 ws ds D W) (hD : ∀ k, D k → D' k) : hM b v0 v1 ws ds D' W := ⟨Kd.R_mono h.1 hD, Kd.S_mono h.2 hD⟩
end
section
variable {w0 w W W1 : World} {P : Nat → Prop} {L : List HP} {b : Nat} {v0 v1 : Value} {ws : List S141} {ds : List S145} {a a' : Option Addr} {n n' c c' : Nat} {ok ok' : Nat → Prop}
theorem St.madeM (h : St w0 w P L W) (h1 : Kd.R k141 141 W1 W.heap.size ok v0 ws) (h2 : Kd.S k145 145 W1 W.heap.size ok' v1 ds) (hb : Below W.heap.size W W1) : St w0 w P (hM w0.heap.size v0 v1 ws ds :: L) W1 :=
  h.made (cl_M _ _ _ _ _) hb (D := fun k => W.heap.size ≤ k) (fun _ hk => hk) ⟨Kd.R_lower (Kd.R_mono (Kd.R_bound h1) (fun k hk => hk.2.1)) h.ge, Kd.S_lower (Kd.S_mono (Kd.S_bound h2) (fun k hk => hk.2.1)) h.ge⟩
theorem St.readM0 (h : St w0 w P L W) (i : Nat) (hi : L[i]? = some (hM b (.slice a n c) v1 ws ds)) : n = ws.length ∧ ws.length ≤ c ∧ k141.C W a ws.length ws := by
  obtain ⟨D, hD⟩ := h.nth i hi
  obtain ⟨h1, h2, h3⟩ := Kd.R_reads' hD.1
  exact ⟨h1, h1 ▸ h2, h3⟩
theorem St.readM1 (h : St w0 w P L W) (i : Nat) (hi : L[i]? = some (hM b v0 (.slice a n c) ws ds)) : n = ds.length ∧ ds.length ≤ c ∧ k145.C W a ds.length ds := by
  obtain ⟨D, hD⟩ := h.nth i hi
  obtain ⟨h1, h2, h3⟩ := Kd.S_reads' hD.2
  exact ⟨h1, h1 ▸ h2, h3⟩
end
def laws_markMem.f (k : Nat) (l0 : List S141) (l1 : List S145) (a1 : Int) : Option (Int × List S141 × List S145) := (laws_markWordS.f k l0 a1).bind fun r => (laws_markDescSX.f k l1 r.1).bind fun s => some (s.1, r.2, s.2)
set_option maxHeartbeats 8000000 in
set_option maxRecDepth 100000 in
theorem laws_markMem.calls (k : Nat) (P0_ : Nat → Prop) (v0 v1 : Value) (ws : List S141) (ds : List S145) (a1 : Int) (r1 : Int) (r2 : List S141) (r3 : List S145) (w0 w : World) (hB : Below w0.heap.size w0 w) (h0 : hM w0.heap.size v0 v1 ws ds P0_ w) (h : laws_markMem.f k ws ds a1 = some (r1, r2, r3)) :
    Calls Try.prog 59 #[.agg #[v0, v1], .int .i64 a1] w fun e w' => e = .returned (.int .i64 r1) ∧ hM w0.heap.size v0 v1 r2 r3 (fun k_ => P0_ k_ ∨ w.heap.size ≤ k_) w' ∧ Below w0.heap.size w0 w' ∧ Kept w w' (fun k_ => P0_ k_) := by
  have hu88 := Try.underlying88
  unfold laws_markMem.f at h
  obtain ⟨⟨t1, l1⟩, A1, h⟩ := Option.bind_eq_some_iff.mp h
  obtain ⟨⟨t2, l2⟩, A2, h⟩ := Option.bind_eq_some_iff.mp h
  dsimp only at A2 h
  simp only [Option.some.injEq, Prod.mk.injEq] at h
  obtain ⟨rfl, rfl, rfl⟩ := h
  have B1 := Aside0.mk A1
  have B2 := Aside0.mk A2
  clear A1 A2
  obtain ⟨Ao, co, Ap, cp, rfl, rfl⟩ := M_forms h0
  have S := Aside0.mk (St.start1 (P := fun k => P0_ k ∧ w0.heap.size ≤ k) hB (cl_M _ _ _ _ _) (fun k hk => hk.2) (show hM _ _ _ _ _ _ _ from ⟨Kd.R_mono (Kd.R_bound h0.1) (fun k hk => ⟨hk.1, hk.2.1⟩), Kd.S_mono (Kd.S_bound h0.2) (fun k hk => ⟨hk.1, hk.2.1⟩)⟩))
  clear hB h0
  go_enter Try.func59, Try.ntmps59
  go_wp2_with (first
    | ((with_reducible refine gate_dst (N := 2) rfl ?_); refine box_event ?hg (N := 2) ?hd (cs := #[.slice Ao ws.length co, .slice Ap ds.length cp]) (t := 88) ?hr ?_; (case hd => rfl); (case hg => rfl); (case hr => first | (go_simp; done) | (go_simp; rfl)); intro g hg w1 hbox hb
       replace S := Aside0.mk (S.out.box hg hbox hb)
       clear hg hbox hb
       have c0 : w1.cell? ⟨g, 0, none⟩ = some (.slice Ao ws.length co) := (blk_cell (S.out.blk 0 rfl) 0).trans rfl
       have c1 : w1.cell? ⟨g, 1, none⟩ = some (.slice Ap ds.length cp) := (blk_cell (S.out.blk 0 rfl) 1).trans rfl)
    | ((with_reducible refine gate_callee (f := 28) rfl ?_); refine goesL_ (some 8) rfl rfl Try.func28 (by kernel_rfl) rfl #[.slice Ao ws.length co, .int .i64 a1] rfl (by (try simp only [List.map_toArray, List.map_cons, List.map_nil]); first | done | rfl) ?_
       obtain ⟨D, hD, hDb, hS⟩ := (S.out.bring 1 rfl).own
       (with_reducible refine (laws_markWordS.calls k _ _ _ a1 t1 l1 w0 _ S.out.below (M_words hD) B1.out).mono ?_)
       rintro e w2 ⟨rfl, h1, hb, hk⟩
       refine ⟨_, rfl, ?_⟩
       replace S := Aside0.mk (hS w2 _ (cl_M _ _ _ _ _) hb (hk.mono (fun k e => hD.1.1 k e.symm)) (M_words' hD hk h1))
       clear hS hD hDb h1 hb hk
       replace c0 : w2.cell? ⟨g, 0, none⟩ = some (.slice Ao ws.length co) := (blk_cell (S.out.blk 1 rfl) 0).trans rfl
       replace c1 : w2.cell? ⟨g, 1, none⟩ = some (.slice Ap ds.length cp) := (blk_cell (S.out.blk 1 rfl) 1).trans rfl)
    | ((with_reducible refine gate_callee (f := 29) rfl ?_); refine goesL_ (some 12) rfl rfl Try.func29 (by kernel_rfl) rfl #[.slice Ap ds.length cp, .int .i64 t1] rfl (by (try simp only [List.map_toArray, List.map_cons, List.map_nil]); first | done | rfl) ?_
       obtain ⟨D, hD, hDb, hS⟩ := S.out.own
       (with_reducible refine (laws_markDescSX.calls k _ _ _ t1 t2 l2 w0 _ S.out.below (M_tries hD) B2.out).mono ?_)
       rintro e w3 ⟨rfl, h1, hb, hk⟩
       refine ⟨_, rfl, ?_⟩
       replace S := Aside0.mk (hS w3 _ (cl_M _ _ _ _ _) hb (hk.mono (fun k e => e.1)) (M_tries' hD (fun k hk => hk) hk h1))
       clear hS hD hDb h1 hb hk))
  go_ret
  obtain ⟨D1, d1, d2, d3⟩ := S.out.sep
  exact ⟨er, hM_mono d2.now (fun k hk => (d1 k hk).1.elim (fun h => .inl h.1) .inr), S.out.below, S.out.kept.mono (fun k hk => hk.1)⟩
end Go.Proofs.Ytopikhjcbcpiaaa.Q
end
namespace Go.Proofs.Ytopikhjcbcpiaaa.Q
open Go.RowKit Go.Proofs.YtopikhjcbcpiaaaW.PrintWords Go.Proofs.YtopikhjcbcpiaaaW.PrintLast Go.Proofs.YtopikhjcbcpiaaaW.PrintMore
attribute [local go_sem] max2_int min2_int max_two min_two max_three min_three max_four min_four   -- for this text's walks alone
set_option linter.unusedVariables false
set_option linter.unusedSimpArgs false
def laws_heldMem.f (k : Nat) (l0_0 : List (S141)) (l0_1 : List (S145)) (a1 : Int) : Option (Int) := (laws_heldWordS.f k l0_0 a1).bind fun t1159 => (if t1159 < 0 then (some (-1)) else ((laws_heldDescS.f k l0_1 t1159).bind fun t1160 => (if t1160 < 0 then (some (-1)) else (some t1160))))
set_option maxHeartbeats 8000000 in
set_option maxRecDepth 100000 in
theorem laws_heldMem.calls (k : Nat) (A0_0 : Option Addr) (c0_0 : Nat) (l0_0 : List (S141)) (A0_1 : Option Addr) (c0_1 : Nat) (l0_1 : List (S145)) (a1 : Int) (r : Int) (w : World) (hr0_0 : Kd.C k141 w A0_0 l0_0.length l0_0) (hc0_0 : l0_0.length ≤ c0_0) (hr0_1 : Kd.C k145 w A0_1 l0_1.length l0_1) (hc0_1 : l0_1.length ≤ c0_1) (h : laws_heldMem.f k l0_0 l0_1 a1 = some r) :
  Calls Try.prog 60 #[.agg #[.slice A0_0 l0_0.length c0_0, .slice A0_1 l0_1.length c0_1], .int .i64 a1] w fun e w' => e = .returned (.int .i64 r) ∧ Below w.heap.size w w' := by
 have hu88 := Try.underlying88
 have HR0_0 := Aside0.mk hr0_0
 have HC0_0 := Aside0.mk hc0_0
 clear hr0_0 hc0_0
 have HR0_1 := Aside0.mk hr0_1
 have HC0_1 := Aside0.mk hc0_1
 clear hr0_1 hc0_1
 have HB := Aside0.mk (Below.refl w.heap.size w)
 have H := h
 clear h
 unfold laws_heldMem.f at H
 obtain ⟨t1159, A3, H⟩ := bn H
 try dsimp only at H
 revert H; refine icd (fun c4b0 H => ?pos) fun c4b0 H => ?_
 case pos =>
  obtain rfl := oin H
  go_enter Try.func60, Try.ntmps60
  go_wp2_with (first | ((with_reducible refine gq 2 rfl ?_); refine bx0 HB (N := 2) (t := 88) ?_; clear HB; intro gb1158 w5 BK1158 GE1158 HB; have hz6 := cs2_ BK1158) | ((with_reducible refine gf 131 rfl ?_); refine gL 8 Try.func131 #[.slice A0_0 l0_0.length c0_0, .int .i64 a1] ?_; (with_reducible refine (laws_heldWordS.calls k _ _ l0_0 a1 t1159 _ (kc HR0_0 HB) HC0_0.out A3.out).mono ?_); rintro e w' ⟨rfl, ⟨nd, rfl⟩⟩; refine ⟨_, rfl, ?_⟩))
  go_ret
  exact ⟨er, tb HB⟩
 obtain ⟨t1160, A7, H⟩ := bn H
 try dsimp only at H
 revert H; refine icd (fun c8b0 H => ?pos) fun c8b0 H => ?_
 case pos =>
  obtain rfl := oin H
  go_enter Try.func60, Try.ntmps60
  go_wp2_with (first | ((with_reducible refine gq 2 rfl ?_); refine bx0 HB (N := 2) (t := 88) ?_; clear HB; intro gb1158 w9 BK1158 GE1158 HB; have hz10 := cs2_ BK1158) | ((with_reducible refine gf 131 rfl ?_); refine gL 8 Try.func131 #[.slice A0_0 l0_0.length c0_0, .int .i64 a1] ?_; (with_reducible refine (laws_heldWordS.calls k _ _ l0_0 a1 t1159 _ (kc HR0_0 HB) HC0_0.out A3.out).mono ?_); rintro e w' ⟨rfl, ⟨nd, rfl⟩⟩; refine ⟨_, rfl, ?_⟩) | ((with_reducible refine gf 132 rfl ?_); refine gL 14 Try.func132 #[.slice A0_1 l0_1.length c0_1, .int .i64 t1159] ?_; (with_reducible refine (laws_heldDescS.calls k _ _ l0_1 t1159 t1160 _ ?side1 HC0_1.out A7.out).mono ?_); (case side1 => repeat (first | exact (Kd.C_below HR0_1.out (tb HB)) | (with_reducible refine Kd.C_alloc ?_ _) | (with_reducible refine Kd.C_drewN ?_ _) | (with_reducible refine Kd.C_drew ?_))); rintro e w' ⟨rfl, ⟨nd, rfl⟩⟩; refine ⟨_, rfl, ?_⟩))
  go_ret
  exact ⟨er, tb HB⟩
 obtain rfl := oin H
 go_enter Try.func60, Try.ntmps60
 go_wp2_with (first | ((with_reducible refine gq 2 rfl ?_); refine bx0 HB (N := 2) (t := 88) ?_; clear HB; intro gb1158 w11 BK1158 GE1158 HB; have hz12 := cs2_ BK1158) | ((with_reducible refine gf 131 rfl ?_); refine gL 8 Try.func131 #[.slice A0_0 l0_0.length c0_0, .int .i64 a1] ?_; (with_reducible refine (laws_heldWordS.calls k _ _ l0_0 a1 t1159 _ (kc HR0_0 HB) HC0_0.out A3.out).mono ?_); rintro e w' ⟨rfl, ⟨nd, rfl⟩⟩; refine ⟨_, rfl, ?_⟩) | ((with_reducible refine gf 132 rfl ?_); refine gL 14 Try.func132 #[.slice A0_1 l0_1.length c0_1, .int .i64 t1159] ?_; (with_reducible refine (laws_heldDescS.calls k _ _ l0_1 t1159 t1160 _ ?side1 HC0_1.out A7.out).mono ?_); (case side1 => repeat (first | exact (Kd.C_below HR0_1.out (tb HB)) | (with_reducible refine Kd.C_alloc ?_ _) | (with_reducible refine Kd.C_drewN ?_ _) | (with_reducible refine Kd.C_drew ?_))); rintro e w' ⟨rfl, ⟨nd, rfl⟩⟩; refine ⟨_, rfl, ?_⟩))
 go_ret
 exact ⟨er, tb HB⟩
end Go.Proofs.Ytopikhjcbcpiaaa.Q
