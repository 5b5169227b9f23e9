/- Part 7 of the steps by which the law is shown: what each function of the program, of the reference and of the law computes. No condition. -/
import Derived.Test.YtopikhjcbcpiaaaBgn0
import Derived.Test.YtopikhjcbcpiaaaBgn2
import Derived.Test.YtopikhjcbcpiaaaBgn3
import Derived.Test.YtopikhjcbcpiaaaBgn4
import Derived.Test.YtopikhjcbcpiaaaBgn5
namespace Go.Proofs.Ytopikhjcbcpiaaa.Q
open Go.RowKit Go.Proofs.YtopikhjcbcpiaaaW.PrintWords Go.Proofs.YtopikhjcbcpiaaaW.PrintLast Go.Proofs.YtopikhjcbcpiaaaW.PrintMore
attribute [local go_sem] max2_int min2_int max_two min_two max_three min_three max_four min_four   -- for this text's walks alone
set_option linter.unusedVariables false
set_option linter.unusedSimpArgs false
mutual
def spec_MemOk.j0 : Nat → Bool → List (S141) → List (S145) → Option (Bool)
 | 0, _, _, _ => none
 | k + 1, x18, x1043000, x1043001 => if x18 = true then (some false) else (spec_MemOk.l0 k 0 x1043000 x1043001)
def spec_MemOk.l0 : Nat → Int → List (S141) → List (S145) → Option (Bool)
 | 0, _, _, _ => none
 | k + 1, x3, x1043000, x1043001 => if x3 < (x1043001.length : Int) then (if 0 ≤ x3 then ((spec_DescOk.f k ((rd_T145 x1043001 x3).f0) ((rd_T145 x1043001 x3).f1) ((rd_T145 x1043001 x3).f2) ((rd_T145 x1043001 x3).f3.f0) ((rd_T145 x1043001 x3).f3.f1)).bind fun t1045 => (if t1045 = true then (spec_MemOk.l0 k (wrap64 (x3 + 1)) x1043000 x1043001) else (some false))) else (none)) else (spec_MemOk.l1 k 0 x1043000 x1043001)
def spec_MemOk.l1 : Nat → Int → List (S141) → List (S145) → Option (Bool)
 | 0, _, _, _ => none
 | k + 1, x4, x1043000, x1043001 => if x4 < (x1043000.length : Int) then (if 0 ≤ x4 then ((spec_WordOk.f ((rd_T141 x1043000 x4).f0) ((rd_T141 x1043000 x4).f1) ((rd_T141 x1043000 x4).f2) (x1043001.length : Int)).bind fun t1048 => (if t1048 = true then (if ((rd_T141 x1043000 x4).f1) > 0 then (if 0 ≤ (wrap64 (((rd_T141 x1043000 x4).f1) - 1)) then (if (wrap64 (((rd_T141 x1043000 x4).f1) - 1)) < (x1043001.length : Int) then ((spec_Entries.f k ((rd_T145 x1043001 (wrap64 (((rd_T141 x1043000 x4).f1) - 1))).f0) ((rd_T145 x1043001 (wrap64 (((rd_T141 x1043000 x4).f1) - 1))).f1) ((rd_T145 x1043001 (wrap64 (((rd_T141 x1043000 x4).f1) - 1))).f2) ((rd_T145 x1043001 (wrap64 (((rd_T141 x1043000 x4).f1) - 1))).f3.f0) ((rd_T145 x1043001 (wrap64 (((rd_T141 x1043000 x4).f1) - 1))).f3.f1) x4).bind fun bt1050 => (if bt1050.2.2.2 = true then (if ((rd_T145 x1043001 (wrap64 (((rd_T141 x1043000 x4).f1) - 1))).f0) = ((rd_T141 x1043000 x4).f2) then (spec_MemOk.l1 k (wrap64 (x4 + 1)) x1043000 x1043001) else (some false)) else (some false))) else (none)) else (none)) else (spec_MemOk.l1 k (wrap64 (x4 + 1)) x1043000 x1043001)) else (some false))) else (none)) else (some true)
end
def spec_MemOk.f (k : Nat) (l0_0 : List (S141)) (l0_1 : List (S145)) : Option (Bool) := if (l0_0.length : Int) = 20 then ((spec_l1In.f (l0_1.length : Int) 1 4).bind fun t1043 => (spec_MemOk.j0 k (!t1043) l0_0 l0_1)) else (spec_MemOk.j0 k true l0_0 l0_1)
set_option maxHeartbeats 8000000 in
set_option maxRecDepth 100000 in
theorem spec_MemOk.calls (k : Nat) (A0_0 : Option Addr) (c0_0 : Nat) (l0_0 : List (S141)) (A0_1 : Option Addr) (c0_1 : Nat) (l0_1 : List (S145)) (r : Bool) (w : World) (hr0_0 : Kd.C k141 w A0_0 l0_0.length l0_0) (hc0_0 : l0_0.length ≤ c0_0) (hr0_1 : Kd.C k145 w A0_1 l0_1.length l0_1) (hc0_1 : l0_1.length ≤ c0_1) (h : spec_MemOk.f k l0_0 l0_1 = some r) :
  Calls Try.prog 128 #[.agg #[.slice A0_0 l0_0.length c0_0, .slice A0_1 l0_1.length c0_1]] w fun e w' => e = .returned (.bool r) ∧ Below w.heap.size w w' := by
 have hu88 := Try.underlying88
 have hu145 := Try.underlying145
 have hu141 := Try.underlying141
 have hu166 := Try.underlying166
 have HR0_0 := Aside0.mk hr0_0
 have HC0_0 := Aside0.mk hc0_0
 clear hr0_0 hc0_0
 have HR0_1 := Aside0.mk hr0_1
 have HC0_1 := Aside0.mk hc0_1
 clear hr0_1 hc0_1
 have HB := Aside0.mk (Below.refl w.heap.size w)
 have H := h
 clear h
 unfold spec_MemOk.f at H
 have HC2 := Aside0.mk H
 clear H
 go_enter Try.func128, Try.ntmps128
 go_upto_region 1 with (first | ((with_reducible refine gq 1 rfl ?_); (try (refine gate_guard (by rfl) ?_; dsimp only)); refine bx0 HB (N := 1) (t := 88) ?_; clear HB; intro gb1042 w3 BK1042 GE1042 HB))
 repeat (go_quiet (first | ((with_reducible refine gq 1 rfl ?_); (try (refine gate_guard (by rfl) ?_; dsimp only)); refine bx0 HB (N := 1) (t := 88) ?_; clear HB; intro gb1042 w3 BK1042 GE1042 HB)); go_upto_region 1 with (first | ((with_reducible refine gq 1 rfl ?_); (try (refine gate_guard (by rfl) ?_; dsimp only)); refine bx0 HB (N := 1) (t := 88) ?_; clear HB; intro gb1042 w3 BK1042 GE1042 HB)))
 (try simp only [Act.put, sA, sB, sC])
 go_cut [18] (fun v18 wc => ∃ (kq : Nat) (x18_1 : Bool), v18 = .bool x18_1 ∧ Aside0 (spec_MemOk.j0 kq x18_1 l0_0 l0_1 = some r) ∧ Aside0 (kq ≤ k) ∧ Aside0 (wc.heap[gb1042]? = some (.cells #[(.slice A0_0 l0_0.length c0_0), (.slice A0_1 l0_1.length c0_1)] 88 (0, 0))) ∧ Aside0 (Below w.heap.size w wc))
 case first =>
  have H := HC2.out
  clear HC2
  by_cases c4 : (l0_0.length : Int) = 20
  case neg =>
   rw [if_neg c4] at H
   have c4b0 : ((l0_0.length : Int) == 20) = false := beq_eq_false_iff_ne.mpr c4
   have c4b1 : ((l0_0.length : Int) != 20) = true := bne_iff_ne.mpr c4
   (first | rw [c4b0] | (simp only [i64_w, i32_w]; rw [c4b0]) | skip)
   have H' := Aside0.mk H
   clear H
   have hz7 := cs2_ BK1042
   go_wp2
   repeat (go_quiet (fail); try go_wp2)
   go_meet
   case rel => exact ⟨_, (true), rsd, H', ⟨by first | omega | exact Nat.le_refl _⟩, ⟨by (with_reducible repeat (first | refine blk_drewN ?_ _ | refine blk_drew ?_ | refine blk_alloc ?_ _)); exact BK1042.out⟩, ⟨tb HB⟩⟩
  rw [if_pos c4] at H
  have c4b0 : ((l0_0.length : Int) == 20) = true := beq_iff_eq.mpr c4
  have c4b1 : ((l0_0.length : Int) != 20) = false := bne_eq_false_iff_eq.mpr c4
  clear c4
  (first | rw [c4b0] | (simp only [i64_w, i32_w]; rw [c4b0]) | skip)
  obtain ⟨t1043, A5, H⟩ := bn H
  try dsimp only at H
  have H' := Aside0.mk H
  clear H
  have hz6 := cs2_ BK1042
  go_wp2_with (first | (go_at_call 79; (with_reducible refine (spec_l1In.calls (l0_1.length : Int) 1 4 t1043 _ A5.out).mono ?_); rintro e w' ⟨rfl, ⟨nd, rfl⟩⟩; (try first | exact ⟨rfl, _, World.drewN_drewN _ _ _⟩ | exact ⟨rfl, _, Eq.trans (World.drewN_drewN _ _ _) (congrArg (World.drewN _) (Nat.add_assoc _ _ _))⟩)))
  repeat (go_quiet (first | (go_at_call 79; (with_reducible refine (spec_l1In.calls (l0_1.length : Int) 1 4 t1043 _ A5.out).mono ?_); rintro e w' ⟨rfl, ⟨nd, rfl⟩⟩; (try first | exact ⟨rfl, _, World.drewN_drewN _ _ _⟩ | exact ⟨rfl, _, Eq.trans (World.drewN_drewN _ _ _) (congrArg (World.drewN _) (Nat.add_assoc _ _ _))⟩))); try go_wp2_with (first | (go_at_call 79; (with_reducible refine (spec_l1In.calls (l0_1.length : Int) 1 4 t1043 _ A5.out).mono ?_); rintro e w' ⟨rfl, ⟨nd, rfl⟩⟩; (try first | exact ⟨rfl, _, World.drewN_drewN _ _ _⟩ | exact ⟨rfl, _, Eq.trans (World.drewN_drewN _ _ _) (congrArg (World.drewN _) (Nat.add_assoc _ _ _))⟩))))
  go_meet
  case rel => exact ⟨_, (!t1043), rsd, H', ⟨by first | omega | exact Nat.le_refl _⟩, ⟨by (with_reducible repeat (first | refine blk_drewN ?_ _ | refine blk_drew ?_ | refine blk_alloc ?_ _)); exact BK1042.out⟩, ⟨tb HB⟩⟩
 case rest =>
  clear HC2
  obtain ⟨kq, x18_1, rfl, HA, HJ1, BK1042, HB⟩ := hcut
  cases kq with
  | zero => exact absurd HA.out (by simp [spec_MemOk.j0])
  | succ kj1 =>
   have H := HA.out
   clear HA
   simp only [spec_MemOk.j0] at H
   cases x18_1
   case true =>
    replace H := ipt H
    obtain rfl := oin H
    go_wp2
    repeat (go_quiet (fail); try go_wp2)
    go_ret
    exact ⟨er, tb HB⟩
   replace H := ipf H
   have H' := Aside0.mk H
   clear H
   go_wp2
   repeat (go_quiet (fail); try go_wp2)
   go_loopg [3] kj1 (fun kq v3 w' => ∃ (x3_2 : Int), v3 = .int .i64 x3_2 ∧ Aside0 (spec_MemOk.l0 kq x3_2 l0_0 l0_1 = some r) ∧ Aside0 (kq ≤ kj1) ∧ Aside0 (w'.heap[gb1042]? = some (.cells #[(.slice A0_0 l0_0.length c0_0), (.slice A0_1 l0_1.length c0_1)] 88 (0, 0))) ∧ Aside0 (Below w.heap.size w w'))
   case atStart => exact ⟨(0), rsd, H', ⟨Nat.le_refl _⟩, ⟨by (with_reducible repeat (first | refine blk_drewN ?_ _ | refine blk_drew ?_ | refine blk_alloc ?_ _)); exact BK1042.out⟩, ⟨tb HB⟩⟩
   case round =>
    clear H'
    obtain ⟨x3_2, rfl, HA, HK2, BK1042, HB⟩ := hrel
    cases gk with
    | zero => exact absurd HA.out (by simp [spec_MemOk.l0])
    | succ k2 =>
     have H := HA.out
     clear HA
     simp only [spec_MemOk.l0] at H
     revert H; refine icd (fun c9b0 H => ?pos) fun c9b0 H => ?_
     case pos =>
      obtain ⟨c10b0, H⟩ := itd H
      obtain ⟨t1045, A11, H⟩ := bn H
      try dsimp only at H
      cases t1045
      case false =>
       replace H := ipf H
       obtain rfl := oin H
       have hz15 := cs2_ BK1042
       have p1044 : 0 ≤ (x3_2 : Int) := od
       have q1044 : x3_2 < (l0_1.length : Int) := od
       obtain ⟨ad1044, A1044_2, c1044_2, A1044_4, c1044_4, e1044, hx1044, hl1044_2, hi1044_2, hl1044_4, hi1044_4⟩ := att145 HR0_1.out x3_2 p1044 q1044
       cases e1044
       replace hx1044 := ox5 HB hx1044
       have HR1044_2 := Aside0.mk hi1044_2
       have HC1044_2 := Aside0.mk hl1044_2
       clear hi1044_2 hl1044_2
       have HR1044_4 := Aside0.mk hi1044_4
       have HC1044_4 := Aside0.mk hl1044_4
       clear hi1044_4 hl1044_4
       replace p1044 := eq_true p1044
       replace q1044 := eq_true q1044
       go_wp2_with (first | (go_at_call 173; (with_reducible refine (spec_DescOk.calls k2 ((rd_T145 l0_1 x3_2).f0) ((rd_T145 l0_1 x3_2).f1) _ _ ((rd_T145 l0_1 x3_2).f2) ((rd_T145 l0_1 x3_2).f3.f0) _ _ ((rd_T145 l0_1 x3_2).f3.f1) false _ (kc HR1044_2 HB) HC1044_2.out (kc HR1044_4 HB) HC1044_4.out A11.out).mono ?_); rintro e w16 ⟨rfl, hb⟩; replace BK1042 := bb BK1042 hb; replace HB := bs HB hb; (try clear hb)))
       repeat (go_quiet (first | (go_at_call 173; (with_reducible refine (spec_DescOk.calls k2 ((rd_T145 l0_1 x3_2).f0) ((rd_T145 l0_1 x3_2).f1) _ _ ((rd_T145 l0_1 x3_2).f2) ((rd_T145 l0_1 x3_2).f3.f0) _ _ ((rd_T145 l0_1 x3_2).f3.f1) false _ (kc HR1044_2 HB) HC1044_2.out (kc HR1044_4 HB) HC1044_4.out A11.out).mono ?_); rintro e w16 ⟨rfl, hb⟩; replace BK1042 := bb BK1042 hb; replace HB := bs HB hb; (try clear hb))); try go_wp2_with (first | (go_at_call 173; (with_reducible refine (spec_DescOk.calls k2 ((rd_T145 l0_1 x3_2).f0) ((rd_T145 l0_1 x3_2).f1) _ _ ((rd_T145 l0_1 x3_2).f2) ((rd_T145 l0_1 x3_2).f3.f0) _ _ ((rd_T145 l0_1 x3_2).f3.f1) false _ (kc HR1044_2 HB) HC1044_2.out (kc HR1044_4 HB) HC1044_4.out A11.out).mono ?_); rintro e w16 ⟨rfl, hb⟩; replace BK1042 := bb BK1042 hb; replace HB := bs HB hb; (try clear hb))))
       go_ret
       exact ⟨er, tb HB⟩
      replace H := ipt H
      have H' := Aside0.mk H
      clear H
      have hz13 := cs2_ BK1042
      have p1044 : 0 ≤ (x3_2 : Int) := od
      have q1044 : x3_2 < (l0_1.length : Int) := od
      obtain ⟨ad1044, A1044_2, c1044_2, A1044_4, c1044_4, e1044, hx1044_0, hx1044_1, hx1044_2, hx1044_3, hx1044_4, hl1044_2, hi1044_2, hl1044_4, hi1044_4⟩ := at_T145 HR0_1.out x3_2 p1044 q1044
      cases e1044
      replace hx1044_0 := ox HB hx1044_0
      replace hx1044_1 := ox HB hx1044_1
      replace hx1044_2 := ox HB hx1044_2
      replace hx1044_3 := ox HB hx1044_3
      replace hx1044_4 := ox HB hx1044_4
      have HR1044_2 := Aside0.mk hi1044_2
      have HC1044_2 := Aside0.mk hl1044_2
      clear hi1044_2 hl1044_2
      have HR1044_4 := Aside0.mk hi1044_4
      have HC1044_4 := Aside0.mk hl1044_4
      clear hi1044_4 hl1044_4
      replace p1044 := eq_true p1044
      replace q1044 := eq_true q1044
      go_wp2_with (first | (go_at_call 173; (with_reducible refine (spec_DescOk.calls k2 ((rd_T145 l0_1 x3_2).f0) ((rd_T145 l0_1 x3_2).f1) _ _ ((rd_T145 l0_1 x3_2).f2) ((rd_T145 l0_1 x3_2).f3.f0) _ _ ((rd_T145 l0_1 x3_2).f3.f1) true _ (kc HR1044_2 HB) HC1044_2.out (kc HR1044_4 HB) HC1044_4.out A11.out).mono ?_); rintro e w14 ⟨rfl, hb⟩; replace BK1042 := bb BK1042 hb; replace HB := bs HB hb; (try clear hb)))
      repeat (go_quiet (first | (go_at_call 173; (with_reducible refine (spec_DescOk.calls k2 ((rd_T145 l0_1 x3_2).f0) ((rd_T145 l0_1 x3_2).f1) _ _ ((rd_T145 l0_1 x3_2).f2) ((rd_T145 l0_1 x3_2).f3.f0) _ _ ((rd_T145 l0_1 x3_2).f3.f1) true _ (kc HR1044_2 HB) HC1044_2.out (kc HR1044_4 HB) HC1044_4.out A11.out).mono ?_); rintro e w14 ⟨rfl, hb⟩; replace BK1042 := bb BK1042 hb; replace HB := bs HB hb; (try clear hb))); try go_wp2_with (first | (go_at_call 173; (with_reducible refine (spec_DescOk.calls k2 ((rd_T145 l0_1 x3_2).f0) ((rd_T145 l0_1 x3_2).f1) _ _ ((rd_T145 l0_1 x3_2).f2) ((rd_T145 l0_1 x3_2).f3.f0) _ _ ((rd_T145 l0_1 x3_2).f3.f1) true _ (kc HR1044_2 HB) HC1044_2.out (kc HR1044_4 HB) HC1044_4.out A11.out).mono ?_); rintro e w14 ⟨rfl, hb⟩; replace BK1042 := bb BK1042 hb; replace HB := bs HB hb; (try clear hb))))
      go_roundg k2
      case measure => have := HJ1.out; have := HK2.out; omega
      case rel => exact ⟨(wrap64 (x3_2 + 1)), rsd, H', ⟨by have := HJ1.out; have := HK2.out; omega⟩, ⟨by (with_reducible repeat (first | refine blk_drewN ?_ _ | refine blk_drew ?_ | refine blk_alloc ?_ _)); exact BK1042.out⟩, ⟨tb HB⟩⟩
     have H' := Aside0.mk H
     clear H
     have hz17 := cs2_ BK1042
     go_wp2
     repeat (go_quiet (fail); try go_wp2)
     go_loopg [4] k2 (fun kq v4 w' => ∃ (x4_3 : Int), v4 = .int .i64 x4_3 ∧ Aside0 (spec_MemOk.l1 kq x4_3 l0_0 l0_1 = some r) ∧ Aside0 (kq ≤ k2) ∧ Aside0 (w'.heap[gb1042]? = some (.cells #[(.slice A0_0 l0_0.length c0_0), (.slice A0_1 l0_1.length c0_1)] 88 (0, 0))) ∧ Aside0 (Below w.heap.size w w'))
     case atStart => exact ⟨(0), rsd, H', ⟨Nat.le_refl _⟩, ⟨by (with_reducible repeat (first | refine blk_drewN ?_ _ | refine blk_drew ?_ | refine blk_alloc ?_ _)); exact BK1042.out⟩, ⟨tb HB⟩⟩
     case round =>
      clear H'
      try clear hx1044_0
      try clear hx1044_1
      try clear hx1044_2
      try clear hx1044_3
      try clear hx1044_4
      obtain ⟨x4_3, rfl, HA, HK3, BK1042, HB⟩ := hrel
      cases gk with
      | zero => exact absurd HA.out (by simp [spec_MemOk.l1])
      | succ k3 =>
       have H := HA.out
       clear HA
       simp only [spec_MemOk.l1] at H
       revert H; refine icd (fun c18b0 H => ?_) fun c18b0 H => ?neg
       case neg =>
        obtain rfl := oin H
        have hz85 := cs2_ BK1042
        go_wp2
        repeat (go_quiet (fail); try go_wp2)
        go_ret
        exact ⟨er, tb HB⟩
       obtain ⟨c19b0, H⟩ := itd H
       obtain ⟨t1048, A20, H⟩ := bn H
       try dsimp only at H
       cases t1048
       case false =>
        replace H := ipf H
        obtain rfl := oin H
        have hz79 := cs2_ BK1042
        have p1046 : 0 ≤ (x4_3 : Int) := od
        have q1046 : x4_3 < (l0_0.length : Int) := od
        obtain ⟨ad1046, e1046, hx1046⟩ := att141 HR0_0.out x4_3 p1046 q1046
        cases e1046
        replace hx1046 := ox3 HB hx1046
        replace p1046 := eq_true p1046
        replace q1046 := eq_true q1046
        go_wp2_with (first | ((with_reducible refine gq 5 rfl ?_); (try (refine gate_guard (by rfl) ?_; dsimp only)); refine bx1 HB BK1042 (N := 5) (cs := #[.int .i64 0, .int .i64 0, .int .i64 0]) (t := 141) ?_; clear HB BK1042; intro gb1047 w80 BK1047 GE1047 HB NB1042_1047 NB1047_1042 BK1042; have hnb81 := NB1047_1042.out; have hnc81 := NB1042_1047.out; have hz82 := cs3_ BK1047; have hz83 := cs2_ BK1042) | (go_at_call 174; (with_reducible refine (spec_WordOk.calls ((rd_T141 l0_0 x4_3).f0) ((rd_T141 l0_0 x4_3).f1) ((rd_T141 l0_0 x4_3).f2) (l0_1.length : Int) false _ A20.out).mono ?_); rintro e w84 ⟨rfl, hb⟩; replace BK1042 := bbf BK1042 hb; replace BK1047 := bbp3 BK1047 hb; replace HB := bs HB hb; (try clear hb)))
        repeat (go_quiet (first | ((with_reducible refine gq 5 rfl ?_); (try (refine gate_guard (by rfl) ?_; dsimp only)); refine bx1 HB BK1042 (N := 5) (cs := #[.int .i64 0, .int .i64 0, .int .i64 0]) (t := 141) ?_; clear HB BK1042; intro gb1047 w80 BK1047 GE1047 HB NB1042_1047 NB1047_1042 BK1042; have hnb81 := NB1047_1042.out; have hnc81 := NB1042_1047.out; have hz82 := cs3_ BK1047; have hz83 := cs2_ BK1042) | (go_at_call 174; (with_reducible refine (spec_WordOk.calls ((rd_T141 l0_0 x4_3).f0) ((rd_T141 l0_0 x4_3).f1) ((rd_T141 l0_0 x4_3).f2) (l0_1.length : Int) false _ A20.out).mono ?_); rintro e w84 ⟨rfl, hb⟩; replace BK1042 := bbf BK1042 hb; replace BK1047 := bbp3 BK1047 hb; replace HB := bs HB hb; (try clear hb))); try go_wp2_with (first | ((with_reducible refine gq 5 rfl ?_); (try (refine gate_guard (by rfl) ?_; dsimp only)); refine bx1 HB BK1042 (N := 5) (cs := #[.int .i64 0, .int .i64 0, .int .i64 0]) (t := 141) ?_; clear HB BK1042; intro gb1047 w80 BK1047 GE1047 HB NB1042_1047 NB1047_1042 BK1042; have hnb81 := NB1047_1042.out; have hnc81 := NB1042_1047.out; have hz82 := cs3_ BK1047; have hz83 := cs2_ BK1042) | (go_at_call 174; (with_reducible refine (spec_WordOk.calls ((rd_T141 l0_0 x4_3).f0) ((rd_T141 l0_0 x4_3).f1) ((rd_T141 l0_0 x4_3).f2) (l0_1.length : Int) false _ A20.out).mono ?_); rintro e w84 ⟨rfl, hb⟩; replace BK1042 := bbf BK1042 hb; replace BK1047 := bbp3 BK1047 hb; replace HB := bs HB hb; (try clear hb))))
        go_ret
        exact ⟨er, tb HB⟩
       replace H := ipt H
       revert H; refine icd (fun c22b0 H => ?_) fun c22b0 H => ?neg
       case neg =>
        have H' := Aside0.mk H
        clear H
        have hz72 := cs2_ BK1042
        have p1046 : 0 ≤ (x4_3 : Int) := od
        have q1046 : x4_3 < (l0_0.length : Int) := od
        obtain ⟨ad1046, e1046, hx1046_0, hx1046_1, hx1046_2⟩ := at_T141 HR0_0.out x4_3 p1046 q1046
        cases e1046
        replace hx1046_0 := ox HB hx1046_0
        replace hx1046_1 := ox HB hx1046_1
        replace hx1046_2 := ox HB hx1046_2
        replace p1046 := eq_true p1046
        replace q1046 := eq_true q1046
        go_wp2_with (first | ((with_reducible refine gq 5 rfl ?_); (try (refine gate_guard (by rfl) ?_; dsimp only)); refine bx1 HB BK1042 (N := 5) (cs := #[.int .i64 0, .int .i64 0, .int .i64 0]) (t := 141) ?_; clear HB BK1042; intro gb1047 w73 BK1047 GE1047 HB NB1042_1047 NB1047_1042 BK1042; have hnb74 := NB1047_1042.out; have hnc74 := NB1042_1047.out; have hz75 := cs3_ BK1047; have hz76 := cs2_ BK1042) | (go_at_call 174; (with_reducible refine (spec_WordOk.calls ((rd_T141 l0_0 x4_3).f0) ((rd_T141 l0_0 x4_3).f1) ((rd_T141 l0_0 x4_3).f2) (l0_1.length : Int) true _ A20.out).mono ?_); rintro e w77 ⟨rfl, hb⟩; replace BK1042 := bbf BK1042 hb; replace BK1047 := bbp3 BK1047 hb; replace HB := bs HB hb; (try clear hb); have hz78 := cs3_ BK1047))
        repeat (go_quiet (first | ((with_reducible refine gq 5 rfl ?_); (try (refine gate_guard (by rfl) ?_; dsimp only)); refine bx1 HB BK1042 (N := 5) (cs := #[.int .i64 0, .int .i64 0, .int .i64 0]) (t := 141) ?_; clear HB BK1042; intro gb1047 w73 BK1047 GE1047 HB NB1042_1047 NB1047_1042 BK1042; have hnb74 := NB1047_1042.out; have hnc74 := NB1042_1047.out; have hz75 := cs3_ BK1047; have hz76 := cs2_ BK1042) | (go_at_call 174; (with_reducible refine (spec_WordOk.calls ((rd_T141 l0_0 x4_3).f0) ((rd_T141 l0_0 x4_3).f1) ((rd_T141 l0_0 x4_3).f2) (l0_1.length : Int) true _ A20.out).mono ?_); rintro e w77 ⟨rfl, hb⟩; replace BK1042 := bbf BK1042 hb; replace BK1047 := bbp3 BK1047 hb; replace HB := bs HB hb; (try clear hb); have hz78 := cs3_ BK1047)); try go_wp2_with (first | ((with_reducible refine gq 5 rfl ?_); (try (refine gate_guard (by rfl) ?_; dsimp only)); refine bx1 HB BK1042 (N := 5) (cs := #[.int .i64 0, .int .i64 0, .int .i64 0]) (t := 141) ?_; clear HB BK1042; intro gb1047 w73 BK1047 GE1047 HB NB1042_1047 NB1047_1042 BK1042; have hnb74 := NB1047_1042.out; have hnc74 := NB1042_1047.out; have hz75 := cs3_ BK1047; have hz76 := cs2_ BK1042) | (go_at_call 174; (with_reducible refine (spec_WordOk.calls ((rd_T141 l0_0 x4_3).f0) ((rd_T141 l0_0 x4_3).f1) ((rd_T141 l0_0 x4_3).f2) (l0_1.length : Int) true _ A20.out).mono ?_); rintro e w77 ⟨rfl, hb⟩; replace BK1042 := bbf BK1042 hb; replace BK1047 := bbp3 BK1047 hb; replace HB := bs HB hb; (try clear hb); have hz78 := cs3_ BK1047)))
        go_roundg k3
        case measure => have := HJ1.out; have := HK2.out; have := HK3.out; omega
        case rel => exact ⟨(wrap64 (x4_3 + 1)), rsd, H', ⟨by have := HJ1.out; have := HK2.out; have := HK3.out; omega⟩, ⟨by (with_reducible repeat (first | refine blk_drewN ?_ _ | refine blk_drew ?_ | refine blk_alloc ?_ _)); exact BK1042.out⟩, ⟨tb HB⟩⟩
       obtain ⟨ji23, hji23⟩ : ∃ j_ : Int, (wrap64 (((rd_T141 l0_0 x4_3).f1) - 1)) = j_ := ⟨_, rfl⟩
       replace H : (if 0 ≤ (ji23) then (if (ji23) < (l0_1.length : Int) then ((spec_Entries.f k3 ((rd_T145 l0_1 (ji23)).f0) ((rd_T145 l0_1 (ji23)).f1) ((rd_T145 l0_1 (ji23)).f2) ((rd_T145 l0_1 (ji23)).f3.f0) ((rd_T145 l0_1 (ji23)).f3.f1) x4_3).bind fun bt1050 => (if bt1050.2.2.2 = true then (if ((rd_T145 l0_1 (ji23)).f0) = ((rd_T141 l0_0 x4_3).f2) then (spec_MemOk.l1 k3 (wrap64 (x4_3 + 1)) l0_0 l0_1) else (some false)) else (some false))) else (none)) else (none)) = some r := by first | (rw [hji23] at H; exact H) | (simp only [hji23] at H ⊢; exact H)
       (try rw [hji23] at A20)
       have hji23w : (IntKind.i64.wrap (((rd_T141 l0_0 x4_3).f1) - 1)) = ji23 := (i64_w _).trans hji23
       obtain ⟨c24b0, H⟩ := itd H
       obtain ⟨c25b0, H⟩ := itd H
       obtain ⟨⟨t1050, t1051, t1052, t1053⟩, A26, H⟩ := bn H
       try dsimp only at H
       cases t1053
       case false =>
        replace H := ipf H
        obtain rfl := oin H
        have hz59 := cs2_ BK1042
        have p1046 : 0 ≤ (x4_3 : Int) := od
        have q1046 : x4_3 < (l0_0.length : Int) := od
        obtain ⟨ad1046, e1046, hx1046_0, hx1046_1, hx1046_2⟩ := at_T141 HR0_0.out x4_3 p1046 q1046
        cases e1046
        replace hx1046_0 := ox HB hx1046_0
        replace hx1046_1 := ox HB hx1046_1
        replace hx1046_2 := ox HB hx1046_2
        replace p1046 := eq_true p1046
        replace q1046 := eq_true q1046
        go_wp2_with (first | ((with_reducible refine gq 5 rfl ?_); (try (refine gate_guard (by rfl) ?_; dsimp only)); refine bx1 HB BK1042 (N := 5) (cs := #[.int .i64 0, .int .i64 0, .int .i64 0]) (t := 141) ?_; clear HB BK1042; intro gb1047 w60 BK1047 GE1047 HB NB1042_1047 NB1047_1042 BK1042; have hnb61 := NB1047_1042.out; have hnc61 := NB1042_1047.out; have hz62 := cs3_ BK1047; have hz63 := cs2_ BK1042) | (go_at_call 174; (with_reducible refine (spec_WordOk.calls ((rd_T141 l0_0 x4_3).f0) ((rd_T141 l0_0 x4_3).f1) ((rd_T141 l0_0 x4_3).f2) (l0_1.length : Int) true _ A20.out).mono ?_); rintro e w64 ⟨rfl, hb⟩; replace BK1042 := bbf BK1042 hb; replace BK1047 := bbp3 BK1047 hb; replace HB := bs HB hb; (try clear hb); have hz65 := cs3_ BK1047; have hz66 := cs2_ BK1042; have p1049 : 0 ≤ ((ji23) : Int) := od; have q1049 : (ji23) < (l0_1.length : Int) := od; obtain ⟨ad1049, A1049_2, c1049_2, A1049_4, c1049_4, e1049, hx1049_0, hx1049_1, hx1049_2, hx1049_3, hx1049_4, hl1049_2, hi1049_2, hl1049_4, hi1049_4⟩ := at_T145 HR0_1.out (ji23) p1049 q1049; cases e1049; replace hx1049_0 := ox HB hx1049_0; replace hx1049_1 := ox HB hx1049_1; replace hx1049_2 := ox HB hx1049_2; replace hx1049_3 := ox HB hx1049_3; replace hx1049_4 := ox HB hx1049_4; have HR1049_2 := Aside0.mk hi1049_2; have HC1049_2 := Aside0.mk hl1049_2; clear hi1049_2 hl1049_2; have HR1049_4 := Aside0.mk hi1049_4; have HC1049_4 := Aside0.mk hl1049_4; clear hi1049_4 hl1049_4; replace p1049 := eq_true p1049; replace q1049 := eq_true q1049) | (go_at_call 156; (with_reducible refine (spec_Entries.calls k3 ((rd_T145 l0_1 (ji23)).f0) ((rd_T145 l0_1 (ji23)).f1) _ _ ((rd_T145 l0_1 (ji23)).f2) ((rd_T145 l0_1 (ji23)).f3.f0) _ _ ((rd_T145 l0_1 (ji23)).f3.f1) x4_3 t1050 t1051 t1052 false _ (kc HR1049_2 HB) HC1049_2.out (kc HR1049_4 HB) HC1049_4.out A26.out).mono ?_); rintro e w67 ⟨rfl, hb⟩; replace BK1042 := bb BK1042 hb; replace BK1047 := bb BK1047 hb; replace HB := bs HB hb; (try clear hb)) | ((with_reducible refine gq 6 rfl ?_); (try (refine gate_guard (by rfl) ?_; dsimp only)); refine bx (N := 6) (cs := #[.int .i64 0, .int .i64 0, .int .i64 0]) (t := 166) ?_; intro gb1054 hg w68 hbox hb; have BK1054 := Aside0.mk (hbox); have GW1054 := Aside0.mk (ge_ hg HB); have GE1054 := Aside0.mk (ge_ hg HB); replace HB := bs HB hb; have NB1042_1054 := Aside0.mk (nl_ hg BK1042); have NB1054_1042 := Aside0.mk (ng_ hg BK1042); replace BK1042 := bb BK1042 hb; have NB1047_1054 := Aside0.mk (nl_ hg BK1047); have NB1054_1047 := Aside0.mk (ng_ hg BK1047); replace BK1047 := bb BK1047 hb; clear hb hbox hg; have hnb69 := NB1054_1042.out; have hnc69 := NB1042_1054.out; have hnb70 := NB1054_1047.out; have hnc70 := NB1047_1054.out; have hz71 := cs3_ BK1054))
        repeat (go_quiet (first | ((with_reducible refine gq 5 rfl ?_); (try (refine gate_guard (by rfl) ?_; dsimp only)); refine bx1 HB BK1042 (N := 5) (cs := #[.int .i64 0, .int .i64 0, .int .i64 0]) (t := 141) ?_; clear HB BK1042; intro gb1047 w60 BK1047 GE1047 HB NB1042_1047 NB1047_1042 BK1042; have hnb61 := NB1047_1042.out; have hnc61 := NB1042_1047.out; have hz62 := cs3_ BK1047; have hz63 := cs2_ BK1042) | (go_at_call 174; (with_reducible refine (spec_WordOk.calls ((rd_T141 l0_0 x4_3).f0) ((rd_T141 l0_0 x4_3).f1) ((rd_T141 l0_0 x4_3).f2) (l0_1.length : Int) true _ A20.out).mono ?_); rintro e w64 ⟨rfl, hb⟩; replace BK1042 := bbf BK1042 hb; replace BK1047 := bbp3 BK1047 hb; replace HB := bs HB hb; (try clear hb); have hz65 := cs3_ BK1047; have hz66 := cs2_ BK1042; have p1049 : 0 ≤ ((ji23) : Int) := od; have q1049 : (ji23) < (l0_1.length : Int) := od; obtain ⟨ad1049, A1049_2, c1049_2, A1049_4, c1049_4, e1049, hx1049_0, hx1049_1, hx1049_2, hx1049_3, hx1049_4, hl1049_2, hi1049_2, hl1049_4, hi1049_4⟩ := at_T145 HR0_1.out (ji23) p1049 q1049; cases e1049; replace hx1049_0 := ox HB hx1049_0; replace hx1049_1 := ox HB hx1049_1; replace hx1049_2 := ox HB hx1049_2; replace hx1049_3 := ox HB hx1049_3; replace hx1049_4 := ox HB hx1049_4; have HR1049_2 := Aside0.mk hi1049_2; have HC1049_2 := Aside0.mk hl1049_2; clear hi1049_2 hl1049_2; have HR1049_4 := Aside0.mk hi1049_4; have HC1049_4 := Aside0.mk hl1049_4; clear hi1049_4 hl1049_4; replace p1049 := eq_true p1049; replace q1049 := eq_true q1049) | (go_at_call 156; (with_reducible refine (spec_Entries.calls k3 ((rd_T145 l0_1 (ji23)).f0) ((rd_T145 l0_1 (ji23)).f1) _ _ ((rd_T145 l0_1 (ji23)).f2) ((rd_T145 l0_1 (ji23)).f3.f0) _ _ ((rd_T145 l0_1 (ji23)).f3.f1) x4_3 t1050 t1051 t1052 false _ (kc HR1049_2 HB) HC1049_2.out (kc HR1049_4 HB) HC1049_4.out A26.out).mono ?_); rintro e w67 ⟨rfl, hb⟩; replace BK1042 := bb BK1042 hb; replace BK1047 := bb BK1047 hb; replace HB := bs HB hb; (try clear hb)) | ((with_reducible refine gq 6 rfl ?_); (try (refine gate_guard (by rfl) ?_; dsimp only)); refine bx1 HB BK1042 (N := 6) (cs := #[.int .i64 0, .int .i64 0, .int .i64 0]) (t := 166) ?_; intro gb1054 hg w68 hbox hb; have BK1054 := Aside0.mk (hbox); have GW1054 := Aside0.mk (ge_ hg HB); have GE1054 := Aside0.mk (ge_ hg HB); replace HB := bs HB hb; have NB1042_1054 := Aside0.mk (nl_ hg BK1042); have NB1054_1042 := Aside0.mk (ng_ hg BK1042); replace BK1042 := bb BK1042 hb; have NB1047_1054 := Aside0.mk (nl_ hg BK1047); have NB1054_1047 := Aside0.mk (ng_ hg BK1047); replace BK1047 := bb BK1047 hb; clear hb hbox hg; have hnb69 := NB1054_1042.out; have hnc69 := NB1042_1054.out; have hnb70 := NB1054_1047.out; have hnc70 := NB1047_1054.out; have hz71 := cs3_ BK1054)); try go_wp2_with (first | ((with_reducible refine gq 5 rfl ?_); (try (refine gate_guard (by rfl) ?_; dsimp only)); refine bx (N := 5) (cs := #[.int .i64 0, .int .i64 0, .int .i64 0]) (t := 141) ?_; clear HB BK1042; intro gb1047 w60 BK1047 GE1047 HB NB1042_1047 NB1047_1042 BK1042; have hnb61 := NB1047_1042.out; have hnc61 := NB1042_1047.out; have hz62 := cs3_ BK1047; have hz63 := cs2_ BK1042) | (go_at_call 174; (with_reducible refine (spec_WordOk.calls ((rd_T141 l0_0 x4_3).f0) ((rd_T141 l0_0 x4_3).f1) ((rd_T141 l0_0 x4_3).f2) (l0_1.length : Int) true _ A20.out).mono ?_); rintro e w64 ⟨rfl, hb⟩; replace BK1042 := bbf BK1042 hb; replace BK1047 := bbp3 BK1047 hb; replace HB := bs HB hb; (try clear hb); have hz65 := cs3_ BK1047; have hz66 := cs2_ BK1042; have p1049 : 0 ≤ ((ji23) : Int) := od; have q1049 : (ji23) < (l0_1.length : Int) := od; obtain ⟨ad1049, A1049_2, c1049_2, A1049_4, c1049_4, e1049, hx1049_0, hx1049_1, hx1049_2, hx1049_3, hx1049_4, hl1049_2, hi1049_2, hl1049_4, hi1049_4⟩ := at_T145 HR0_1.out (ji23) p1049 q1049; cases e1049; replace hx1049_0 := ox HB hx1049_0; replace hx1049_1 := ox HB hx1049_1; replace hx1049_2 := ox HB hx1049_2; replace hx1049_3 := ox HB hx1049_3; replace hx1049_4 := ox HB hx1049_4; have HR1049_2 := Aside0.mk hi1049_2; have HC1049_2 := Aside0.mk hl1049_2; clear hi1049_2 hl1049_2; have HR1049_4 := Aside0.mk hi1049_4; have HC1049_4 := Aside0.mk hl1049_4; clear hi1049_4 hl1049_4; replace p1049 := eq_true p1049; replace q1049 := eq_true q1049) | (go_at_call 156; (with_reducible refine (spec_Entries.calls k3 ((rd_T145 l0_1 (ji23)).f0) ((rd_T145 l0_1 (ji23)).f1) _ _ ((rd_T145 l0_1 (ji23)).f2) ((rd_T145 l0_1 (ji23)).f3.f0) _ _ ((rd_T145 l0_1 (ji23)).f3.f1) x4_3 t1050 t1051 t1052 false _ (kc HR1049_2 HB) HC1049_2.out (kc HR1049_4 HB) HC1049_4.out A26.out).mono ?_); rintro e w67 ⟨rfl, hb⟩; replace BK1042 := bb BK1042 hb; replace BK1047 := bb BK1047 hb; replace HB := bs HB hb; (try clear hb)) | ((with_reducible refine gq 6 rfl ?_); (try (refine gate_guard (by rfl) ?_; dsimp only)); refine bx (N := 6) (cs := #[.int .i64 0, .int .i64 0, .int .i64 0]) (t := 166) ?_; intro gb1054 hg w68 hbox hb; have BK1054 := Aside0.mk (hbox); have GW1054 := Aside0.mk (ge_ hg HB); have GE1054 := Aside0.mk (ge_ hg HB); replace HB := bs HB hb; have NB1042_1054 := Aside0.mk (nl_ hg BK1042); have NB1054_1042 := Aside0.mk (ng_ hg BK1042); replace BK1042 := bb BK1042 hb; have NB1047_1054 := Aside0.mk (nl_ hg BK1047); have NB1054_1047 := Aside0.mk (ng_ hg BK1047); replace BK1047 := bb BK1047 hb; clear hb hbox hg; have hnb69 := NB1054_1042.out; have hnc69 := NB1042_1054.out; have hnb70 := NB1054_1047.out; have hnc70 := NB1047_1054.out; have hz71 := cs3_ BK1054)))
        go_ret
        exact ⟨by first | rfl | (simp [errW_none, errW_some] <;> rfl) | (simp only [← hji23]; first | rfl | (simp [errW_none, errW_some] <;> rfl)) | (simp [*, errW_none, errW_some] <;> rfl), tb HB⟩
       replace H := ipt H
       by_cases c28 : ((rd_T145 l0_1 (ji23)).f0) = ((rd_T141 l0_0 x4_3).f2)
       case neg =>
        rw [if_neg c28] at H
        have c28b0 : (((rd_T145 l0_1 (ji23)).f0) == ((rd_T141 l0_0 x4_3).f2)) = false := beq_eq_false_iff_ne.mpr c28
        have c28b1 : (((rd_T145 l0_1 (ji23)).f0) != ((rd_T141 l0_0 x4_3).f2)) = true := bne_iff_ne.mpr c28
        obtain rfl := oin H
        have hz44 := cs2_ BK1042
        have p1046 : 0 ≤ (x4_3 : Int) := od
        have q1046 : x4_3 < (l0_0.length : Int) := od
        obtain ⟨ad1046, e1046, hx1046_0, hx1046_1, hx1046_2⟩ := at_T141 HR0_0.out x4_3 p1046 q1046
        cases e1046
        replace hx1046_0 := ox HB hx1046_0
        replace hx1046_1 := ox HB hx1046_1
        replace hx1046_2 := ox HB hx1046_2
        replace p1046 := eq_true p1046
        replace q1046 := eq_true q1046
        go_wp2_with (first | ((with_reducible refine gq 5 rfl ?_); (try (refine gate_guard (by rfl) ?_; dsimp only)); refine bx1 HB BK1042 (N := 5) (cs := #[.int .i64 0, .int .i64 0, .int .i64 0]) (t := 141) ?_; clear HB BK1042; intro gb1047 w45 BK1047 GE1047 HB NB1042_1047 NB1047_1042 BK1042; have hnb46 := NB1047_1042.out; have hnc46 := NB1042_1047.out; have hz47 := cs3_ BK1047; have hz48 := cs2_ BK1042) | (go_at_call 174; (with_reducible refine (spec_WordOk.calls ((rd_T141 l0_0 x4_3).f0) ((rd_T141 l0_0 x4_3).f1) ((rd_T141 l0_0 x4_3).f2) (l0_1.length : Int) true _ A20.out).mono ?_); rintro e w49 ⟨rfl, hb⟩; replace BK1042 := bbf BK1042 hb; replace BK1047 := bbp3 BK1047 hb; replace HB := bs HB hb; (try clear hb); have hz50 := cs3_ BK1047; have hz51 := cs2_ BK1042; have p1049 : 0 ≤ ((ji23) : Int) := od; have q1049 : (ji23) < (l0_1.length : Int) := od; obtain ⟨ad1049, A1049_2, c1049_2, A1049_4, c1049_4, e1049, hx1049_0, hx1049_1, hx1049_2, hx1049_3, hx1049_4, hl1049_2, hi1049_2, hl1049_4, hi1049_4⟩ := at_T145 HR0_1.out (ji23) p1049 q1049; cases e1049; replace hx1049_0 := ox HB hx1049_0; replace hx1049_1 := ox HB hx1049_1; replace hx1049_2 := ox HB hx1049_2; replace hx1049_3 := ox HB hx1049_3; replace hx1049_4 := ox HB hx1049_4; have HR1049_2 := Aside0.mk hi1049_2; have HC1049_2 := Aside0.mk hl1049_2; clear hi1049_2 hl1049_2; have HR1049_4 := Aside0.mk hi1049_4; have HC1049_4 := Aside0.mk hl1049_4; clear hi1049_4 hl1049_4; replace p1049 := eq_true p1049; replace q1049 := eq_true q1049) | (go_at_call 156; (with_reducible refine (spec_Entries.calls k3 ((rd_T145 l0_1 (ji23)).f0) ((rd_T145 l0_1 (ji23)).f1) _ _ ((rd_T145 l0_1 (ji23)).f2) ((rd_T145 l0_1 (ji23)).f3.f0) _ _ ((rd_T145 l0_1 (ji23)).f3.f1) x4_3 t1050 t1051 t1052 true _ (kc HR1049_2 HB) HC1049_2.out (kc HR1049_4 HB) HC1049_4.out A26.out).mono ?_); rintro e w52 ⟨rfl, hb⟩; replace BK1042 := bb BK1042 hb; replace BK1047 := bb BK1047 hb; replace HB := bs HB hb; (try clear hb)) | ((with_reducible refine gq 6 rfl ?_); (try (refine gate_guard (by rfl) ?_; dsimp only)); refine bx (N := 6) (cs := #[.int .i64 0, .int .i64 0, .int .i64 0]) (t := 166) ?_; intro gb1054 hg w53 hbox hb; have BK1054 := Aside0.mk (hbox); have GW1054 := Aside0.mk (ge_ hg HB); have GE1054 := Aside0.mk (ge_ hg HB); replace HB := bs HB hb; have NB1042_1054 := Aside0.mk (nl_ hg BK1042); have NB1054_1042 := Aside0.mk (ng_ hg BK1042); replace BK1042 := bb BK1042 hb; have NB1047_1054 := Aside0.mk (nl_ hg BK1047); have NB1054_1047 := Aside0.mk (ng_ hg BK1047); replace BK1047 := bb BK1047 hb; clear hb hbox hg; have hnb54 := NB1054_1042.out; have hnc54 := NB1042_1054.out; have hnb55 := NB1054_1047.out; have hnc55 := NB1047_1054.out; have hz56 := cs3_ BK1054; have hz57 := cs2_ BK1042; have hz58 := cs3_ BK1047; have p1055 : 0 ≤ ((ji23) : Int) := od; have q1055 : (ji23) < (l0_1.length : Int) := od; obtain ⟨ad1055, A1055_2, c1055_2, A1055_4, c1055_4, e1055, hx1055_0, hx1055_1, hx1055_2, hx1055_3, hx1055_4, hl1055_2, hi1055_2, hl1055_4, hi1055_4⟩ := at_T145 HR0_1.out (ji23) p1055 q1055; obtain rfl : ad1049 = ad1055 := (by injection e1055); have hn1055_0 : ad1049.block ≠ gb1054 := Nat.ne_of_lt (Nat.lt_of_lt_of_le (by have := World.block_lt_of_cell? _ _ hx1055_0; first | rwa [add_block] at this | exact this) GW1054.out); have hn1055_1 : ad1049.block ≠ gb1054 := Nat.ne_of_lt (Nat.lt_of_lt_of_le (by have := World.block_lt_of_cell? _ _ hx1055_0; first | rwa [add_block] at this | exact this) GW1054.out); have hn1055_2 : ad1049.block ≠ gb1054 := Nat.ne_of_lt (Nat.lt_of_lt_of_le (by have := World.block_lt_of_cell? _ _ hx1055_0; first | rwa [add_block] at this | exact this) GW1054.out); replace hx1055_0 := ox HB hx1055_0; replace hx1055_1 := ox HB hx1055_1; replace hx1055_2 := ox HB hx1055_2; replace hx1055_3 := ox HB hx1055_3; replace hx1055_4 := ox HB hx1055_4; have HR1055_2 := Aside0.mk hi1055_2; have HC1055_2 := Aside0.mk hl1055_2; clear hi1055_2 hl1055_2; have HR1055_4 := Aside0.mk hi1055_4; have HC1055_4 := Aside0.mk hl1055_4; clear hi1055_4 hl1055_4; replace hx1055_0 := (cell_far (p := ⟨gb1054, 0, none⟩) (by first | (rw [add_block]; exact hn1055_0) | (show (Addr.add _ _).block ≠ _; rw [add_block]; exact hn1055_0) | exact hn1055_0) (.int .i64 t1050)).trans hx1055_0; replace hx1055_1 := (cell_far (p := ⟨gb1054, 0, none⟩) (by first | (rw [add_block]; exact hn1055_0) | (show (Addr.add _ _).block ≠ _; rw [add_block]; exact hn1055_0) | exact hn1055_0) (.int .i64 t1050)).trans hx1055_1; replace hx1055_2 := (cell_far (p := ⟨gb1054, 0, none⟩) (by first | (rw [add_block]; exact hn1055_0) | (show (Addr.add _ _).block ≠ _; rw [add_block]; exact hn1055_0) | exact hn1055_0) (.int .i64 t1050)).trans hx1055_2; replace hx1055_3 := (cell_far (p := ⟨gb1054, 0, none⟩) (by first | (rw [add_block]; exact hn1055_0) | (show (Addr.add _ _).block ≠ _; rw [add_block]; exact hn1055_0) | exact hn1055_0) (.int .i64 t1050)).trans hx1055_3; replace hx1055_4 := (cell_far (p := ⟨gb1054, 0, none⟩) (by first | (rw [add_block]; exact hn1055_0) | (show (Addr.add _ _).block ≠ _; rw [add_block]; exact hn1055_0) | exact hn1055_0) (.int .i64 t1050)).trans hx1055_4; replace hx1055_0 := (cell_far (p := ⟨gb1054, 1, none⟩) (by first | (rw [add_block]; exact hn1055_1) | (show (Addr.add _ _).block ≠ _; rw [add_block]; exact hn1055_1) | exact hn1055_1) (.int .i64 t1051)).trans hx1055_0; replace hx1055_1 := (cell_far (p := ⟨gb1054, 1, none⟩) (by first | (rw [add_block]; exact hn1055_1) | (show (Addr.add _ _).block ≠ _; rw [add_block]; exact hn1055_1) | exact hn1055_1) (.int .i64 t1051)).trans hx1055_1; replace hx1055_2 := (cell_far (p := ⟨gb1054, 1, none⟩) (by first | (rw [add_block]; exact hn1055_1) | (show (Addr.add _ _).block ≠ _; rw [add_block]; exact hn1055_1) | exact hn1055_1) (.int .i64 t1051)).trans hx1055_2; replace hx1055_3 := (cell_far (p := ⟨gb1054, 1, none⟩) (by first | (rw [add_block]; exact hn1055_1) | (show (Addr.add _ _).block ≠ _; rw [add_block]; exact hn1055_1) | exact hn1055_1) (.int .i64 t1051)).trans hx1055_3; replace hx1055_4 := (cell_far (p := ⟨gb1054, 1, none⟩) (by first | (rw [add_block]; exact hn1055_1) | (show (Addr.add _ _).block ≠ _; rw [add_block]; exact hn1055_1) | exact hn1055_1) (.int .i64 t1051)).trans hx1055_4; replace hx1055_0 := (cell_far (p := ⟨gb1054, 2, none⟩) (by first | (rw [add_block]; exact hn1055_2) | (show (Addr.add _ _).block ≠ _; rw [add_block]; exact hn1055_2) | exact hn1055_2) (.int .i64 t1052)).trans hx1055_0; replace hx1055_1 := (cell_far (p := ⟨gb1054, 2, none⟩) (by first | (rw [add_block]; exact hn1055_2) | (show (Addr.add _ _).block ≠ _; rw [add_block]; exact hn1055_2) | exact hn1055_2) (.int .i64 t1052)).trans hx1055_1; replace hx1055_2 := (cell_far (p := ⟨gb1054, 2, none⟩) (by first | (rw [add_block]; exact hn1055_2) | (show (Addr.add _ _).block ≠ _; rw [add_block]; exact hn1055_2) | exact hn1055_2) (.int .i64 t1052)).trans hx1055_2; replace hx1055_3 := (cell_far (p := ⟨gb1054, 2, none⟩) (by first | (rw [add_block]; exact hn1055_2) | (show (Addr.add _ _).block ≠ _; rw [add_block]; exact hn1055_2) | exact hn1055_2) (.int .i64 t1052)).trans hx1055_3; replace hx1055_4 := (cell_far (p := ⟨gb1054, 2, none⟩) (by first | (rw [add_block]; exact hn1055_2) | (show (Addr.add _ _).block ≠ _; rw [add_block]; exact hn1055_2) | exact hn1055_2) (.int .i64 t1052)).trans hx1055_4; (try have hy1055_0 := fun (n_ : Nat) => (show (((((w53.drewN n_).setCell ⟨gb1054, 0, none⟩ (.int .i64 t1050)).setCell ⟨gb1054, 1, none⟩ (.int .i64 t1051)).setCell ⟨gb1054, 2, none⟩ (.int .i64 t1052))).cell? _ = some _ from hx1055_0)); (try have hy1055_1 := fun (n_ : Nat) => (show (((((w53.drewN n_).setCell ⟨gb1054, 0, none⟩ (.int .i64 t1050)).setCell ⟨gb1054, 1, none⟩ (.int .i64 t1051)).setCell ⟨gb1054, 2, none⟩ (.int .i64 t1052))).cell? _ = some _ from hx1055_1)); (try have hy1055_2 := fun (n_ : Nat) => (show (((((w53.drewN n_).setCell ⟨gb1054, 0, none⟩ (.int .i64 t1050)).setCell ⟨gb1054, 1, none⟩ (.int .i64 t1051)).setCell ⟨gb1054, 2, none⟩ (.int .i64 t1052))).cell? _ = some _ from hx1055_2)); (try have hy1055_3 := fun (n_ : Nat) => (show (((((w53.drewN n_).setCell ⟨gb1054, 0, none⟩ (.int .i64 t1050)).setCell ⟨gb1054, 1, none⟩ (.int .i64 t1051)).setCell ⟨gb1054, 2, none⟩ (.int .i64 t1052))).cell? _ = some _ from hx1055_3)); (try have hy1055_4 := fun (n_ : Nat) => (show (((((w53.drewN n_).setCell ⟨gb1054, 0, none⟩ (.int .i64 t1050)).setCell ⟨gb1054, 1, none⟩ (.int .i64 t1051)).setCell ⟨gb1054, 2, none⟩ (.int .i64 t1052))).cell? _ = some _ from hx1055_4)); clear hn1055_0; clear hn1055_1; clear hn1055_2; replace p1055 := eq_true p1055; replace q1055 := eq_true q1055))
        repeat (go_quiet (first | ((with_reducible refine gq 5 rfl ?_); (try (refine gate_guard (by rfl) ?_; dsimp only)); refine bx1 HB BK1042 (N := 5) (cs := #[.int .i64 0, .int .i64 0, .int .i64 0]) (t := 141) ?_; clear HB BK1042; intro gb1047 w45 BK1047 GE1047 HB NB1042_1047 NB1047_1042 BK1042; have hnb46 := NB1047_1042.out; have hnc46 := NB1042_1047.out; have hz47 := cs3_ BK1047; have hz48 := cs2_ BK1042) | (go_at_call 174; (with_reducible refine (spec_WordOk.calls ((rd_T141 l0_0 x4_3).f0) ((rd_T141 l0_0 x4_3).f1) ((rd_T141 l0_0 x4_3).f2) (l0_1.length : Int) true _ A20.out).mono ?_); rintro e w49 ⟨rfl, hb⟩; replace BK1042 := bbf BK1042 hb; replace BK1047 := bbp3 BK1047 hb; replace HB := bs HB hb; (try clear hb); have hz50 := cs3_ BK1047; have hz51 := cs2_ BK1042; have p1049 : 0 ≤ ((ji23) : Int) := od; have q1049 : (ji23) < (l0_1.length : Int) := od; obtain ⟨ad1049, A1049_2, c1049_2, A1049_4, c1049_4, e1049, hx1049_0, hx1049_1, hx1049_2, hx1049_3, hx1049_4, hl1049_2, hi1049_2, hl1049_4, hi1049_4⟩ := at_T145 HR0_1.out (ji23) p1049 q1049; cases e1049; replace hx1049_0 := ox HB hx1049_0; replace hx1049_1 := ox HB hx1049_1; replace hx1049_2 := ox HB hx1049_2; replace hx1049_3 := ox HB hx1049_3; replace hx1049_4 := ox HB hx1049_4; have HR1049_2 := Aside0.mk hi1049_2; have HC1049_2 := Aside0.mk hl1049_2; clear hi1049_2 hl1049_2; have HR1049_4 := Aside0.mk hi1049_4; have HC1049_4 := Aside0.mk hl1049_4; clear hi1049_4 hl1049_4; replace p1049 := eq_true p1049; replace q1049 := eq_true q1049) | (go_at_call 156; (with_reducible refine (spec_Entries.calls k3 ((rd_T145 l0_1 (ji23)).f0) ((rd_T145 l0_1 (ji23)).f1) _ _ ((rd_T145 l0_1 (ji23)).f2) ((rd_T145 l0_1 (ji23)).f3.f0) _ _ ((rd_T145 l0_1 (ji23)).f3.f1) x4_3 t1050 t1051 t1052 true _ (kc HR1049_2 HB) HC1049_2.out (kc HR1049_4 HB) HC1049_4.out A26.out).mono ?_); rintro e w52 ⟨rfl, hb⟩; replace BK1042 := bb BK1042 hb; replace BK1047 := bb BK1047 hb; replace HB := bs HB hb; (try clear hb)) | ((with_reducible refine gq 6 rfl ?_); (try (refine gate_guard (by rfl) ?_; dsimp only)); refine bx1 HB BK1042 (N := 6) (cs := #[.int .i64 0, .int .i64 0, .int .i64 0]) (t := 166) ?_; intro gb1054 hg w53 hbox hb; have BK1054 := Aside0.mk (hbox); have GW1054 := Aside0.mk (ge_ hg HB); have GE1054 := Aside0.mk (ge_ hg HB); replace HB := bs HB hb; have NB1042_1054 := Aside0.mk (nl_ hg BK1042); have NB1054_1042 := Aside0.mk (ng_ hg BK1042); replace BK1042 := bb BK1042 hb; have NB1047_1054 := Aside0.mk (nl_ hg BK1047); have NB1054_1047 := Aside0.mk (ng_ hg BK1047); replace BK1047 := bb BK1047 hb; clear hb hbox hg; have hnb54 := NB1054_1042.out; have hnc54 := NB1042_1054.out; have hnb55 := NB1054_1047.out; have hnc55 := NB1047_1054.out; have hz56 := cs3_ BK1054; have hz57 := cs2_ BK1042; have hz58 := cs3_ BK1047; have p1055 : 0 ≤ ((ji23) : Int) := od; have q1055 : (ji23) < (l0_1.length : Int) := od; obtain ⟨ad1055, A1055_2, c1055_2, A1055_4, c1055_4, e1055, hx1055_0, hx1055_1, hx1055_2, hx1055_3, hx1055_4, hl1055_2, hi1055_2, hl1055_4, hi1055_4⟩ := at_T145 HR0_1.out (ji23) p1055 q1055; obtain rfl : ad1049 = ad1055 := (by injection e1055); have hn1055_0 : ad1049.block ≠ gb1054 := Nat.ne_of_lt (Nat.lt_of_lt_of_le (by have := World.block_lt_of_cell? _ _ hx1055_0; first | rwa [add_block] at this | exact this) GW1054.out); have hn1055_1 : ad1049.block ≠ gb1054 := Nat.ne_of_lt (Nat.lt_of_lt_of_le (by have := World.block_lt_of_cell? _ _ hx1055_0; first | rwa [add_block] at this | exact this) GW1054.out); have hn1055_2 : ad1049.block ≠ gb1054 := Nat.ne_of_lt (Nat.lt_of_lt_of_le (by have := World.block_lt_of_cell? _ _ hx1055_0; first | rwa [add_block] at this | exact this) GW1054.out); replace hx1055_0 := ox HB hx1055_0; replace hx1055_1 := ox HB hx1055_1; replace hx1055_2 := ox HB hx1055_2; replace hx1055_3 := ox HB hx1055_3; replace hx1055_4 := ox HB hx1055_4; have HR1055_2 := Aside0.mk hi1055_2; have HC1055_2 := Aside0.mk hl1055_2; clear hi1055_2 hl1055_2; have HR1055_4 := Aside0.mk hi1055_4; have HC1055_4 := Aside0.mk hl1055_4; clear hi1055_4 hl1055_4; replace hx1055_0 := (cell_far (p := ⟨gb1054, 0, none⟩) (by first | (rw [add_block]; exact hn1055_0) | (show (Addr.add _ _).block ≠ _; rw [add_block]; exact hn1055_0) | exact hn1055_0) (.int .i64 t1050)).trans hx1055_0; replace hx1055_1 := (cell_far (p := ⟨gb1054, 0, none⟩) (by first | (rw [add_block]; exact hn1055_0) | (show (Addr.add _ _).block ≠ _; rw [add_block]; exact hn1055_0) | exact hn1055_0) (.int .i64 t1050)).trans hx1055_1; replace hx1055_2 := (cell_far (p := ⟨gb1054, 0, none⟩) (by first | (rw [add_block]; exact hn1055_0) | (show (Addr.add _ _).block ≠ _; rw [add_block]; exact hn1055_0) | exact hn1055_0) (.int .i64 t1050)).trans hx1055_2; replace hx1055_3 := (cell_far (p := ⟨gb1054, 0, none⟩) (by first | (rw [add_block]; exact hn1055_0) | (show (Addr.add _ _).block ≠ _; rw [add_block]; exact hn1055_0) | exact hn1055_0) (.int .i64 t1050)).trans hx1055_3; replace hx1055_4 := (cell_far (p := ⟨gb1054, 0, none⟩) (by first | (rw [add_block]; exact hn1055_0) | (show (Addr.add _ _).block ≠ _; rw [add_block]; exact hn1055_0) | exact hn1055_0) (.int .i64 t1050)).trans hx1055_4; replace hx1055_0 := (cell_far (p := ⟨gb1054, 1, none⟩) (by first | (rw [add_block]; exact hn1055_1) | (show (Addr.add _ _).block ≠ _; rw [add_block]; exact hn1055_1) | exact hn1055_1) (.int .i64 t1051)).trans hx1055_0; replace hx1055_1 := (cell_far (p := ⟨gb1054, 1, none⟩) (by first | (rw [add_block]; exact hn1055_1) | (show (Addr.add _ _).block ≠ _; rw [add_block]; exact hn1055_1) | exact hn1055_1) (.int .i64 t1051)).trans hx1055_1; replace hx1055_2 := (cell_far (p := ⟨gb1054, 1, none⟩) (by first | (rw [add_block]; exact hn1055_1) | (show (Addr.add _ _).block ≠ _; rw [add_block]; exact hn1055_1) | exact hn1055_1) (.int .i64 t1051)).trans hx1055_2; replace hx1055_3 := (cell_far (p := ⟨gb1054, 1, none⟩) (by first | (rw [add_block]; exact hn1055_1) | (show (Addr.add _ _).block ≠ _; rw [add_block]; exact hn1055_1) | exact hn1055_1) (.int .i64 t1051)).trans hx1055_3; replace hx1055_4 := (cell_far (p := ⟨gb1054, 1, none⟩) (by first | (rw [add_block]; exact hn1055_1) | (show (Addr.add _ _).block ≠ _; rw [add_block]; exact hn1055_1) | exact hn1055_1) (.int .i64 t1051)).trans hx1055_4; replace hx1055_0 := (cell_far (p := ⟨gb1054, 2, none⟩) (by first | (rw [add_block]; exact hn1055_2) | (show (Addr.add _ _).block ≠ _; rw [add_block]; exact hn1055_2) | exact hn1055_2) (.int .i64 t1052)).trans hx1055_0; replace hx1055_1 := (cell_far (p := ⟨gb1054, 2, none⟩) (by first | (rw [add_block]; exact hn1055_2) | (show (Addr.add _ _).block ≠ _; rw [add_block]; exact hn1055_2) | exact hn1055_2) (.int .i64 t1052)).trans hx1055_1; replace hx1055_2 := (cell_far (p := ⟨gb1054, 2, none⟩) (by first | (rw [add_block]; exact hn1055_2) | (show (Addr.add _ _).block ≠ _; rw [add_block]; exact hn1055_2) | exact hn1055_2) (.int .i64 t1052)).trans hx1055_2; replace hx1055_3 := (cell_far (p := ⟨gb1054, 2, none⟩) (by first | (rw [add_block]; exact hn1055_2) | (show (Addr.add _ _).block ≠ _; rw [add_block]; exact hn1055_2) | exact hn1055_2) (.int .i64 t1052)).trans hx1055_3; replace hx1055_4 := (cell_far (p := ⟨gb1054, 2, none⟩) (by first | (rw [add_block]; exact hn1055_2) | (show (Addr.add _ _).block ≠ _; rw [add_block]; exact hn1055_2) | exact hn1055_2) (.int .i64 t1052)).trans hx1055_4; (try have hy1055_0 := fun (n_ : Nat) => (show (((((w53.drewN n_).setCell ⟨gb1054, 0, none⟩ (.int .i64 t1050)).setCell ⟨gb1054, 1, none⟩ (.int .i64 t1051)).setCell ⟨gb1054, 2, none⟩ (.int .i64 t1052))).cell? _ = some _ from hx1055_0)); (try have hy1055_1 := fun (n_ : Nat) => (show (((((w53.drewN n_).setCell ⟨gb1054, 0, none⟩ (.int .i64 t1050)).setCell ⟨gb1054, 1, none⟩ (.int .i64 t1051)).setCell ⟨gb1054, 2, none⟩ (.int .i64 t1052))).cell? _ = some _ from hx1055_1)); (try have hy1055_2 := fun (n_ : Nat) => (show (((((w53.drewN n_).setCell ⟨gb1054, 0, none⟩ (.int .i64 t1050)).setCell ⟨gb1054, 1, none⟩ (.int .i64 t1051)).setCell ⟨gb1054, 2, none⟩ (.int .i64 t1052))).cell? _ = some _ from hx1055_2)); (try have hy1055_3 := fun (n_ : Nat) => (show (((((w53.drewN n_).setCell ⟨gb1054, 0, none⟩ (.int .i64 t1050)).setCell ⟨gb1054, 1, none⟩ (.int .i64 t1051)).setCell ⟨gb1054, 2, none⟩ (.int .i64 t1052))).cell? _ = some _ from hx1055_3)); (try have hy1055_4 := fun (n_ : Nat) => (show (((((w53.drewN n_).setCell ⟨gb1054, 0, none⟩ (.int .i64 t1050)).setCell ⟨gb1054, 1, none⟩ (.int .i64 t1051)).setCell ⟨gb1054, 2, none⟩ (.int .i64 t1052))).cell? _ = some _ from hx1055_4)); clear hn1055_0; clear hn1055_1; clear hn1055_2; replace p1055 := eq_true p1055; replace q1055 := eq_true q1055)); try go_wp2_with (first | ((with_reducible refine gq 5 rfl ?_); (try (refine gate_guard (by rfl) ?_; dsimp only)); refine bx (N := 5) (cs := #[.int .i64 0, .int .i64 0, .int .i64 0]) (t := 141) ?_; clear HB BK1042; intro gb1047 w45 BK1047 GE1047 HB NB1042_1047 NB1047_1042 BK1042; have hnb46 := NB1047_1042.out; have hnc46 := NB1042_1047.out; have hz47 := cs3_ BK1047; have hz48 := cs2_ BK1042) | (go_at_call 174; (with_reducible refine (spec_WordOk.calls ((rd_T141 l0_0 x4_3).f0) ((rd_T141 l0_0 x4_3).f1) ((rd_T141 l0_0 x4_3).f2) (l0_1.length : Int) true _ A20.out).mono ?_); rintro e w49 ⟨rfl, hb⟩; replace BK1042 := bbf BK1042 hb; replace BK1047 := bbp3 BK1047 hb; replace HB := bs HB hb; (try clear hb); have hz50 := cs3_ BK1047; have hz51 := cs2_ BK1042; have p1049 : 0 ≤ ((ji23) : Int) := od; have q1049 : (ji23) < (l0_1.length : Int) := od; obtain ⟨ad1049, A1049_2, c1049_2, A1049_4, c1049_4, e1049, hx1049_0, hx1049_1, hx1049_2, hx1049_3, hx1049_4, hl1049_2, hi1049_2, hl1049_4, hi1049_4⟩ := at_T145 HR0_1.out (ji23) p1049 q1049; cases e1049; replace hx1049_0 := ox HB hx1049_0; replace hx1049_1 := ox HB hx1049_1; replace hx1049_2 := ox HB hx1049_2; replace hx1049_3 := ox HB hx1049_3; replace hx1049_4 := ox HB hx1049_4; have HR1049_2 := Aside0.mk hi1049_2; have HC1049_2 := Aside0.mk hl1049_2; clear hi1049_2 hl1049_2; have HR1049_4 := Aside0.mk hi1049_4; have HC1049_4 := Aside0.mk hl1049_4; clear hi1049_4 hl1049_4; replace p1049 := eq_true p1049; replace q1049 := eq_true q1049) | (go_at_call 156; (with_reducible refine (spec_Entries.calls k3 ((rd_T145 l0_1 (ji23)).f0) ((rd_T145 l0_1 (ji23)).f1) _ _ ((rd_T145 l0_1 (ji23)).f2) ((rd_T145 l0_1 (ji23)).f3.f0) _ _ ((rd_T145 l0_1 (ji23)).f3.f1) x4_3 t1050 t1051 t1052 true _ (kc HR1049_2 HB) HC1049_2.out (kc HR1049_4 HB) HC1049_4.out A26.out).mono ?_); rintro e w52 ⟨rfl, hb⟩; replace BK1042 := bb BK1042 hb; replace BK1047 := bb BK1047 hb; replace HB := bs HB hb; (try clear hb)) | ((with_reducible refine gq 6 rfl ?_); (try (refine gate_guard (by rfl) ?_; dsimp only)); refine bx (N := 6) (cs := #[.int .i64 0, .int .i64 0, .int .i64 0]) (t := 166) ?_; intro gb1054 hg w53 hbox hb; have BK1054 := Aside0.mk (hbox); have GW1054 := Aside0.mk (ge_ hg HB); have GE1054 := Aside0.mk (ge_ hg HB); replace HB := bs HB hb; have NB1042_1054 := Aside0.mk (nl_ hg BK1042); have NB1054_1042 := Aside0.mk (ng_ hg BK1042); replace BK1042 := bb BK1042 hb; have NB1047_1054 := Aside0.mk (nl_ hg BK1047); have NB1054_1047 := Aside0.mk (ng_ hg BK1047); replace BK1047 := bb BK1047 hb; clear hb hbox hg; have hnb54 := NB1054_1042.out; have hnc54 := NB1042_1054.out; have hnb55 := NB1054_1047.out; have hnc55 := NB1047_1054.out; have hz56 := cs3_ BK1054; have hz57 := cs2_ BK1042; have hz58 := cs3_ BK1047; have p1055 : 0 ≤ ((ji23) : Int) := od; have q1055 : (ji23) < (l0_1.length : Int) := od; obtain ⟨ad1055, A1055_2, c1055_2, A1055_4, c1055_4, e1055, hx1055_0, hx1055_1, hx1055_2, hx1055_3, hx1055_4, hl1055_2, hi1055_2, hl1055_4, hi1055_4⟩ := at_T145 HR0_1.out (ji23) p1055 q1055; obtain rfl : ad1049 = ad1055 := (by injection e1055); have hn1055_0 : ad1049.block ≠ gb1054 := Nat.ne_of_lt (Nat.lt_of_lt_of_le (by have := World.block_lt_of_cell? _ _ hx1055_0; first | rwa [add_block] at this | exact this) GW1054.out); have hn1055_1 : ad1049.block ≠ gb1054 := Nat.ne_of_lt (Nat.lt_of_lt_of_le (by have := World.block_lt_of_cell? _ _ hx1055_0; first | rwa [add_block] at this | exact this) GW1054.out); have hn1055_2 : ad1049.block ≠ gb1054 := Nat.ne_of_lt (Nat.lt_of_lt_of_le (by have := World.block_lt_of_cell? _ _ hx1055_0; first | rwa [add_block] at this | exact this) GW1054.out); replace hx1055_0 := ox HB hx1055_0; replace hx1055_1 := ox HB hx1055_1; replace hx1055_2 := ox HB hx1055_2; replace hx1055_3 := ox HB hx1055_3; replace hx1055_4 := ox HB hx1055_4; have HR1055_2 := Aside0.mk hi1055_2; have HC1055_2 := Aside0.mk hl1055_2; clear hi1055_2 hl1055_2; have HR1055_4 := Aside0.mk hi1055_4; have HC1055_4 := Aside0.mk hl1055_4; clear hi1055_4 hl1055_4; replace hx1055_0 := (cell_far (p := ⟨gb1054, 0, none⟩) (by first | (rw [add_block]; exact hn1055_0) | (show (Addr.add _ _).block ≠ _; rw [add_block]; exact hn1055_0) | exact hn1055_0) (.int .i64 t1050)).trans hx1055_0; replace hx1055_1 := (cell_far (p := ⟨gb1054, 0, none⟩) (by first | (rw [add_block]; exact hn1055_0) | (show (Addr.add _ _).block ≠ _; rw [add_block]; exact hn1055_0) | exact hn1055_0) (.int .i64 t1050)).trans hx1055_1; replace hx1055_2 := (cell_far (p := ⟨gb1054, 0, none⟩) (by first | (rw [add_block]; exact hn1055_0) | (show (Addr.add _ _).block ≠ _; rw [add_block]; exact hn1055_0) | exact hn1055_0) (.int .i64 t1050)).trans hx1055_2; replace hx1055_3 := (cell_far (p := ⟨gb1054, 0, none⟩) (by first | (rw [add_block]; exact hn1055_0) | (show (Addr.add _ _).block ≠ _; rw [add_block]; exact hn1055_0) | exact hn1055_0) (.int .i64 t1050)).trans hx1055_3; replace hx1055_4 := (cell_far (p := ⟨gb1054, 0, none⟩) (by first | (rw [add_block]; exact hn1055_0) | (show (Addr.add _ _).block ≠ _; rw [add_block]; exact hn1055_0) | exact hn1055_0) (.int .i64 t1050)).trans hx1055_4; replace hx1055_0 := (cell_far (p := ⟨gb1054, 1, none⟩) (by first | (rw [add_block]; exact hn1055_1) | (show (Addr.add _ _).block ≠ _; rw [add_block]; exact hn1055_1) | exact hn1055_1) (.int .i64 t1051)).trans hx1055_0; replace hx1055_1 := (cell_far (p := ⟨gb1054, 1, none⟩) (by first | (rw [add_block]; exact hn1055_1) | (show (Addr.add _ _).block ≠ _; rw [add_block]; exact hn1055_1) | exact hn1055_1) (.int .i64 t1051)).trans hx1055_1; replace hx1055_2 := (cell_far (p := ⟨gb1054, 1, none⟩) (by first | (rw [add_block]; exact hn1055_1) | (show (Addr.add _ _).block ≠ _; rw [add_block]; exact hn1055_1) | exact hn1055_1) (.int .i64 t1051)).trans hx1055_2; replace hx1055_3 := (cell_far (p := ⟨gb1054, 1, none⟩) (by first | (rw [add_block]; exact hn1055_1) | (show (Addr.add _ _).block ≠ _; rw [add_block]; exact hn1055_1) | exact hn1055_1) (.int .i64 t1051)).trans hx1055_3; replace hx1055_4 := (cell_far (p := ⟨gb1054, 1, none⟩) (by first | (rw [add_block]; exact hn1055_1) | (show (Addr.add _ _).block ≠ _; rw [add_block]; exact hn1055_1) | exact hn1055_1) (.int .i64 t1051)).trans hx1055_4; replace hx1055_0 := (cell_far (p := ⟨gb1054, 2, none⟩) (by first | (rw [add_block]; exact hn1055_2) | (show (Addr.add _ _).block ≠ _; rw [add_block]; exact hn1055_2) | exact hn1055_2) (.int .i64 t1052)).trans hx1055_0; replace hx1055_1 := (cell_far (p := ⟨gb1054, 2, none⟩) (by first | (rw [add_block]; exact hn1055_2) | (show (Addr.add _ _).block ≠ _; rw [add_block]; exact hn1055_2) | exact hn1055_2) (.int .i64 t1052)).trans hx1055_1; replace hx1055_2 := (cell_far (p := ⟨gb1054, 2, none⟩) (by first | (rw [add_block]; exact hn1055_2) | (show (Addr.add _ _).block ≠ _; rw [add_block]; exact hn1055_2) | exact hn1055_2) (.int .i64 t1052)).trans hx1055_2; replace hx1055_3 := (cell_far (p := ⟨gb1054, 2, none⟩) (by first | (rw [add_block]; exact hn1055_2) | (show (Addr.add _ _).block ≠ _; rw [add_block]; exact hn1055_2) | exact hn1055_2) (.int .i64 t1052)).trans hx1055_3; replace hx1055_4 := (cell_far (p := ⟨gb1054, 2, none⟩) (by first | (rw [add_block]; exact hn1055_2) | (show (Addr.add _ _).block ≠ _; rw [add_block]; exact hn1055_2) | exact hn1055_2) (.int .i64 t1052)).trans hx1055_4; (try have hy1055_0 := fun (n_ : Nat) => (show (((((w53.drewN n_).setCell ⟨gb1054, 0, none⟩ (.int .i64 t1050)).setCell ⟨gb1054, 1, none⟩ (.int .i64 t1051)).setCell ⟨gb1054, 2, none⟩ (.int .i64 t1052))).cell? _ = some _ from hx1055_0)); (try have hy1055_1 := fun (n_ : Nat) => (show (((((w53.drewN n_).setCell ⟨gb1054, 0, none⟩ (.int .i64 t1050)).setCell ⟨gb1054, 1, none⟩ (.int .i64 t1051)).setCell ⟨gb1054, 2, none⟩ (.int .i64 t1052))).cell? _ = some _ from hx1055_1)); (try have hy1055_2 := fun (n_ : Nat) => (show (((((w53.drewN n_).setCell ⟨gb1054, 0, none⟩ (.int .i64 t1050)).setCell ⟨gb1054, 1, none⟩ (.int .i64 t1051)).setCell ⟨gb1054, 2, none⟩ (.int .i64 t1052))).cell? _ = some _ from hx1055_2)); (try have hy1055_3 := fun (n_ : Nat) => (show (((((w53.drewN n_).setCell ⟨gb1054, 0, none⟩ (.int .i64 t1050)).setCell ⟨gb1054, 1, none⟩ (.int .i64 t1051)).setCell ⟨gb1054, 2, none⟩ (.int .i64 t1052))).cell? _ = some _ from hx1055_3)); (try have hy1055_4 := fun (n_ : Nat) => (show (((((w53.drewN n_).setCell ⟨gb1054, 0, none⟩ (.int .i64 t1050)).setCell ⟨gb1054, 1, none⟩ (.int .i64 t1051)).setCell ⟨gb1054, 2, none⟩ (.int .i64 t1052))).cell? _ = some _ from hx1055_4)); clear hn1055_0; clear hn1055_1; clear hn1055_2; replace p1055 := eq_true p1055; replace q1055 := eq_true q1055)))
        go_ret
        exact ⟨by first | rfl | (simp [errW_none, errW_some] <;> rfl) | (simp only [← hji23]; first | rfl | (simp [errW_none, errW_some] <;> rfl)) | (simp [*, errW_none, errW_some] <;> rfl), tb HB⟩
       rw [if_pos c28] at H
       have c28b0 : (((rd_T145 l0_1 (ji23)).f0) == ((rd_T141 l0_0 x4_3).f2)) = true := beq_iff_eq.mpr c28
       have c28b1 : (((rd_T145 l0_1 (ji23)).f0) != ((rd_T141 l0_0 x4_3).f2)) = false := bne_eq_false_iff_eq.mpr c28
       clear c28
       have H' := Aside0.mk H
       clear H
       have hz29 := cs2_ BK1042
       have p1046 : 0 ≤ (x4_3 : Int) := od
       have q1046 : x4_3 < (l0_0.length : Int) := od
       obtain ⟨ad1046, e1046, hx1046_0, hx1046_1, hx1046_2⟩ := at_T141 HR0_0.out x4_3 p1046 q1046
       cases e1046
       replace hx1046_0 := ox HB hx1046_0
       replace hx1046_1 := ox HB hx1046_1
       replace hx1046_2 := ox HB hx1046_2
       replace p1046 := eq_true p1046
       replace q1046 := eq_true q1046
       go_wp2_with (first | ((with_reducible refine gq 5 rfl ?_); (try (refine gate_guard (by rfl) ?_; dsimp only)); refine bx1 HB BK1042 (N := 5) (cs := #[.int .i64 0, .int .i64 0, .int .i64 0]) (t := 141) ?_; clear HB BK1042; intro gb1047 w30 BK1047 GE1047 HB NB1042_1047 NB1047_1042 BK1042; have hnb31 := NB1047_1042.out; have hnc31 := NB1042_1047.out; have hz32 := cs3_ BK1047; have hz33 := cs2_ BK1042) | (go_at_call 174; (with_reducible refine (spec_WordOk.calls ((rd_T141 l0_0 x4_3).f0) ((rd_T141 l0_0 x4_3).f1) ((rd_T141 l0_0 x4_3).f2) (l0_1.length : Int) true _ A20.out).mono ?_); rintro e w34 ⟨rfl, hb⟩; replace BK1042 := bbf BK1042 hb; replace BK1047 := bbp3 BK1047 hb; replace HB := bs HB hb; (try clear hb); have hz35 := cs3_ BK1047; have hz36 := cs2_ BK1042; have p1049 : 0 ≤ ((ji23) : Int) := od; have q1049 : (ji23) < (l0_1.length : Int) := od; obtain ⟨ad1049, A1049_2, c1049_2, A1049_4, c1049_4, e1049, hx1049_0, hx1049_1, hx1049_2, hx1049_3, hx1049_4, hl1049_2, hi1049_2, hl1049_4, hi1049_4⟩ := at_T145 HR0_1.out (ji23) p1049 q1049; cases e1049; replace hx1049_0 := ox HB hx1049_0; replace hx1049_1 := ox HB hx1049_1; replace hx1049_2 := ox HB hx1049_2; replace hx1049_3 := ox HB hx1049_3; replace hx1049_4 := ox HB hx1049_4; have HR1049_2 := Aside0.mk hi1049_2; have HC1049_2 := Aside0.mk hl1049_2; clear hi1049_2 hl1049_2; have HR1049_4 := Aside0.mk hi1049_4; have HC1049_4 := Aside0.mk hl1049_4; clear hi1049_4 hl1049_4; replace p1049 := eq_true p1049; replace q1049 := eq_true q1049) | (go_at_call 156; (with_reducible refine (spec_Entries.calls k3 ((rd_T145 l0_1 (ji23)).f0) ((rd_T145 l0_1 (ji23)).f1) _ _ ((rd_T145 l0_1 (ji23)).f2) ((rd_T145 l0_1 (ji23)).f3.f0) _ _ ((rd_T145 l0_1 (ji23)).f3.f1) x4_3 t1050 t1051 t1052 true _ (kc HR1049_2 HB) HC1049_2.out (kc HR1049_4 HB) HC1049_4.out A26.out).mono ?_); rintro e w37 ⟨rfl, hb⟩; replace BK1042 := bb BK1042 hb; replace BK1047 := bb BK1047 hb; replace HB := bs HB hb; (try clear hb)) | ((with_reducible refine gq 6 rfl ?_); (try (refine gate_guard (by rfl) ?_; dsimp only)); refine bx (N := 6) (cs := #[.int .i64 0, .int .i64 0, .int .i64 0]) (t := 166) ?_; intro gb1054 hg w38 hbox hb; have BK1054 := Aside0.mk (hbox); have GW1054 := Aside0.mk (ge_ hg HB); have GE1054 := Aside0.mk (ge_ hg HB); replace HB := bs HB hb; have NB1042_1054 := Aside0.mk (nl_ hg BK1042); have NB1054_1042 := Aside0.mk (ng_ hg BK1042); replace BK1042 := bb BK1042 hb; have NB1047_1054 := Aside0.mk (nl_ hg BK1047); have NB1054_1047 := Aside0.mk (ng_ hg BK1047); replace BK1047 := bb BK1047 hb; clear hb hbox hg; have hnb39 := NB1054_1042.out; have hnc39 := NB1042_1054.out; have hnb40 := NB1054_1047.out; have hnc40 := NB1047_1054.out; have hz41 := cs3_ BK1054; have hz42 := cs2_ BK1042; have hz43 := cs3_ BK1047; have p1055 : 0 ≤ ((ji23) : Int) := od; have q1055 : (ji23) < (l0_1.length : Int) := od; obtain ⟨ad1055, A1055_2, c1055_2, A1055_4, c1055_4, e1055, hx1055_0, hx1055_1, hx1055_2, hx1055_3, hx1055_4, hl1055_2, hi1055_2, hl1055_4, hi1055_4⟩ := at_T145 HR0_1.out (ji23) p1055 q1055; obtain rfl : ad1049 = ad1055 := (by injection e1055); have hn1055_0 : ad1049.block ≠ gb1054 := Nat.ne_of_lt (Nat.lt_of_lt_of_le (by have := World.block_lt_of_cell? _ _ hx1055_0; first | rwa [add_block] at this | exact this) GW1054.out); have hn1055_1 : ad1049.block ≠ gb1054 := Nat.ne_of_lt (Nat.lt_of_lt_of_le (by have := World.block_lt_of_cell? _ _ hx1055_0; first | rwa [add_block] at this | exact this) GW1054.out); have hn1055_2 : ad1049.block ≠ gb1054 := Nat.ne_of_lt (Nat.lt_of_lt_of_le (by have := World.block_lt_of_cell? _ _ hx1055_0; first | rwa [add_block] at this | exact this) GW1054.out); replace hx1055_0 := ox HB hx1055_0; replace hx1055_1 := ox HB hx1055_1; replace hx1055_2 := ox HB hx1055_2; replace hx1055_3 := ox HB hx1055_3; replace hx1055_4 := ox HB hx1055_4; have HR1055_2 := Aside0.mk hi1055_2; have HC1055_2 := Aside0.mk hl1055_2; clear hi1055_2 hl1055_2; have HR1055_4 := Aside0.mk hi1055_4; have HC1055_4 := Aside0.mk hl1055_4; clear hi1055_4 hl1055_4; replace hx1055_0 := (cell_far (p := ⟨gb1054, 0, none⟩) (by first | (rw [add_block]; exact hn1055_0) | (show (Addr.add _ _).block ≠ _; rw [add_block]; exact hn1055_0) | exact hn1055_0) (.int .i64 t1050)).trans hx1055_0; replace hx1055_1 := (cell_far (p := ⟨gb1054, 0, none⟩) (by first | (rw [add_block]; exact hn1055_0) | (show (Addr.add _ _).block ≠ _; rw [add_block]; exact hn1055_0) | exact hn1055_0) (.int .i64 t1050)).trans hx1055_1; replace hx1055_2 := (cell_far (p := ⟨gb1054, 0, none⟩) (by first | (rw [add_block]; exact hn1055_0) | (show (Addr.add _ _).block ≠ _; rw [add_block]; exact hn1055_0) | exact hn1055_0) (.int .i64 t1050)).trans hx1055_2; replace hx1055_3 := (cell_far (p := ⟨gb1054, 0, none⟩) (by first | (rw [add_block]; exact hn1055_0) | (show (Addr.add _ _).block ≠ _; rw [add_block]; exact hn1055_0) | exact hn1055_0) (.int .i64 t1050)).trans hx1055_3; replace hx1055_4 := (cell_far (p := ⟨gb1054, 0, none⟩) (by first | (rw [add_block]; exact hn1055_0) | (show (Addr.add _ _).block ≠ _; rw [add_block]; exact hn1055_0) | exact hn1055_0) (.int .i64 t1050)).trans hx1055_4; replace hx1055_0 := (cell_far (p := ⟨gb1054, 1, none⟩) (by first | (rw [add_block]; exact hn1055_1) | (show (Addr.add _ _).block ≠ _; rw [add_block]; exact hn1055_1) | exact hn1055_1) (.int .i64 t1051)).trans hx1055_0; replace hx1055_1 := (cell_far (p := ⟨gb1054, 1, none⟩) (by first | (rw [add_block]; exact hn1055_1) | (show (Addr.add _ _).block ≠ _; rw [add_block]; exact hn1055_1) | exact hn1055_1) (.int .i64 t1051)).trans hx1055_1; replace hx1055_2 := (cell_far (p := ⟨gb1054, 1, none⟩) (by first | (rw [add_block]; exact hn1055_1) | (show (Addr.add _ _).block ≠ _; rw [add_block]; exact hn1055_1) | exact hn1055_1) (.int .i64 t1051)).trans hx1055_2; replace hx1055_3 := (cell_far (p := ⟨gb1054, 1, none⟩) (by first | (rw [add_block]; exact hn1055_1) | (show (Addr.add _ _).block ≠ _; rw [add_block]; exact hn1055_1) | exact hn1055_1) (.int .i64 t1051)).trans hx1055_3; replace hx1055_4 := (cell_far (p := ⟨gb1054, 1, none⟩) (by first | (rw [add_block]; exact hn1055_1) | (show (Addr.add _ _).block ≠ _; rw [add_block]; exact hn1055_1) | exact hn1055_1) (.int .i64 t1051)).trans hx1055_4; replace hx1055_0 := (cell_far (p := ⟨gb1054, 2, none⟩) (by first | (rw [add_block]; exact hn1055_2) | (show (Addr.add _ _).block ≠ _; rw [add_block]; exact hn1055_2) | exact hn1055_2) (.int .i64 t1052)).trans hx1055_0; replace hx1055_1 := (cell_far (p := ⟨gb1054, 2, none⟩) (by first | (rw [add_block]; exact hn1055_2) | (show (Addr.add _ _).block ≠ _; rw [add_block]; exact hn1055_2) | exact hn1055_2) (.int .i64 t1052)).trans hx1055_1; replace hx1055_2 := (cell_far (p := ⟨gb1054, 2, none⟩) (by first | (rw [add_block]; exact hn1055_2) | (show (Addr.add _ _).block ≠ _; rw [add_block]; exact hn1055_2) | exact hn1055_2) (.int .i64 t1052)).trans hx1055_2; replace hx1055_3 := (cell_far (p := ⟨gb1054, 2, none⟩) (by first | (rw [add_block]; exact hn1055_2) | (show (Addr.add _ _).block ≠ _; rw [add_block]; exact hn1055_2) | exact hn1055_2) (.int .i64 t1052)).trans hx1055_3; replace hx1055_4 := (cell_far (p := ⟨gb1054, 2, none⟩) (by first | (rw [add_block]; exact hn1055_2) | (show (Addr.add _ _).block ≠ _; rw [add_block]; exact hn1055_2) | exact hn1055_2) (.int .i64 t1052)).trans hx1055_4; (try have hy1055_0 := fun (n_ : Nat) => (show (((((w38.drewN n_).setCell ⟨gb1054, 0, none⟩ (.int .i64 t1050)).setCell ⟨gb1054, 1, none⟩ (.int .i64 t1051)).setCell ⟨gb1054, 2, none⟩ (.int .i64 t1052))).cell? _ = some _ from hx1055_0)); (try have hy1055_1 := fun (n_ : Nat) => (show (((((w38.drewN n_).setCell ⟨gb1054, 0, none⟩ (.int .i64 t1050)).setCell ⟨gb1054, 1, none⟩ (.int .i64 t1051)).setCell ⟨gb1054, 2, none⟩ (.int .i64 t1052))).cell? _ = some _ from hx1055_1)); (try have hy1055_2 := fun (n_ : Nat) => (show (((((w38.drewN n_).setCell ⟨gb1054, 0, none⟩ (.int .i64 t1050)).setCell ⟨gb1054, 1, none⟩ (.int .i64 t1051)).setCell ⟨gb1054, 2, none⟩ (.int .i64 t1052))).cell? _ = some _ from hx1055_2)); (try have hy1055_3 := fun (n_ : Nat) => (show (((((w38.drewN n_).setCell ⟨gb1054, 0, none⟩ (.int .i64 t1050)).setCell ⟨gb1054, 1, none⟩ (.int .i64 t1051)).setCell ⟨gb1054, 2, none⟩ (.int .i64 t1052))).cell? _ = some _ from hx1055_3)); (try have hy1055_4 := fun (n_ : Nat) => (show (((((w38.drewN n_).setCell ⟨gb1054, 0, none⟩ (.int .i64 t1050)).setCell ⟨gb1054, 1, none⟩ (.int .i64 t1051)).setCell ⟨gb1054, 2, none⟩ (.int .i64 t1052))).cell? _ = some _ from hx1055_4)); clear hn1055_0; clear hn1055_1; clear hn1055_2; replace p1055 := eq_true p1055; replace q1055 := eq_true q1055))
       repeat (go_quiet (first | ((with_reducible refine gq 5 rfl ?_); (try (refine gate_guard (by rfl) ?_; dsimp only)); refine bx1 HB BK1042 (N := 5) (cs := #[.int .i64 0, .int .i64 0, .int .i64 0]) (t := 141) ?_; clear HB BK1042; intro gb1047 w30 BK1047 GE1047 HB NB1042_1047 NB1047_1042 BK1042; have hnb31 := NB1047_1042.out; have hnc31 := NB1042_1047.out; have hz32 := cs3_ BK1047; have hz33 := cs2_ BK1042) | (go_at_call 174; (with_reducible refine (spec_WordOk.calls ((rd_T141 l0_0 x4_3).f0) ((rd_T141 l0_0 x4_3).f1) ((rd_T141 l0_0 x4_3).f2) (l0_1.length : Int) true _ A20.out).mono ?_); rintro e w34 ⟨rfl, hb⟩; replace BK1042 := bbf BK1042 hb; replace BK1047 := bbp3 BK1047 hb; replace HB := bs HB hb; (try clear hb); have hz35 := cs3_ BK1047; have hz36 := cs2_ BK1042; have p1049 : 0 ≤ ((ji23) : Int) := od; have q1049 : (ji23) < (l0_1.length : Int) := od; obtain ⟨ad1049, A1049_2, c1049_2, A1049_4, c1049_4, e1049, hx1049_0, hx1049_1, hx1049_2, hx1049_3, hx1049_4, hl1049_2, hi1049_2, hl1049_4, hi1049_4⟩ := at_T145 HR0_1.out (ji23) p1049 q1049; cases e1049; replace hx1049_0 := ox HB hx1049_0; replace hx1049_1 := ox HB hx1049_1; replace hx1049_2 := ox HB hx1049_2; replace hx1049_3 := ox HB hx1049_3; replace hx1049_4 := ox HB hx1049_4; have HR1049_2 := Aside0.mk hi1049_2; have HC1049_2 := Aside0.mk hl1049_2; clear hi1049_2 hl1049_2; have HR1049_4 := Aside0.mk hi1049_4; have HC1049_4 := Aside0.mk hl1049_4; clear hi1049_4 hl1049_4; replace p1049 := eq_true p1049; replace q1049 := eq_true q1049) | (go_at_call 156; (with_reducible refine (spec_Entries.calls k3 ((rd_T145 l0_1 (ji23)).f0) ((rd_T145 l0_1 (ji23)).f1) _ _ ((rd_T145 l0_1 (ji23)).f2) ((rd_T145 l0_1 (ji23)).f3.f0) _ _ ((rd_T145 l0_1 (ji23)).f3.f1) x4_3 t1050 t1051 t1052 true _ (kc HR1049_2 HB) HC1049_2.out (kc HR1049_4 HB) HC1049_4.out A26.out).mono ?_); rintro e w37 ⟨rfl, hb⟩; replace BK1042 := bb BK1042 hb; replace BK1047 := bb BK1047 hb; replace HB := bs HB hb; (try clear hb)) | ((with_reducible refine gq 6 rfl ?_); (try (refine gate_guard (by rfl) ?_; dsimp only)); refine bx1 HB BK1042 (N := 6) (cs := #[.int .i64 0, .int .i64 0, .int .i64 0]) (t := 166) ?_; intro gb1054 hg w38 hbox hb; have BK1054 := Aside0.mk (hbox); have GW1054 := Aside0.mk (ge_ hg HB); have GE1054 := Aside0.mk (ge_ hg HB); replace HB := bs HB hb; have NB1042_1054 := Aside0.mk (nl_ hg BK1042); have NB1054_1042 := Aside0.mk (ng_ hg BK1042); replace BK1042 := bb BK1042 hb; have NB1047_1054 := Aside0.mk (nl_ hg BK1047); have NB1054_1047 := Aside0.mk (ng_ hg BK1047); replace BK1047 := bb BK1047 hb; clear hb hbox hg; have hnb39 := NB1054_1042.out; have hnc39 := NB1042_1054.out; have hnb40 := NB1054_1047.out; have hnc40 := NB1047_1054.out; have hz41 := cs3_ BK1054; have hz42 := cs2_ BK1042; have hz43 := cs3_ BK1047; have p1055 : 0 ≤ ((ji23) : Int) := od; have q1055 : (ji23) < (l0_1.length : Int) := od; obtain ⟨ad1055, A1055_2, c1055_2, A1055_4, c1055_4, e1055, hx1055_0, hx1055_1, hx1055_2, hx1055_3, hx1055_4, hl1055_2, hi1055_2, hl1055_4, hi1055_4⟩ := at_T145 HR0_1.out (ji23) p1055 q1055; obtain rfl : ad1049 = ad1055 := (by injection e1055); have hn1055_0 : ad1049.block ≠ gb1054 := Nat.ne_of_lt (Nat.lt_of_lt_of_le (by have := World.block_lt_of_cell? _ _ hx1055_0; first | rwa [add_block] at this | exact this) GW1054.out); have hn1055_1 : ad1049.block ≠ gb1054 := Nat.ne_of_lt (Nat.lt_of_lt_of_le (by have := World.block_lt_of_cell? _ _ hx1055_0; first | rwa [add_block] at this | exact this) GW1054.out); have hn1055_2 : ad1049.block ≠ gb1054 := Nat.ne_of_lt (Nat.lt_of_lt_of_le (by have := World.block_lt_of_cell? _ _ hx1055_0; first | rwa [add_block] at this | exact this) GW1054.out); replace hx1055_0 := ox HB hx1055_0; replace hx1055_1 := ox HB hx1055_1; replace hx1055_2 := ox HB hx1055_2; replace hx1055_3 := ox HB hx1055_3; replace hx1055_4 := ox HB hx1055_4; have HR1055_2 := Aside0.mk hi1055_2; have HC1055_2 := Aside0.mk hl1055_2; clear hi1055_2 hl1055_2; have HR1055_4 := Aside0.mk hi1055_4; have HC1055_4 := Aside0.mk hl1055_4; clear hi1055_4 hl1055_4; replace hx1055_0 := (cell_far (p := ⟨gb1054, 0, none⟩) (by first | (rw [add_block]; exact hn1055_0) | (show (Addr.add _ _).block ≠ _; rw [add_block]; exact hn1055_0) | exact hn1055_0) (.int .i64 t1050)).trans hx1055_0; replace hx1055_1 := (cell_far (p := ⟨gb1054, 0, none⟩) (by first | (rw [add_block]; exact hn1055_0) | (show (Addr.add _ _).block ≠ _; rw [add_block]; exact hn1055_0) | exact hn1055_0) (.int .i64 t1050)).trans hx1055_1; replace hx1055_2 := (cell_far (p := ⟨gb1054, 0, none⟩) (by first | (rw [add_block]; exact hn1055_0) | (show (Addr.add _ _).block ≠ _; rw [add_block]; exact hn1055_0) | exact hn1055_0) (.int .i64 t1050)).trans hx1055_2; replace hx1055_3 := (cell_far (p := ⟨gb1054, 0, none⟩) (by first | (rw [add_block]; exact hn1055_0) | (show (Addr.add _ _).block ≠ _; rw [add_block]; exact hn1055_0) | exact hn1055_0) (.int .i64 t1050)).trans hx1055_3; replace hx1055_4 := (cell_far (p := ⟨gb1054, 0, none⟩) (by first | (rw [add_block]; exact hn1055_0) | (show (Addr.add _ _).block ≠ _; rw [add_block]; exact hn1055_0) | exact hn1055_0) (.int .i64 t1050)).trans hx1055_4; replace hx1055_0 := (cell_far (p := ⟨gb1054, 1, none⟩) (by first | (rw [add_block]; exact hn1055_1) | (show (Addr.add _ _).block ≠ _; rw [add_block]; exact hn1055_1) | exact hn1055_1) (.int .i64 t1051)).trans hx1055_0; replace hx1055_1 := (cell_far (p := ⟨gb1054, 1, none⟩) (by first | (rw [add_block]; exact hn1055_1) | (show (Addr.add _ _).block ≠ _; rw [add_block]; exact hn1055_1) | exact hn1055_1) (.int .i64 t1051)).trans hx1055_1; replace hx1055_2 := (cell_far (p := ⟨gb1054, 1, none⟩) (by first | (rw [add_block]; exact hn1055_1) | (show (Addr.add _ _).block ≠ _; rw [add_block]; exact hn1055_1) | exact hn1055_1) (.int .i64 t1051)).trans hx1055_2; replace hx1055_3 := (cell_far (p := ⟨gb1054, 1, none⟩) (by first | (rw [add_block]; exact hn1055_1) | (show (Addr.add _ _).block ≠ _; rw [add_block]; exact hn1055_1) | exact hn1055_1) (.int .i64 t1051)).trans hx1055_3; replace hx1055_4 := (cell_far (p := ⟨gb1054, 1, none⟩) (by first | (rw [add_block]; exact hn1055_1) | (show (Addr.add _ _).block ≠ _; rw [add_block]; exact hn1055_1) | exact hn1055_1) (.int .i64 t1051)).trans hx1055_4; replace hx1055_0 := (cell_far (p := ⟨gb1054, 2, none⟩) (by first | (rw [add_block]; exact hn1055_2) | (show (Addr.add _ _).block ≠ _; rw [add_block]; exact hn1055_2) | exact hn1055_2) (.int .i64 t1052)).trans hx1055_0; replace hx1055_1 := (cell_far (p := ⟨gb1054, 2, none⟩) (by first | (rw [add_block]; exact hn1055_2) | (show (Addr.add _ _).block ≠ _; rw [add_block]; exact hn1055_2) | exact hn1055_2) (.int .i64 t1052)).trans hx1055_1; replace hx1055_2 := (cell_far (p := ⟨gb1054, 2, none⟩) (by first | (rw [add_block]; exact hn1055_2) | (show (Addr.add _ _).block ≠ _; rw [add_block]; exact hn1055_2) | exact hn1055_2) (.int .i64 t1052)).trans hx1055_2; replace hx1055_3 := (cell_far (p := ⟨gb1054, 2, none⟩) (by first | (rw [add_block]; exact hn1055_2) | (show (Addr.add _ _).block ≠ _; rw [add_block]; exact hn1055_2) | exact hn1055_2) (.int .i64 t1052)).trans hx1055_3; replace hx1055_4 := (cell_far (p := ⟨gb1054, 2, none⟩) (by first | (rw [add_block]; exact hn1055_2) | (show (Addr.add _ _).block ≠ _; rw [add_block]; exact hn1055_2) | exact hn1055_2) (.int .i64 t1052)).trans hx1055_4; (try have hy1055_0 := fun (n_ : Nat) => (show (((((w38.drewN n_).setCell ⟨gb1054, 0, none⟩ (.int .i64 t1050)).setCell ⟨gb1054, 1, none⟩ (.int .i64 t1051)).setCell ⟨gb1054, 2, none⟩ (.int .i64 t1052))).cell? _ = some _ from hx1055_0)); (try have hy1055_1 := fun (n_ : Nat) => (show (((((w38.drewN n_).setCell ⟨gb1054, 0, none⟩ (.int .i64 t1050)).setCell ⟨gb1054, 1, none⟩ (.int .i64 t1051)).setCell ⟨gb1054, 2, none⟩ (.int .i64 t1052))).cell? _ = some _ from hx1055_1)); (try have hy1055_2 := fun (n_ : Nat) => (show (((((w38.drewN n_).setCell ⟨gb1054, 0, none⟩ (.int .i64 t1050)).setCell ⟨gb1054, 1, none⟩ (.int .i64 t1051)).setCell ⟨gb1054, 2, none⟩ (.int .i64 t1052))).cell? _ = some _ from hx1055_2)); (try have hy1055_3 := fun (n_ : Nat) => (show (((((w38.drewN n_).setCell ⟨gb1054, 0, none⟩ (.int .i64 t1050)).setCell ⟨gb1054, 1, none⟩ (.int .i64 t1051)).setCell ⟨gb1054, 2, none⟩ (.int .i64 t1052))).cell? _ = some _ from hx1055_3)); (try have hy1055_4 := fun (n_ : Nat) => (show (((((w38.drewN n_).setCell ⟨gb1054, 0, none⟩ (.int .i64 t1050)).setCell ⟨gb1054, 1, none⟩ (.int .i64 t1051)).setCell ⟨gb1054, 2, none⟩ (.int .i64 t1052))).cell? _ = some _ from hx1055_4)); clear hn1055_0; clear hn1055_1; clear hn1055_2; replace p1055 := eq_true p1055; replace q1055 := eq_true q1055)); try go_wp2_with (first | ((with_reducible refine gq 5 rfl ?_); (try (refine gate_guard (by rfl) ?_; dsimp only)); refine bx (N := 5) (cs := #[.int .i64 0, .int .i64 0, .int .i64 0]) (t := 141) ?_; clear HB BK1042; intro gb1047 w30 BK1047 GE1047 HB NB1042_1047 NB1047_1042 BK1042; have hnb31 := NB1047_1042.out; have hnc31 := NB1042_1047.out; have hz32 := cs3_ BK1047; have hz33 := cs2_ BK1042) | (go_at_call 174; (with_reducible refine (spec_WordOk.calls ((rd_T141 l0_0 x4_3).f0) ((rd_T141 l0_0 x4_3).f1) ((rd_T141 l0_0 x4_3).f2) (l0_1.length : Int) true _ A20.out).mono ?_); rintro e w34 ⟨rfl, hb⟩; replace BK1042 := bbf BK1042 hb; replace BK1047 := bbp3 BK1047 hb; replace HB := bs HB hb; (try clear hb); have hz35 := cs3_ BK1047; have hz36 := cs2_ BK1042; have p1049 : 0 ≤ ((ji23) : Int) := od; have q1049 : (ji23) < (l0_1.length : Int) := od; obtain ⟨ad1049, A1049_2, c1049_2, A1049_4, c1049_4, e1049, hx1049_0, hx1049_1, hx1049_2, hx1049_3, hx1049_4, hl1049_2, hi1049_2, hl1049_4, hi1049_4⟩ := at_T145 HR0_1.out (ji23) p1049 q1049; cases e1049; replace hx1049_0 := ox HB hx1049_0; replace hx1049_1 := ox HB hx1049_1; replace hx1049_2 := ox HB hx1049_2; replace hx1049_3 := ox HB hx1049_3; replace hx1049_4 := ox HB hx1049_4; have HR1049_2 := Aside0.mk hi1049_2; have HC1049_2 := Aside0.mk hl1049_2; clear hi1049_2 hl1049_2; have HR1049_4 := Aside0.mk hi1049_4; have HC1049_4 := Aside0.mk hl1049_4; clear hi1049_4 hl1049_4; replace p1049 := eq_true p1049; replace q1049 := eq_true q1049) | (go_at_call 156; (with_reducible refine (spec_Entries.calls k3 ((rd_T145 l0_1 (ji23)).f0) ((rd_T145 l0_1 (ji23)).f1) _ _ ((rd_T145 l0_1 (ji23)).f2) ((rd_T145 l0_1 (ji23)).f3.f0) _ _ ((rd_T145 l0_1 (ji23)).f3.f1) x4_3 t1050 t1051 t1052 true _ (kc HR1049_2 HB) HC1049_2.out (kc HR1049_4 HB) HC1049_4.out A26.out).mono ?_); rintro e w37 ⟨rfl, hb⟩; replace BK1042 := bb BK1042 hb; replace BK1047 := bb BK1047 hb; replace HB := bs HB hb; (try clear hb)) | ((with_reducible refine gq 6 rfl ?_); (try (refine gate_guard (by rfl) ?_; dsimp only)); refine bx (N := 6) (cs := #[.int .i64 0, .int .i64 0, .int .i64 0]) (t := 166) ?_; intro gb1054 hg w38 hbox hb; have BK1054 := Aside0.mk (hbox); have GW1054 := Aside0.mk (ge_ hg HB); have GE1054 := Aside0.mk (ge_ hg HB); replace HB := bs HB hb; have NB1042_1054 := Aside0.mk (nl_ hg BK1042); have NB1054_1042 := Aside0.mk (ng_ hg BK1042); replace BK1042 := bb BK1042 hb; have NB1047_1054 := Aside0.mk (nl_ hg BK1047); have NB1054_1047 := Aside0.mk (ng_ hg BK1047); replace BK1047 := bb BK1047 hb; clear hb hbox hg; have hnb39 := NB1054_1042.out; have hnc39 := NB1042_1054.out; have hnb40 := NB1054_1047.out; have hnc40 := NB1047_1054.out; have hz41 := cs3_ BK1054; have hz42 := cs2_ BK1042; have hz43 := cs3_ BK1047; have p1055 : 0 ≤ ((ji23) : Int) := od; have q1055 : (ji23) < (l0_1.length : Int) := od; obtain ⟨ad1055, A1055_2, c1055_2, A1055_4, c1055_4, e1055, hx1055_0, hx1055_1, hx1055_2, hx1055_3, hx1055_4, hl1055_2, hi1055_2, hl1055_4, hi1055_4⟩ := at_T145 HR0_1.out (ji23) p1055 q1055; obtain rfl : ad1049 = ad1055 := (by injection e1055); have hn1055_0 : ad1049.block ≠ gb1054 := Nat.ne_of_lt (Nat.lt_of_lt_of_le (by have := World.block_lt_of_cell? _ _ hx1055_0; first | rwa [add_block] at this | exact this) GW1054.out); have hn1055_1 : ad1049.block ≠ gb1054 := Nat.ne_of_lt (Nat.lt_of_lt_of_le (by have := World.block_lt_of_cell? _ _ hx1055_0; first | rwa [add_block] at this | exact this) GW1054.out); have hn1055_2 : ad1049.block ≠ gb1054 := Nat.ne_of_lt (Nat.lt_of_lt_of_le (by have := World.block_lt_of_cell? _ _ hx1055_0; first | rwa [add_block] at this | exact this) GW1054.out); replace hx1055_0 := ox HB hx1055_0; replace hx1055_1 := ox HB hx1055_1; replace hx1055_2 := ox HB hx1055_2; replace hx1055_3 := ox HB hx1055_3; replace hx1055_4 := ox HB hx1055_4; have HR1055_2 := Aside0.mk hi1055_2; have HC1055_2 := Aside0.mk hl1055_2; clear hi1055_2 hl1055_2; have HR1055_4 := Aside0.mk hi1055_4; have HC1055_4 := Aside0.mk hl1055_4; clear hi1055_4 hl1055_4; replace hx1055_0 := (cell_far (p := ⟨gb1054, 0, none⟩) (by first | (rw [add_block]; exact hn1055_0) | (show (Addr.add _ _).block ≠ _; rw [add_block]; exact hn1055_0) | exact hn1055_0) (.int .i64 t1050)).trans hx1055_0; replace hx1055_1 := (cell_far (p := ⟨gb1054, 0, none⟩) (by first | (rw [add_block]; exact hn1055_0) | (show (Addr.add _ _).block ≠ _; rw [add_block]; exact hn1055_0) | exact hn1055_0) (.int .i64 t1050)).trans hx1055_1; replace hx1055_2 := (cell_far (p := ⟨gb1054, 0, none⟩) (by first | (rw [add_block]; exact hn1055_0) | (show (Addr.add _ _).block ≠ _; rw [add_block]; exact hn1055_0) | exact hn1055_0) (.int .i64 t1050)).trans hx1055_2; replace hx1055_3 := (cell_far (p := ⟨gb1054, 0, none⟩) (by first | (rw [add_block]; exact hn1055_0) | (show (Addr.add _ _).block ≠ _; rw [add_block]; exact hn1055_0) | exact hn1055_0) (.int .i64 t1050)).trans hx1055_3; replace hx1055_4 := (cell_far (p := ⟨gb1054, 0, none⟩) (by first | (rw [add_block]; exact hn1055_0) | (show (Addr.add _ _).block ≠ _; rw [add_block]; exact hn1055_0) | exact hn1055_0) (.int .i64 t1050)).trans hx1055_4; replace hx1055_0 := (cell_far (p := ⟨gb1054, 1, none⟩) (by first | (rw [add_block]; exact hn1055_1) | (show (Addr.add _ _).block ≠ _; rw [add_block]; exact hn1055_1) | exact hn1055_1) (.int .i64 t1051)).trans hx1055_0; replace hx1055_1 := (cell_far (p := ⟨gb1054, 1, none⟩) (by first | (rw [add_block]; exact hn1055_1) | (show (Addr.add _ _).block ≠ _; rw [add_block]; exact hn1055_1) | exact hn1055_1) (.int .i64 t1051)).trans hx1055_1; replace hx1055_2 := (cell_far (p := ⟨gb1054, 1, none⟩) (by first | (rw [add_block]; exact hn1055_1) | (show (Addr.add _ _).block ≠ _; rw [add_block]; exact hn1055_1) | exact hn1055_1) (.int .i64 t1051)).trans hx1055_2; replace hx1055_3 := (cell_far (p := ⟨gb1054, 1, none⟩) (by first | (rw [add_block]; exact hn1055_1) | (show (Addr.add _ _).block ≠ _; rw [add_block]; exact hn1055_1) | exact hn1055_1) (.int .i64 t1051)).trans hx1055_3; replace hx1055_4 := (cell_far (p := ⟨gb1054, 1, none⟩) (by first | (rw [add_block]; exact hn1055_1) | (show (Addr.add _ _).block ≠ _; rw [add_block]; exact hn1055_1) | exact hn1055_1) (.int .i64 t1051)).trans hx1055_4; replace hx1055_0 := (cell_far (p := ⟨gb1054, 2, none⟩) (by first | (rw [add_block]; exact hn1055_2) | (show (Addr.add _ _).block ≠ _; rw [add_block]; exact hn1055_2) | exact hn1055_2) (.int .i64 t1052)).trans hx1055_0; replace hx1055_1 := (cell_far (p := ⟨gb1054, 2, none⟩) (by first | (rw [add_block]; exact hn1055_2) | (show (Addr.add _ _).block ≠ _; rw [add_block]; exact hn1055_2) | exact hn1055_2) (.int .i64 t1052)).trans hx1055_1; replace hx1055_2 := (cell_far (p := ⟨gb1054, 2, none⟩) (by first | (rw [add_block]; exact hn1055_2) | (show (Addr.add _ _).block ≠ _; rw [add_block]; exact hn1055_2) | exact hn1055_2) (.int .i64 t1052)).trans hx1055_2; replace hx1055_3 := (cell_far (p := ⟨gb1054, 2, none⟩) (by first | (rw [add_block]; exact hn1055_2) | (show (Addr.add _ _).block ≠ _; rw [add_block]; exact hn1055_2) | exact hn1055_2) (.int .i64 t1052)).trans hx1055_3; replace hx1055_4 := (cell_far (p := ⟨gb1054, 2, none⟩) (by first | (rw [add_block]; exact hn1055_2) | (show (Addr.add _ _).block ≠ _; rw [add_block]; exact hn1055_2) | exact hn1055_2) (.int .i64 t1052)).trans hx1055_4; (try have hy1055_0 := fun (n_ : Nat) => (show (((((w38.drewN n_).setCell ⟨gb1054, 0, none⟩ (.int .i64 t1050)).setCell ⟨gb1054, 1, none⟩ (.int .i64 t1051)).setCell ⟨gb1054, 2, none⟩ (.int .i64 t1052))).cell? _ = some _ from hx1055_0)); (try have hy1055_1 := fun (n_ : Nat) => (show (((((w38.drewN n_).setCell ⟨gb1054, 0, none⟩ (.int .i64 t1050)).setCell ⟨gb1054, 1, none⟩ (.int .i64 t1051)).setCell ⟨gb1054, 2, none⟩ (.int .i64 t1052))).cell? _ = some _ from hx1055_1)); (try have hy1055_2 := fun (n_ : Nat) => (show (((((w38.drewN n_).setCell ⟨gb1054, 0, none⟩ (.int .i64 t1050)).setCell ⟨gb1054, 1, none⟩ (.int .i64 t1051)).setCell ⟨gb1054, 2, none⟩ (.int .i64 t1052))).cell? _ = some _ from hx1055_2)); (try have hy1055_3 := fun (n_ : Nat) => (show (((((w38.drewN n_).setCell ⟨gb1054, 0, none⟩ (.int .i64 t1050)).setCell ⟨gb1054, 1, none⟩ (.int .i64 t1051)).setCell ⟨gb1054, 2, none⟩ (.int .i64 t1052))).cell? _ = some _ from hx1055_3)); (try have hy1055_4 := fun (n_ : Nat) => (show (((((w38.drewN n_).setCell ⟨gb1054, 0, none⟩ (.int .i64 t1050)).setCell ⟨gb1054, 1, none⟩ (.int .i64 t1051)).setCell ⟨gb1054, 2, none⟩ (.int .i64 t1052))).cell? _ = some _ from hx1055_4)); clear hn1055_0; clear hn1055_1; clear hn1055_2; replace p1055 := eq_true p1055; replace q1055 := eq_true q1055)))
       go_roundg k3
       case measure => have := HJ1.out; have := HK2.out; have := HK3.out; omega
       case rel => exact ⟨(wrap64 (x4_3 + 1)), rsd, H', ⟨by have := HJ1.out; have := HK2.out; have := HK3.out; omega⟩, ⟨bf BK1042⟩, ⟨tb HB⟩⟩
def impl_WordOk.f (a0_0 : Int) (a0_1 : Int) (a0_2 : Int) (a1 : Int) : Option (Bool) := if a0_1 = 0 then ((impl_isWordNum.f a0_0).bind fun t1107 => (if t1107 = true then (some (a0_2 == 0)) else (some false))) else (if a0_0 = 0 then ((impl_from.f a0_1 1 a1).bind fun t1108 => (if t1108 = true then ((impl_from.f a0_2 1 1000000).bind fun t1109 => (some t1109)) else (some false))) else (some false))
set_option maxHeartbeats 8000000 in
set_option maxRecDepth 100000 in
theorem impl_WordOk.calls (a0_0 : Int) (a0_1 : Int) (a0_2 : Int) (a1 : Int) (r : Bool) (w : World) (h : impl_WordOk.f a0_0 a0_1 a0_2 a1 = some r) :
  Calls Try.prog 183 #[.agg #[.int .i64 a0_0, .int .i64 a0_1, .int .i64 a0_2], .int .i64 a1] w fun e w' => e = .returned (.bool r) ∧ Below w.heap.size w w' := by
 have hu141 := Try.underlying141
 have HB := Aside0.mk (Below.refl w.heap.size w)
 have H := h
 clear h
 unfold impl_WordOk.f at H
 by_cases c3 : a0_1 = 0
 case pos =>
  rw [if_pos c3] at H
  have c3b0 : (a0_1 == 0) = true := beq_iff_eq.mpr c3
  have c3b1 : (a0_1 != 0) = false := bne_eq_false_iff_eq.mpr c3
  clear c3
  obtain ⟨t1107, A4, H⟩ := bn H
  try dsimp only at H
  cases t1107
  case true =>
   replace H := ipt H
   obtain rfl := oin H
   go_enter Try.func183, Try.ntmps183
   go_wp2_with (first | ((with_reducible refine gq 2 rfl ?_); refine bx0 HB (N := 2) (t := 141) ?_; clear HB; intro gb1106 w6 BK1106 GE1106 HB; have hz7 := cs3_ BK1106) | ((with_reducible refine gf 89 rfl ?_); refine gL 10 Try.func89 #[.int .i64 a0_0] ?_; (with_reducible refine (impl_isWordNum.calls a0_0 true _ A4.out).mono ?_); rintro e w' ⟨rfl, ⟨nd, rfl⟩⟩; refine ⟨_, rfl, ?_⟩))
   go_ret
   exact ⟨er, tb HB⟩
  replace H := ipf H
  obtain rfl := oin H
  go_enter Try.func183, Try.ntmps183
  go_wp2_with (first | ((with_reducible refine gq 2 rfl ?_); refine bx0 HB (N := 2) (t := 141) ?_; clear HB; intro gb1106 w8 BK1106 GE1106 HB; have hz9 := cs3_ BK1106) | ((with_reducible refine gf 89 rfl ?_); refine gL 10 Try.func89 #[.int .i64 a0_0] ?_; (with_reducible refine (impl_isWordNum.calls a0_0 false _ A4.out).mono ?_); rintro e w' ⟨rfl, ⟨nd, rfl⟩⟩; refine ⟨_, rfl, ?_⟩))
  go_ret
  exact ⟨er, tb HB⟩
 rw [if_neg c3] at H
 have c3b0 : (a0_1 == 0) = false := beq_eq_false_iff_ne.mpr c3
 have c3b1 : (a0_1 != 0) = true := bne_iff_ne.mpr c3
 by_cases c10 : a0_0 = 0
 case neg =>
  rw [if_neg c10] at H
  have c10b0 : (a0_0 == 0) = false := beq_eq_false_iff_ne.mpr c10
  have c10b1 : (a0_0 != 0) = true := bne_iff_ne.mpr c10
  obtain rfl := oin H
  go_enter Try.func183, Try.ntmps183
  go_wp2_with (first | ((with_reducible refine gq 2 rfl ?_); refine bx0 HB (N := 2) (t := 141) ?_; clear HB; intro gb1106 w18 BK1106 GE1106 HB; have hz19 := cs3_ BK1106))
  go_ret
  exact ⟨er, tb HB⟩
 
 
 rw [if_pos c10] at H
 have c10b0 : (a0_0 == 0) = true := beq_iff_eq.mpr c10
 have c10b1 : (a0_0 != 0) = false := bne_eq_false_iff_eq.mpr c10
 clear c10
 obtain ⟨t1108, A11, H⟩ := bn H
 try dsimp only at H
 cases t1108
 case false =>
  replace H := ipf H
  obtain rfl := oin H
  go_enter Try.func183, Try.ntmps183
  go_wp2_with (first | ((with_reducible refine gq 2 rfl ?_); refine bx0 HB (N := 2) (t := 141) ?_; clear HB; intro gb1106 w16 BK1106 GE1106 HB; have hz17 := cs3_ BK1106) | (go_at_call 85; (with_reducible refine (impl_from.calls a0_1 1 a1 false _ A11.out).mono ?_); rintro e w' ⟨rfl, ⟨nd, rfl⟩⟩))
  go_ret
  exact ⟨er, tb HB⟩
 replace H := ipt H
 obtain ⟨t1109, A13, H⟩ := bn H
 try dsimp only at H
 obtain rfl := oin H
 go_enter Try.func183, Try.ntmps183
 go_wp2_with (first | ((with_reducible refine gq 2 rfl ?_); refine bx0 HB (N := 2) (t := 141) ?_; clear HB; intro gb1106 w14 BK1106 GE1106 HB; have hz15 := cs3_ BK1106) | (go_at_call 85; (with_reducible refine (impl_from.calls a0_1 1 a1 true _ A11.out).mono ?_); rintro e w' ⟨rfl, ⟨nd, rfl⟩⟩) | (go_at_call 85; (with_reducible refine (impl_from.calls a0_2 1 1000000 t1109 _ A13.out).mono ?_); rintro e w' ⟨rfl, ⟨nd, rfl⟩⟩))
 go_ret
 exact ⟨er, tb HB⟩
def spec_l6Descs.l0 : Nat → List (S145) → List (S145) → Int → Option ((List (S145)))
 | 0, _, _, _ => none
 | k + 1, x0, x3, x4 => if x4 < (x0.length : Int) then (if 0 ≤ x4 then ((spec_l6Desc.f ((rd_T145 x0 x4).f0) ((rd_T145 x0 x4).f1) ((rd_T145 x0 x4).f2) ((rd_T145 x0 x4).f3.f0) ((rd_T145 x0 x4).f3.f1)).bind fun bt1224 => (if x3.length < 1954687338268 then (spec_l6Descs.l0 k x0 (x3 ++ [(⟨bt1224.1, bt1224.2.1, bt1224.2.2.1, (⟨bt1224.2.2.2.1, bt1224.2.2.2.2⟩ : S70)⟩ : S145)]) (wrap64 (x4 + 1))) else (none))) else (none)) else (some x3)
def spec_l6Descs.f (k : Nat) (l0 : List (S145)) : Option ((List (S145))) := spec_l6Descs.l0 k l0 (([] : List (S145))) 0
set_option maxHeartbeats 8000000 in
set_option maxRecDepth 100000 in
theorem spec_l6Descs.calls (k : Nat) (A0 : Option Addr) (c0 : Nat) (l0 : List (S145)) (r : List (S145)) (w : World) (hr0 : Kd.C k145 w A0 l0.length l0) (hc0 : l0.length ≤ c0) (h : spec_l6Descs.f k l0 = some r) :
  Calls Try.prog 185 #[.slice A0 l0.length c0] w fun e w' => ∃ v0_ : Value, e = .returned (v0_) ∧ Kd.S k145 145 w' w.heap.size (fun _ => True) v0_ r ∧ Below w.heap.size w w' := by
 have hu145 := Try.underlying145
 have HR0 := Aside0.mk hr0
 have HC0 := Aside0.mk hc0
 clear hr0 hc0
 have HB := Aside0.mk (Below.refl w.heap.size w)
 have H := h
 clear h
 unfold spec_l6Descs.f at H
 obtain ⟨y1220, hy1220⟩ : ∃ y_ : List (S145), y_ = (([] : List (S145))) := ⟨_, rfl⟩
 replace H : (spec_l6Descs.l0 k l0 y1220 0) = some r := by first | (rw [hy1220]; with_reducible exact H) | (have H2_ := (Option.bind_some _ _).symm.trans H; rw [hy1220]; with_reducible exact H2_) | (have H2_ := (Option.bind_some _ _).symm.trans H; with_reducible exact H2_) | with_reducible exact H | (rw [hy1220]; exact H) | exact H
 have Ny1220 := Aside0.mk hy1220
 clear hy1220
 have H' := Aside0.mk H
 clear H
 go_enter Try.func185, Try.ntmps185
 go_wp2_with (first | ((with_reducible refine gq 5 rfl ?_); refine Kd.S_lit k145 _ 145 ?hg (N := 5) ?hd (xs := ([] : List (S145))) (inner := []) (ok := fun _ => True) (okp := fun _ => True) ?hr ?hp (fun _ hk => hk) trivial (Below.refl _ _) (Nat.le_refl _) (by simp) ?_; (case hd => rfl); (case hg => rfl); (case hr => first | (go_simp; done) | (go_simp; rfl)); (case hp => exact (Reps.none _ _)); intro v1221 w2 ho3 hb hg_ hnew_; clear hg_ hnew_; (first | rw [← Ny1220.out] at ho3 | (simp only [Int.reduceToNat] at ho3; rw [← Ny1220.out] at ho3)); have HO1222 := Aside0.mk (Kd.S_lower ho3 (below_size (tb HB))); replace HB := bs HB hb; clear hb ho3))
 go_loopg [3, 4] k (fun kq v3 v4 w' => ∃ (x3_1 : List (S145)) (x4_1 : Int), v4 = .int .i64 x4_1 ∧ Aside0 (spec_l6Descs.l0 kq l0 x3_1 x4_1 = some r) ∧ Aside0 (kq ≤ k) ∧ Aside0 (Kd.S k145 145 w' w.heap.size (fun _ => True) v3 x3_1) ∧ Aside0 (Below w.heap.size w w'))
 case atStart => exact ⟨(y1220), (0), rsd, H', ⟨Nat.le_refl _⟩, ⟨by (with_reducible repeat (first | apply Kd.S_alloc | apply Kd.S_drewN | apply Kd.S_drew)); exact HO1222.out⟩, ⟨tb HB⟩⟩
 case round =>
  clear H'
  obtain ⟨x3_1, x4_1, rfl, HA, HK1, HO_3, HB⟩ := hrel
  cases gk with
  | zero => exact absurd HA.out (by simp [spec_l6Descs.l0])
  | succ k1 =>
   have H := HA.out
   clear HA
   simp only [spec_l6Descs.l0] at H
   revert H; refine icd (fun c4b0 H => ?_) fun c4b0 H => ?neg
   case neg =>
    obtain rfl := oin H
    go_wp2
    go_ret
    exact ⟨_, er, by (with_reducible repeat (first | apply Kd.S_alloc | apply Kd.S_drewN | apply Kd.S_drew)); exact HO_3.out, tb HB⟩
   obtain ⟨c5b0, H⟩ := itd H
   obtain ⟨⟨t1224, t1225, t1226, t1229, t1230⟩, A6, H⟩ := bn H
   try dsimp only at H
   by_cases c7 : x3_1.length < 1954687338268
   case neg =>
    rw [if_neg c7] at H
    exact absurd H (by simp)
   rw [if_pos c7] at H
   have LMc7 := Aside0.mk c7
   clear c7
   obtain ⟨y1233, hy1233⟩ : ∃ y_ : List (S145), y_ = (x3_1 ++ [(⟨t1224, t1225, t1226, (⟨t1229, t1230⟩ : S70)⟩ : S145)]) := ⟨_, rfl⟩
   replace H : (spec_l6Descs.l0 k1 l0 y1233 (wrap64 (x4_1 + 1))) = some r := by first | (rw [hy1233]; with_reducible exact H) | (have H2_ := (Option.bind_some _ _).symm.trans H; rw [hy1233]; with_reducible exact H2_) | (have H2_ := (Option.bind_some _ _).symm.trans H; with_reducible exact H2_) | with_reducible exact H | (rw [hy1233]; exact H) | exact H
   have Ny1233 := Aside0.mk hy1233
   clear hy1233
   have H' := Aside0.mk H
   clear H
   have p1223 : 0 ≤ (x4_1 : Int) := od
   have q1223 : x4_1 < (l0.length : Int) := od
   obtain ⟨ad1223, A1223_2, c1223_2, A1223_4, c1223_4, e1223, hx1223, hl1223_2, hi1223_2, hl1223_4, hi1223_4⟩ := att145 HR0.out x4_1 p1223 q1223
   cases e1223
   replace hx1223 := ox5 HB hx1223
   have HR1223_2 := Aside0.mk hi1223_2
   have HC1223_2 := Aside0.mk hl1223_2
   clear hi1223_2 hl1223_2
   have HR1223_4 := Aside0.mk hi1223_4
   have HC1223_4 := Aside0.mk hl1223_4
   clear hi1223_4 hl1223_4
   replace p1223 := eq_true p1223
   replace q1223 := eq_true q1223
   go_wp2_with (first | ((with_reducible refine gf 196 rfl ?_); refine gL 17 Try.func196 #[.agg #[.int .i64 ((rd_T145 l0 x4_1).f0), .int .i64 ((rd_T145 l0 x4_1).f1), .slice A1223_2 ((rd_T145 l0 x4_1).f2).length c1223_2, .int .i64 ((rd_T145 l0 x4_1).f3.f0), .slice A1223_4 ((rd_T145 l0 x4_1).f3.f1).length c1223_4]] ?_; (with_reducible refine (spec_l6Desc.calls ((rd_T145 l0 x4_1).f0) ((rd_T145 l0 x4_1).f1) _ _ ((rd_T145 l0 x4_1).f2) ((rd_T145 l0 x4_1).f3.f0) _ _ ((rd_T145 l0 x4_1).f3.f1) t1224 t1225 t1226 t1229 t1230 _ (kc HR1223_2 HB) HC1223_2.out (kc HR1223_4 HB) HC1223_4.out A6.out).mono ?_); rintro e w8 ⟨v1227, v1231, rfl, ho0, ho1, hb⟩; refine ⟨_, rfl, ?_⟩; replace HO_3 := Aside0.mk (Kd.S_mono (Kd.S_told (Kd.S_told (Kd.S_old (by (with_reducible repeat (first | apply Kd.S_alloc | apply Kd.S_drewN | apply Kd.S_drew)); exact HO_3.out) hb) (Kd.R_base ho0)) (Kd.R_base ho1)) (fun _ h_ => h_.1)); have HO1228 := Aside0.mk (Kd.R_lower ho0 (below_size (tb HB))); have HO1232 := Aside0.mk (Kd.R_lower ho1 (below_size (tb HB))); replace HB := bs HB hb; (try clear hb); (try clear ho0); (try clear ho1); obtain ⟨Ao10, co10, eo10⟩ := Kd.R_slice HO1228.out; subst eo10; obtain ⟨Ao11, co11, eo11⟩ := Kd.R_slice HO1232.out; subst eo11) | ((with_reducible refine gate_builtin (b := .append) (xs := #[.tmp 12, .tmp 18]) rfl ?_); at_builtin; refine Kd.S_append k145 (w0 := w) w.heap.size rfl (.tmp 12) (.tmp 18) 49 145 (.agg #[(.int .i64 0), (.int .i64 0), (.slice none 0 0), (.int .i64 0), (.slice none 0 0)]) 72 rfl Try.underlying49 info145 rfl (by decide) (by omega) u3 x3_1 (⟨t1224, t1225, t1226, (⟨t1229, t1230⟩ : S70)⟩ : S145) [.int .i64 t1224, .int .i64 t1225, .slice Ao10 t1226.length co10, .int .i64 t1229, .slice Ao11 t1230.length co11] (fun _ => True) (fun k_ => some k_ = (.slice Ao10 t1226.length co10 : Value).ownBlock ∨ some k_ = (.slice Ao11 t1230.length co11 : Value).ownBlock) rfl rfl ?aP (fun k_ hk_ => hk_.elim (fun h_ => ((Kd.R_mono (ok' := fun k_ => ((fun _ => True)) k_ ∧ some k_ ≠ (u3 : Value).ownBlock) (Kd.R_apart' (HO1228.out) (Kd.S_typed HO_3.out) (by decide)) (fun k_ hk => ⟨trivial, hk.2⟩))).1 k_ h_.symm) (fun h_ => ((Kd.R_mono (ok' := fun k_ => ((fun _ => True)) k_ ∧ some k_ ≠ (u3 : Value).ownBlock) (Kd.R_apart' (HO1232.out) (Kd.S_typed HO_3.out) (by decide)) (fun k_ hk => ⟨trivial, hk.2⟩))).1 k_ h_.symm)) ?aF ?aO ?aB ?aS ?aL ?_; (case aP => exact k145_mkM _ _ _ (⟨t1224, t1225, t1226, (⟨t1229, t1230⟩ : S70)⟩ : S145) (Kd.R_mono (Kd.R_tight rfl (Kd.R_mono (ok' := fun k_ => ((fun _ => True)) k_ ∧ some k_ ≠ (u3 : Value).ownBlock) (Kd.R_apart' (HO1228.out) (Kd.S_typed HO_3.out) (by decide)) (fun k_ hk => ⟨trivial, hk.2⟩))) (fun _ h_ => Or.inl h_)) (Kd.R_mono (Kd.R_tight rfl (Kd.R_mono (ok' := fun k_ => ((fun _ => True)) k_ ∧ some k_ ≠ (u3 : Value).ownBlock) (Kd.R_apart' (HO1232.out) (Kd.S_typed HO_3.out) (by decide)) (fun k_ hk => ⟨trivial, hk.2⟩))) (fun _ h_ => Or.inr (h_)))); (case aB => exact (tb HB)); (case aF => exact (fun _ _ => trivial)); (case aO => exact (by (with_reducible repeat (first | apply Kd.S_alloc | apply Kd.S_drewN | apply Kd.S_drew)); exact Kd.S_mono HO_3.out (fun k_ hk => ⟨trivial, fun e_ => e_.elim (fun h_ => hk.1.2 h_) (fun h_ => hk.2 h_)⟩))); (case aS => exact (below_size (tb HB))); (case aL => have := LMc7.out; omega); intro v1234 w9 ho hb hg hat; rw [← Ny1233.out] at ho; replace HB := Aside0.mk (hb); have HO1235 := Aside0.mk (ho); clear HO_3 HO1228 HO1232; clear ho hb hg hat))
   go_roundg k1
   case measure => have := HK1.out; omega
   case rel => exact ⟨(y1233), (wrap64 (x4_1 + 1)), rsd, H', ⟨by have := HK1.out; omega⟩, ⟨by (with_reducible repeat (first | apply Kd.S_alloc | apply Kd.S_drewN | apply Kd.S_drew)); exact HO1235.out⟩, ⟨tb HB⟩⟩
def impl_copyMem.l0 : Nat → List (S145) → Int → Int → List (S141) → List (S145) → Option ((List (S141)) × (List (S145)))
 | 0, _, _, _, _, _ => none
 | k + 1, x11, x12, x13, x1304000, x1304001 => if x13 < x12 then (if 0 ≤ x13 then (if x13 < (x11.length : Int) then ((impl_Entry.f ((rd_T145 x11 x13).f2)).bind fun t1306 => ((impl_copyRes.f ((rd_T145 x11 x13).f3.f0) ((rd_T145 x11 x13).f3.f1)).bind fun bt1309 => (if x1304001.length < 1954687338268 then (impl_copyMem.l0 k x11 x12 (wrap64 (x13 + 1)) x1304000 (x1304001 ++ [(⟨(rd_T145 x11 x13).f0, (rd_T145 x11 x13).f1, t1306, (⟨bt1309.1, bt1309.2⟩ : S70)⟩ : S145)])) else (none)))) else (none)) else (none)) else (some (x1304000, x1304001))
def impl_copyMem.f (k : Nat) (l0_0 : List (S141)) (l0_1 : List (S145)) : Option ((List (S141)) × (List (S145))) := (impl_Word_186.f l0_0).bind fun t1300 => (impl_copyMem.l0 k l0_1 (l0_1.length : Int) 0 t1300 ([] : List (S145)))
set_option maxHeartbeats 8000000 in
set_option maxRecDepth 100000 in
theorem impl_copyMem.calls (k : Nat) (A0_0 : Option Addr) (c0_0 : Nat) (l0_0 : List (S141)) (A0_1 : Option Addr) (c0_1 : Nat) (l0_1 : List (S145)) (r1 : List (S141)) (r2 : List (S145)) (w : World) (hr0_0 : Kd.C k141 w A0_0 l0_0.length l0_0) (hc0_0 : l0_0.length ≤ c0_0) (hr0_1 : Kd.C k145 w A0_1 l0_1.length l0_1) (hc0_1 : l0_1.length ≤ c0_1) (h : impl_copyMem.f k l0_0 l0_1 = some (r1, r2)) :
  Calls Try.prog 137 #[.agg #[.slice A0_0 l0_0.length c0_0, .slice A0_1 l0_1.length c0_1]] w fun e w' => ∃ v0_ v1_ : Value, e = .returned (.agg #[v0_, v1_]) ∧ Kd.R k141 141 w' w.heap.size (fun _ => True) v0_ r1 ∧ Kd.S k145 145 w' w.heap.size (fun _ => True) v1_ r2 ∧ Below w.heap.size w w' := by
 have hu88 := Try.underlying88
 have hu145 := Try.underlying145
 have hu70 := Try.underlying70
 have HR0_0 := Aside0.mk hr0_0
 have HC0_0 := Aside0.mk hc0_0
 clear hr0_0 hc0_0
 have HR0_1 := Aside0.mk hr0_1
 have HC0_1 := Aside0.mk hc0_1
 clear hr0_1 hc0_1
 have HB := Aside0.mk (Below.refl w.heap.size w)
 have H := h
 clear h
 unfold impl_copyMem.f at H
 obtain ⟨t1300, A2, H⟩ := bn H
 try dsimp only at H
 have H' := Aside0.mk H
 clear H
 go_enter Try.func137, Try.ntmps137
 go_wp2_with (first | ((with_reducible refine gq 1 rfl ?_); refine bx0 HB (N := 1) (t := 88) ?_; clear HB; intro gb1298 w3 BK1298 GE1298 HB) | ((with_reducible refine gq 2 rfl ?_); refine bx1 HB BK1298 (N := 2) (cs := #[.slice none 0 0, .slice none 0 0]) (t := 88) ?_; clear HB BK1298; intro gb1299 w4 BK1299 GE1299 HB NB1298_1299 NB1299_1298 BK1298; have hnb5 := NB1298_1299.out; have hnc5 := NB1299_1298.out; have hz6 := cs2_ BK1298) | ((with_reducible refine gf 186 rfl ?_); refine gL 8 Try.func186 #[.slice A0_0 l0_0.length c0_0] ?_; (with_reducible refine (impl_Word_186.calls _ _ l0_0 t1300 _ (kc HR0_0 HB) HC0_0.out A2.out).mono ?_); rintro e w7 ⟨v1301, rfl, ho0, hb⟩; refine ⟨_, rfl, ?_⟩; have HO1302 := Aside0.mk (Kd.R_lower ho0 (below_size (tb HB))); replace BK1298 := bb BK1298 hb; replace BK1299 := bb BK1299 hb; replace HB := bs HB hb; (try clear hb); (try clear ho0); obtain ⟨Ao8, co8, eo8⟩ := Kd.R_slice HO1302.out; subst eo8) | ((with_reducible refine gq 3 rfl ?_); refine bx (N := 3) (cs := #[.slice none 0 0, .slice none 0 0]) (t := 88) ?_; intro gb1303 hg w9 hbox hb; replace HO1302 := rb HO1302 hb; have BK1303 := Aside0.mk (hbox); have GE1303 := Aside0.mk (ge_ hg HB); replace HB := bs HB hb; have NB1298_1303 := Aside0.mk (nl_ hg BK1298); have NB1303_1298 := Aside0.mk (ng_ hg BK1298); replace BK1298 := bb BK1298 hb; have NB1299_1303 := Aside0.mk (nl_ hg BK1299); have NB1303_1299 := Aside0.mk (ng_ hg BK1299); replace BK1299 := bb BK1299 hb; clear hb hbox hg; have hnb10 := NB1303_1298.out; have hnc10 := NB1298_1303.out; have hnb11 := NB1303_1299.out; have hnc11 := NB1299_1303.out; have hz12 := cs2_ BK1303; have hz13 := cs2_ BK1298))
 go_loopg [13] k (fun kq v13 w' => ∃ (x13_1 : Int) (x1304001_1 : List (S145)) (u1304001 : Value), v13 = .int .i64 x13_1 ∧ Aside0 (impl_copyMem.l0 kq l0_1 (l0_1.length : Int) x13_1 t1300 x1304001_1 = some (r1, r2)) ∧ Aside0 (kq ≤ k) ∧ Aside0 (Kd.R k141 141 w' w.heap.size (fun _ => True) (.slice Ao8 t1300.length co8) t1300) ∧ Aside0 (Kd.S k145 145 w' w.heap.size (fun _ => True) u1304001 x1304001_1) ∧ Aside0 (w'.heap[gb1298]? = some (.cells #[(.slice A0_0 l0_0.length c0_0), (.slice A0_1 l0_1.length c0_1)] 88 (0, 0))) ∧ Aside0 (w'.heap[gb1299]? = some (.cells #[(.slice none 0 0), (.slice none 0 0)] 88 (0, 0))) ∧ Aside0 (w'.heap[gb1303]? = some (.cells #[(.slice Ao8 t1300.length co8), u1304001] 88 (0, 0))) ∧ Aside0 (Below w.heap.size w w'))
 case atStart => exact ⟨(0), (([] : List (S145))), (.slice none 0 0), rsd, H', ⟨Nat.le_refl _⟩, ⟨by (with_reducible repeat (first | apply Kd.R_alloc | apply Kd.R_drewN | apply Kd.R_drew)); exact Kd.R_mono (Kd.R_far (p := ⟨gb1303, 1, none⟩) (Kd.R_far (p := ⟨gb1303, 0, none⟩) (Kd.R_types HO1302.out BK1303.out (by decide)) (fun _ hk => hk.2) (.slice Ao8 t1300.length co8)) (fun _ hk => hk.2) (.slice none 0 0)) (fun _ hk => trivial)⟩, ⟨by first | exact Kd.S_nil _ _ _ _ _ | exact Kd.N_nil _ _ _ _ _ | exact Kd.V_nil _ _ _ _ _ | exact Kd.Q_nil _ _ _ _ _ | exact Kd.R_nil _ _ _ _ _⟩, ⟨bf BK1298⟩, ⟨bf BK1299⟩, ⟨bfp2 BK1303⟩, ⟨tb HB⟩⟩
 case round =>
  clear H'
  obtain ⟨x13_1, x1304001_1, u1304001, rfl, HA, HK1, HO_1304000, HO_1304001, BK1298, BK1299, BK1303, HB⟩ := hrel
  cases gk with
  | zero => exact absurd HA.out (by simp [impl_copyMem.l0])
  | succ k1 =>
   have H := HA.out
   clear HA
   simp only [impl_copyMem.l0] at H
   revert H; refine icd (fun c14b0 H => ?_) fun c14b0 H => ?neg
   case neg =>
    simp only [Option.some.injEq, Prod.mk.injEq] at H
    obtain ⟨rfl, rfl⟩ := H
    have hnb39 := NB1303_1298.out
    have hnc39 := NB1298_1303.out
    have hnb40 := NB1303_1299.out
    have hnc40 := NB1299_1303.out
    have hz41 := cs2_ BK1303
    have hnb42 := NB1299_1298.out
    have hnc42 := NB1298_1299.out
    have hz43 := cs2_ BK1299
    obtain ⟨Ao44, co44, eo44⟩ := Kd.S_slice HO_1304001.out
    subst eo44
    go_wp2
    refine bodyPost_ret (results_cell_row rfl _ _ gb1299 88 #[.slice Ao8 t1300.length co8, .slice Ao44 x1304001_1.length co44] (0, 0) _ rfl (bfp2 BK1299) Try.underlying88 rfl (by kernel_rfl)) rfl ?_
    exact ⟨_, _, er, by (with_reducible repeat (first | apply Kd.R_alloc | apply Kd.R_drewN | apply Kd.R_drew)); exact Kd.R_mono (Kd.R_far (p := ⟨gb1299, 1, none⟩) (Kd.R_far (p := ⟨gb1299, 0, none⟩) (Kd.R_types HO_1304000.out BK1299.out (by decide)) (fun _ hk => hk.2) (.slice Ao8 t1300.length co8)) (fun _ hk => hk.2) (.slice Ao44 x1304001_1.length co44)) (fun _ hk => trivial), by (with_reducible repeat (first | apply Kd.S_alloc | apply Kd.S_drewN | apply Kd.S_drew)); exact Kd.S_mono (Kd.S_far (p := ⟨gb1299, 1, none⟩) (Kd.S_far (p := ⟨gb1299, 0, none⟩) (Kd.S_types HO_1304001.out BK1299.out (by decide)) (fun _ hk => hk.2) (.slice Ao8 t1300.length co8)) (fun _ hk => hk.2) (.slice Ao44 x1304001_1.length co44)) (fun _ hk => trivial), tb HB⟩
   obtain ⟨c15b0, H⟩ := itd H
   obtain ⟨c16b0, H⟩ := itd H
   obtain ⟨t1306, A17, H⟩ := bn H
   try dsimp only at H
   obtain ⟨⟨t1309, t1310⟩, A18, H⟩ := bn H
   try dsimp only at H
   by_cases c19 : x1304001_1.length < 1954687338268
   case neg =>
    rw [if_neg c19] at H
    exact absurd H (by simp)
   rw [if_pos c19] at H
   have LMc19 := Aside0.mk c19
   clear c19
   obtain ⟨y1313, hy1313⟩ : ∃ y_ : List (S145), y_ = (x1304001_1 ++ [(⟨(rd_T145 l0_1 x13_1).f0, (rd_T145 l0_1 x13_1).f1, t1306, (⟨t1309, t1310⟩ : S70)⟩ : S145)]) := ⟨_, rfl⟩
   replace H : (impl_copyMem.l0 k1 l0_1 (l0_1.length : Int) (wrap64 (x13_1 + 1)) t1300 y1313) = some (r1, r2) := by first | (rw [hy1313]; with_reducible exact H) | (have H2_ := (Option.bind_some _ _).symm.trans H; rw [hy1313]; with_reducible exact H2_) | (have H2_ := (Option.bind_some _ _).symm.trans H; with_reducible exact H2_) | with_reducible exact H | (rw [hy1313]; exact H) | exact H
   have Ny1313 := Aside0.mk hy1313
   clear hy1313
   have H' := Aside0.mk H
   clear H
   have p1304 : 0 ≤ (x13_1 : Int) := od
   have q1304 : x13_1 < (l0_1.length : Int) := od
   obtain ⟨ad1304, A1304_2, c1304_2, A1304_4, c1304_4, e1304, hx1304, hl1304_2, hi1304_2, hl1304_4, hi1304_4⟩ := att145 HR0_1.out x13_1 p1304 q1304
   cases e1304
   replace hx1304 := ox5 HB hx1304
   have HR1304_2 := Aside0.mk hi1304_2
   have HC1304_2 := Aside0.mk hl1304_2
   clear hi1304_2 hl1304_2
   have HR1304_4 := Aside0.mk hi1304_4
   have HC1304_4 := Aside0.mk hl1304_4
   clear hi1304_4 hl1304_4
   replace p1304 := eq_true p1304
   replace q1304 := eq_true q1304
   go_wp2_with (first | ((with_reducible refine gq 5 rfl ?_); refine bx (N := 5) (cs := #[.int .i64 0, .int .i64 0, .slice none 0 0, .int .i64 0, .slice none 0 0]) (t := 145) ?_; intro gb1305 hg w20 hbox hb; replace HO_1304000 := rb HO_1304000 hb; replace HO_1304001 := Aside0.mk (Kd.S_below (Kd.S_elderB (by (with_reducible repeat (first | apply Kd.S_alloc | apply Kd.S_drewN | apply Kd.S_drew)); exact HO_1304001.out) gb1305 (Nat.le_of_eq hg.symm)) hb); have BK1305 := Aside0.mk (hbox); have GE1305 := Aside0.mk (ge_ hg HB); replace HB := bs HB hb; have NB1298_1305 := Aside0.mk (nl_ hg BK1298); have NB1305_1298 := Aside0.mk (ng_ hg BK1298); replace BK1298 := bb BK1298 hb; have NB1299_1305 := Aside0.mk (nl_ hg BK1299); have NB1305_1299 := Aside0.mk (ng_ hg BK1299); replace BK1299 := bb BK1299 hb; have NB1303_1305 := Aside0.mk (nl_ hg BK1303); have NB1305_1303 := Aside0.mk (ng_ hg BK1303); replace BK1303 := bb BK1303 hb; clear hb hbox hg; have hnb21 := NB1305_1298.out; have hnc21 := NB1298_1305.out; have hnb22 := NB1305_1299.out; have hnc22 := NB1299_1305.out; have hnb23 := NB1305_1303.out; have hnc23 := NB1303_1305.out; have hz24 := cs5_ BK1305) | ((with_reducible refine gf 140 rfl ?_); refine gL 19 Try.func140 #[.slice A1304_2 ((rd_T145 l0_1 x13_1).f2).length c1304_2] ?_; (with_reducible refine (impl_Entry.calls _ _ ((rd_T145 l0_1 x13_1).f2) t1306 _ ?side1 HC1304_2.out A17.out).mono ?_); (case side1 => exact Kd.C_below HR1304_2.out (tb HB)); rintro e w25 ⟨v1307, rfl, ho0, hb⟩; refine ⟨_, rfl, ?_⟩; replace HO_1304000 := Aside0.mk (Kd.R_below (kr ((Kd.R_mono (Kd.R_far (p := ⟨gb1305, 4, none⟩) (Kd.R_far (p := ⟨gb1305, 3, none⟩) (Kd.R_far (p := ⟨gb1305, 2, none⟩) (Kd.R_far (p := ⟨gb1305, 1, none⟩) (Kd.R_far (p := ⟨gb1305, 0, none⟩) (Kd.R_types HO_1304000.out BK1305.out (by decide)) (fun _ hk => hk.2) (.int .i64 ((rd_T145 l0_1 x13_1).f0))) (fun _ hk => hk.2) (.int .i64 ((rd_T145 l0_1 x13_1).f1))) (fun _ hk => hk.2) (.slice A1304_2 ((rd_T145 l0_1 x13_1).f2).length c1304_2)) (fun _ hk => hk.2) (.int .i64 ((rd_T145 l0_1 x13_1).f3.f0))) (fun _ hk => hk.2) (.slice A1304_4 ((rd_T145 l0_1 x13_1).f3.f1).length c1304_4)) (fun _ h_ => h_.1)))) hb); replace HO_1304001 := Aside0.mk (Kd.S_elder' (by (with_reducible repeat (first | apply Kd.S_alloc | apply Kd.S_drewN | apply Kd.S_drew)); exact (Kd.S_mono (Kd.S_far (p := ⟨gb1305, 4, none⟩) (Kd.S_far (p := ⟨gb1305, 3, none⟩) (Kd.S_far (p := ⟨gb1305, 2, none⟩) (Kd.S_far (p := ⟨gb1305, 1, none⟩) (Kd.S_far (p := ⟨gb1305, 0, none⟩) (Kd.S_mono HO_1304001.out (fun k_ hk => (⟨hk, hk.2⟩ : _ ∧ k_ ≠ gb1305))) (fun _ hk => hk.2) (.int .i64 ((rd_T145 l0_1 x13_1).f0))) (fun _ hk => hk.2) (.int .i64 ((rd_T145 l0_1 x13_1).f1))) (fun _ hk => hk.2) (.slice A1304_2 ((rd_T145 l0_1 x13_1).f2).length c1304_2)) (fun _ hk => hk.2) (.int .i64 ((rd_T145 l0_1 x13_1).f3.f0))) (fun _ hk => hk.2) (.slice A1304_4 ((rd_T145 l0_1 x13_1).f3.f1).length c1304_4)) (fun _ h_ => h_.1))) (Kd.R_base ho0) hb); have HO1308 := Aside0.mk (Kd.R_lower ho0 (below_size (tb HB))); replace BK1298 := bbf BK1298 hb; replace BK1299 := bbf BK1299 hb; replace BK1303 := bbf BK1303 hb; replace BK1305 := bbp5 BK1305 hb; replace HB := bs HB hb; (try clear hb); (try clear hk); (try clear ho0); obtain ⟨Ao26, co26, eo26⟩ := Kd.R_slice HO1308.out; subst eo26; have hz27 := cs5_ BK1305) | ((with_reducible refine gf 141 rfl ?_); refine gL 23 Try.func141 #[.agg #[.int .i64 ((rd_T145 l0_1 x13_1).f3.f0), .slice A1304_4 ((rd_T145 l0_1 x13_1).f3.f1).length c1304_4]] ?_; (with_reducible refine (impl_copyRes.calls ((rd_T145 l0_1 x13_1).f3.f0) _ _ ((rd_T145 l0_1 x13_1).f3.f1) t1309 t1310 _ ?side1 HC1304_4.out A18.out).mono ?_); (case side1 => exact Kd.C_below HR1304_4.out (tb HB)); rintro e w28 ⟨v1311, rfl, ho0, hb⟩; refine ⟨_, rfl, ?_⟩; replace HO_1304000 := Aside0.mk (Kd.R_below (kr ((Kd.R_mono (Kd.R_far (p := ⟨gb1305, 2, none⟩) (Kd.R_types HO_1304000.out BK1305.out (by decide)) (fun _ hk => hk.2) (.slice Ao26 t1306.length co26)) (fun _ h_ => h_.1)))) hb); replace HO_1304001 := Aside0.mk (Kd.S_elder' (by (with_reducible repeat (first | apply Kd.S_alloc | apply Kd.S_drewN | apply Kd.S_drew)); exact (Kd.S_mono (Kd.S_far (p := ⟨gb1305, 2, none⟩) (Kd.S_mono HO_1304001.out (fun k_ hk => (⟨hk, hk.1.2⟩ : _ ∧ k_ ≠ gb1305))) (fun _ hk => hk.2) (.slice Ao26 t1306.length co26)) (fun _ h_ => h_.1))) (Kd.R_base ho0) hb); replace HO1308 := Aside0.mk (Kd.R_below (kr ((Kd.R_mono (Kd.R_far (p := ⟨gb1305, 2, none⟩) (Kd.R_types HO1308.out BK1305.out (by decide)) (fun _ hk => hk.2) (.slice Ao26 t1306.length co26)) (fun _ h_ => h_.1)))) hb); have HO1312 := Aside0.mk (Kd.R_lower ho0 (below_size (tb HB))); replace BK1298 := bbf BK1298 hb; replace BK1299 := bbf BK1299 hb; replace BK1303 := bbf BK1303 hb; replace BK1305 := Aside0.mk (blk_below (g := gb1305) (o := .cells #[.int .i64 ((rd_T145 l0_1 x13_1).f0), .int .i64 ((rd_T145 l0_1 x13_1).f1), .slice Ao26 t1306.length co26, .int .i64 ((rd_T145 l0_1 x13_1).f3.f0), .slice A1304_4 ((rd_T145 l0_1 x13_1).f3.f1).length c1304_4] 145 (0, 0)) (by (with_reducible repeat (first | refine blk_drewN ?_ _ | refine blk_drew ?_ | refine blk_alloc ?_ _)); refine blk_put (cs := #[.int .i64 ((rd_T145 l0_1 x13_1).f0), .int .i64 ((rd_T145 l0_1 x13_1).f1), .slice A1304_2 ((rd_T145 l0_1 x13_1).f2).length c1304_2, .int .i64 ((rd_T145 l0_1 x13_1).f3.f0), .slice A1304_4 ((rd_T145 l0_1 x13_1).f3.f1).length c1304_4]) ?_ 2 _ rfl; (with_reducible repeat (first | refine blk_drewN ?_ _ | refine blk_drew ?_ | refine blk_alloc ?_ _)); exact BK1305.out) hb); replace HB := bs HB hb; (try clear hb); (try clear hk); (try clear ho0); have hz29 := cs5_ BK1305; obtain ⟨Ao30, co30, eo30⟩ := Kd.R_slice HO1312.out; subst eo30) | ((with_reducible refine gate_store (t := 70) (p := 24) rfl ?_); refine store_event (t := 70) (p := 24) (v := ?vo_w31) (w1 := ((w28.setCell ⟨gb1305, 3, none⟩ (.int .i64 t1309)).setCell ⟨gb1305, 4, none⟩ (.slice Ao30 t1310.length co30))) ?hg ?ho ?hn ?hr ?_; (case ho => rfl); (case hg => rfl); (case hn => rfl); (case hr => first | (go_simp; done) | (go_simp; rfl)); intro w31 hw; have n0_ : Aside0 (Kd.R k141 141 w31 w.heap.size (fun _ => True) (.slice Ao8 t1300.length co8) t1300) := ⟨(by rw [hw]; exact (kr (Kd.R_mono (Kd.R_far (p := ⟨gb1305, 4, none⟩) (Kd.R_far (p := ⟨gb1305, 3, none⟩) (Kd.R_types HO_1304000.out BK1305.out (by decide)) (fun _ hk => hk.2) (.int .i64 t1309)) (fun _ hk => hk.2) (.slice Ao30 t1310.length co30)) (fun _ hk => trivial))))⟩; have n1_ : Aside0 (Kd.S k145 145 w31 w.heap.size (fun k_ => some k_ ≠ (.slice Ao26 t1306.length co26 : Value).ownBlock ∧ some k_ ≠ (.slice Ao30 t1310.length co30 : Value).ownBlock ∧ k_ ≠ gb1305) u1304001 x1304001_1) := ⟨(by rw [hw]; exact (by (with_reducible repeat (first | apply Kd.S_alloc | apply Kd.S_drewN | apply Kd.S_drew)); exact Kd.S_mono (Kd.S_far (p := ⟨gb1305, 4, none⟩) (Kd.S_far (p := ⟨gb1305, 3, none⟩) (Kd.S_mono HO_1304001.out (fun k_ hk => (⟨hk, hk.1.1.2⟩ : _ ∧ k_ ≠ gb1305))) (fun _ hk => hk.2) (.int .i64 t1309)) (fun _ hk => hk.2) (.slice Ao30 t1310.length co30)) (fun _ hk => ⟨hk.1.1.2, ⟨hk.1.2, hk.1.1.1.2⟩⟩)))⟩; have n2_ : Aside0 (Kd.R k166 166 w31 w.heap.size (fun _ => True) (.slice Ao26 t1306.length co26) t1306) := ⟨(by rw [hw]; exact (kr (Kd.R_mono (Kd.R_far (p := ⟨gb1305, 4, none⟩) (Kd.R_far (p := ⟨gb1305, 3, none⟩) (Kd.R_types HO1308.out BK1305.out (by decide)) (fun _ hk => hk.2) (.int .i64 t1309)) (fun _ hk => hk.2) (.slice Ao30 t1310.length co30)) (fun _ hk => trivial))))⟩; have n3_ : Aside0 (Kd.R (Kd.int .i64) 3 w31 w.heap.size (fun _ => True) (.slice Ao30 t1310.length co30) t1310) := ⟨(by rw [hw]; exact (kr (Kd.R_mono (Kd.R_far (p := ⟨gb1305, 4, none⟩) (Kd.R_far (p := ⟨gb1305, 3, none⟩) (Kd.R_types HO1312.out BK1305.out (by decide)) (fun _ hk => hk.2) (.int .i64 t1309)) (fun _ hk => hk.2) (.slice Ao30 t1310.length co30)) (fun _ hk => trivial))))⟩; have n4_ : Aside0 (w31.heap[gb1298]? = some (.cells #[.slice A0_0 l0_0.length c0_0, .slice (some ad1304) l0_1.length c0_1] 88 (0, 0))) := ⟨(by rw [hw]; exact (bf BK1298))⟩; have n5_ : Aside0 (w31.heap[gb1299]? = some (.cells #[.slice none 0 0, .slice none 0 0] 88 (0, 0))) := ⟨(by rw [hw]; exact (bf BK1299))⟩; have n6_ : Aside0 (w31.heap[gb1303]? = some (.cells #[.slice Ao8 t1300.length co8, u1304001] 88 (0, 0))) := ⟨(by rw [hw]; exact (bf BK1303))⟩; have n7_ : Aside0 (w31.heap[gb1305]? = some (.cells #[.int .i64 ((rd_T145 l0_1 x13_1).f0), .int .i64 ((rd_T145 l0_1 x13_1).f1), .slice Ao26 t1306.length co26, .int .i64 t1309, .slice Ao30 t1310.length co30] 145 (0, 0))) := ⟨(by rw [hw]; exact (by (with_reducible repeat (first | refine blk_drewN ?_ _ | refine blk_drew ?_ | refine blk_alloc ?_ _)); refine blk_put (cs := #[.int .i64 ((rd_T145 l0_1 x13_1).f0), .int .i64 ((rd_T145 l0_1 x13_1).f1), .slice Ao26 t1306.length co26, .int .i64 t1309, .slice A1304_4 ((rd_T145 l0_1 x13_1).f3.f1).length c1304_4]) ?_ 4 _ rfl; (with_reducible repeat (first | refine blk_drewN ?_ _ | refine blk_drew ?_ | refine blk_alloc ?_ _)); refine blk_put (cs := #[.int .i64 ((rd_T145 l0_1 x13_1).f0), .int .i64 ((rd_T145 l0_1 x13_1).f1), .slice Ao26 t1306.length co26, .int .i64 ((rd_T145 l0_1 x13_1).f3.f0), .slice A1304_4 ((rd_T145 l0_1 x13_1).f3.f1).length c1304_4]) ?_ 3 _ rfl; (with_reducible repeat (first | refine blk_drewN ?_ _ | refine blk_drew ?_ | refine blk_alloc ?_ _)); exact BK1305.out))⟩; have n8_ : Aside0 (Below w.heap.size w w31) := ⟨(by rw [hw]; exact (tb HB))⟩; clear hw; clear HO_1304000; clear HO_1304001; clear HO1308; clear HO1312; clear BK1298; clear BK1299; clear BK1303; clear BK1305; clear HB; have HO_1304000 := n0_; have HO_1304001 := n1_; have HO1308 := n2_; have HO1312 := n3_; have BK1298 := n4_; have BK1299 := n5_; have BK1303 := n6_; have BK1305 := n7_; have HB := n8_; clear n0_ n1_ n2_ n3_ n4_ n5_ n6_ n7_ n8_; have hnb32 := NB1303_1298.out; have hnc32 := NB1298_1303.out; have hnb33 := NB1303_1299.out; have hnc33 := NB1299_1303.out; have hz34 := cs2_ BK1303; have hz35 := cs5_ BK1305) | ((with_reducible refine gate_builtin (b := .append) (xs := #[.tmp 26, .tmp 28]) rfl ?_); at_builtin; refine Kd.S_append k145 (w0 := w) w.heap.size rfl (.tmp 26) (.tmp 28) 49 145 (.agg #[(.int .i64 0), (.int .i64 0), (.slice none 0 0), (.int .i64 0), (.slice none 0 0)]) 72 rfl Try.underlying49 info145 rfl (by decide) (by omega) u1304001 x1304001_1 (⟨(rd_T145 l0_1 x13_1).f0, (rd_T145 l0_1 x13_1).f1, t1306, (⟨t1309, t1310⟩ : S70)⟩ : S145) [.int .i64 ((rd_T145 l0_1 x13_1).f0), .int .i64 ((rd_T145 l0_1 x13_1).f1), .slice Ao26 t1306.length co26, .int .i64 t1309, .slice Ao30 t1310.length co30] (fun k_ => k_ ≠ gb1305) (fun k_ => some k_ = (.slice Ao26 t1306.length co26 : Value).ownBlock ∨ some k_ = (.slice Ao30 t1310.length co30 : Value).ownBlock) rfl rfl ?aP (fun k_ hk_ => hk_.elim (fun h_ => ((Kd.R_mono (ok' := fun k_ => ((fun k_ => k_ ≠ gb1305)) k_ ∧ some k_ ≠ (u1304001 : Value).ownBlock) (Kd.R_types (Kd.R_apart' (HO1308.out) (Kd.S_typed HO_1304001.out) (by decide)) BK1305.out (by decide)) (fun k_ hk => ⟨hk.2, hk.1.2⟩))).1 k_ h_.symm) (fun h_ => ((Kd.R_mono (ok' := fun k_ => ((fun k_ => k_ ≠ gb1305)) k_ ∧ some k_ ≠ (u1304001 : Value).ownBlock) (Kd.R_types (Kd.R_apart' (HO1312.out) (Kd.S_typed HO_1304001.out) (by decide)) BK1305.out (by decide)) (fun k_ hk => ⟨hk.2, hk.1.2⟩))).1 k_ h_.symm)) ?aF ?aO ?aB ?aS ?aL ?_; (case aP => exact k145_mkM _ _ _ (⟨(rd_T145 l0_1 x13_1).f0, (rd_T145 l0_1 x13_1).f1, t1306, (⟨t1309, t1310⟩ : S70)⟩ : S145) (Kd.R_mono (Kd.R_tight rfl (Kd.R_mono (ok' := fun k_ => ((fun k_ => k_ ≠ gb1305)) k_ ∧ some k_ ≠ (u1304001 : Value).ownBlock) (Kd.R_types (Kd.R_apart' (HO1308.out) (Kd.S_typed HO_1304001.out) (by decide)) BK1305.out (by decide)) (fun k_ hk => ⟨hk.2, hk.1.2⟩))) (fun _ h_ => Or.inl h_)) (Kd.R_mono (Kd.R_tight rfl (Kd.R_mono (ok' := fun k_ => ((fun k_ => k_ ≠ gb1305)) k_ ∧ some k_ ≠ (u1304001 : Value).ownBlock) (Kd.R_types (Kd.R_apart' (HO1312.out) (Kd.S_typed HO_1304001.out) (by decide)) BK1305.out (by decide)) (fun k_ hk => ⟨hk.2, hk.1.2⟩))) (fun _ h_ => Or.inr (h_)))); (case aB => exact (tb HB)); (case aF => exact (fun k_ hk => Kd.freshB (g := gb1305) (o := .cells #[.int .i64 ((rd_T145 l0_1 x13_1).f0), .int .i64 ((rd_T145 l0_1 x13_1).f1), .slice Ao26 t1306.length co26, .int .i64 t1309, .slice Ao30 t1310.length co30] 145 (0, 0)) (bk BK1305) k_ hk)); (case aO => exact (by (with_reducible repeat (first | apply Kd.S_alloc | apply Kd.S_drewN | apply Kd.S_drew)); exact Kd.S_mono HO_1304001.out (fun k_ hk => ⟨hk.2.2, fun e_ => e_.elim (fun h_ => hk.1 h_) (fun h_ => hk.2.1 h_)⟩))); (case aS => exact (below_size (tb HB))); (case aL => have := LMc19.out; omega); intro v1314 w36 ho hb hg hat; rw [← Ny1313.out] at ho; replace HO_1304000 := Aside0.mk (Kd.R_over' (kr HO_1304000.out) (Kd.S_typed (by (with_reducible repeat (first | apply Kd.S_alloc | apply Kd.S_drewN | apply Kd.S_drew)); exact HO_1304001.out)) (by decide) hg); replace BK1298 := Aside0.mk (blk_grown (g := gb1298) (o := .cells #[.slice A0_0 l0_0.length c0_0, .slice (some ad1304) l0_1.length c0_1] 88 (0, 0)) (bk BK1298) hg (Kd.S_ne HO_1304001.out BK1298.out (by decide))); replace BK1299 := Aside0.mk (blk_grown (g := gb1299) (o := .cells #[.slice none 0 0, .slice none 0 0] 88 (0, 0)) (bk BK1299) hg (Kd.S_ne HO_1304001.out BK1299.out (by decide))); replace BK1303 := Aside0.mk (blk_grown (g := gb1303) (o := .cells #[.slice Ao8 t1300.length co8, u1304001] 88 (0, 0)) (bk BK1303) hg (Kd.S_ne HO_1304001.out BK1303.out (by decide))); replace BK1305 := Aside0.mk (blk_grown (g := gb1305) (o := .cells #[.int .i64 ((rd_T145 l0_1 x13_1).f0), .int .i64 ((rd_T145 l0_1 x13_1).f1), .slice Ao26 t1306.length co26, .int .i64 t1309, .slice Ao30 t1310.length co30] 145 (0, 0)) (bk BK1305) hg (Kd.S_away HO_1304001.out (fun _ hk => hk.2.2))); replace HB := Aside0.mk (hb); have HO1315 := Aside0.mk (ho); clear HO_1304001 HO1308 HO1312; clear ho hb hg hat; obtain ⟨Ao37, co37, eo37⟩ := Kd.S_slice HO1315.out; subst eo37; have hz38 := cs2_ BK1303))
   go_roundg k1
   case measure => have := HK1.out; omega
   case rel => exact ⟨(wrap64 (x13_1 + 1)), (y1313), (.slice Ao37 y1313.length co37), rsd, H', ⟨by have := HK1.out; omega⟩, ⟨by (with_reducible repeat (first | apply Kd.R_alloc | apply Kd.R_drewN | apply Kd.R_drew)); exact Kd.R_mono (Kd.R_far (p := ⟨gb1303, 1, none⟩) (Kd.R_types HO_1304000.out BK1303.out (by decide)) (fun _ hk => hk.2) (.slice Ao37 y1313.length co37)) (fun _ hk => trivial)⟩, ⟨by (with_reducible repeat (first | apply Kd.S_alloc | apply Kd.S_drewN | apply Kd.S_drew)); exact Kd.S_mono (Kd.S_far (p := ⟨gb1303, 1, none⟩) (Kd.S_types HO1315.out BK1303.out (by decide)) (fun _ hk => hk.2) (.slice Ao37 y1313.length co37)) (fun _ hk => trivial)⟩, ⟨bf BK1298⟩, ⟨bf BK1299⟩, ⟨by (with_reducible repeat (first | refine blk_drewN ?_ _ | refine blk_drew ?_ | refine blk_alloc ?_ _)); refine blk_put (cs := #[.slice Ao8 t1300.length co8, u1304001]) ?_ 1 _ rfl; (with_reducible repeat (first | refine blk_drewN ?_ _ | refine blk_drew ?_ | refine blk_alloc ?_ _)); exact BK1303.out⟩, ⟨tb HB⟩⟩
end Go.Proofs.Ytopikhjcbcpiaaa.Q
section
namespace Go.Proofs.Ytopikhjcbcpiaaa.Q
open Go.RowKit Go.Proofs.YtopikhjcbcpiaaaW.PrintWords Go.Proofs.YtopikhjcbcpiaaaW.PrintLast Go.Proofs.YtopikhjcbcpiaaaW.PrintMore
set_option linter.unusedVariables false
structure DEv where
  i : Nat
  ext : List Nat
  c : Nat
  prev : Option Nat
  pre : List Nat
  know : List Nat
  use : List Nat
  G : (Nat → Value) → HP
def lastDone (E : List DEv) (s : List Nat) (c : Nat) : Option Nat := E.foldl (fun o e => if e.c == c && s.contains e.i then some e.i else o) none
def Gof (E : List DEv) (j : Nat) (u : Nat → Value) : HP := match E.find? (fun e => e.i == j) with | some e => e.G u | none => hE
def partOf (E : List DEv) (F : Nat → HP) (o : Option Nat) (c : Nat) (u : Nat → Value) : HP := match o with | some j => Gof E j u | none => F c
def parts (E : List DEv) (F : Nat → HP) (nc : Nat) (s : List Nat) (u : Nat → Value) : List HP := (List.range nc).map fun c => partOf E F (lastDone E s c) c u
def csubs (E : List DEv) : List (List Nat) := E.foldl (fun ss e => ss ++ (ss.filter (fun s => e.pre.all s.contains)).map (· ++ [e.i])) [[]]
def addTo (E : List DEv) (s : List Nat) (i : Nat) : List Nat := (E.map DEv.i).filter (fun j => j == i || s.contains j)
def setAll (l : Array Bool) (r : List Nat) : Array Bool := r.foldl (fun l j => l.setIfInBounds j true) l
def listed (E : List DEv) (l0 : Array Bool) (s : List Nat) : Array Bool := E.foldl (fun l e => if s.contains e.i then setAll (l.setIfInBounds e.i true) e.ext else l) l0
def extOk (md : Region.Mode) (ops : Array Oper) : Array Bool → List Nat → Bool
  | _, [] => true
  | l, j :: r => anyB md ops l (l.setIfInBounds j true) j && extOk md ops (l.setIfInBounds j true) r
def rem (E : List DEv) (s : List Nat) : Nat := ((E.filter fun e => !s.contains e.i).map fun e => 1 + e.ext.length).sum
def evOk (md : Region.Mode) (ops : Array Oper) (E : List DEv) (nc : Nat) (l0 : Array Bool) (s : List Nat) (e : DEv) : Bool :=
  !s.contains e.i && rem E s == rem E (addTo E s e.i) + e.ext.length + 1 && lastDone E s e.c == e.prev && decide (e.c < nc) && e.know.all (fun j => (List.range nc).any fun c => lastDone E s c == some j && c != e.c) &&
  (csubs E).contains (addTo E s e.i) && (addTo E s e.i).length == s.length + 1 && lastDone E (addTo E s e.i) e.c == some e.i &&
  (List.range nc).all (fun c => c == e.c || (lastDone E (addTo E s e.i) c == lastDone E s c && (match lastDone E s c with | none => true | some j => match E.find? (fun x => x.i == j) with | some x => !x.use.contains e.i | none => true))) &&
  extOk md ops ((listed E l0 s).setIfInBounds e.i true) e.ext && setAll ((listed E l0 s).setIfInBounds e.i true) e.ext == listed E l0 (addTo E s e.i)
def dagB (md : Region.Mode) (ops : Array Oper) (E : List DEv) (nc : Nat) (l0 l' : Array Bool) : Bool :=
  ((csubs E).all fun s => if s.length == E.length then s == E.map DEv.i && listed E l0 s == l' && rem E s == 0 else
    !(Region.ready md ops (listed E l0 s)).isEmpty && (Region.ready md ops (listed E l0 s)).all fun i => match E.find? (fun e => e.i == i) with | some e => evOk md ops E nc l0 s e | none => false) &&
  (csubs E).contains [] && (csubs E).all (fun s => decide (s.length ≤ E.length))
def upds (u : Nat → Value) (i : Nat) (v : Value) : Nat → Value := fun j => if j = i then v else u j
theorem map_range_at {α : Type} (n c : Nat) (hc : c < n) (f : Nat → α) : ∃ M1 M2 : List α, (List.range n).map f = M1 ++ f c :: M2 ∧ (∀ x, x < n → x ≠ c → f x ∈ M1 ++ M2) ∧ ∀ g : Nat → α, (∀ x, x < n → x ≠ c → g x = f x) → (List.range n).map g = M1 ++ g c :: M2 := by
  have hsp : List.range n = List.range c ++ c :: List.range' (c + 1) (n - c - 1) := by
    rw [List.range_eq_range', List.range_eq_range', ← List.range'_succ]
    have := List.range'_append (s := 0) (m := c) (n := n - c - 1 + 1) (step := 1)
    simp only [Nat.zero_add, Nat.one_mul] at this
    rw [this]; congr 1; omega
  refine ⟨(List.range c).map f, (List.range' (c + 1) (n - c - 1)).map f, ?_, fun x hx hxc => ?_, fun g h => ?_⟩
  · rw [hsp, List.map_append, List.map_cons]
  · rcases Nat.lt_or_gt_of_ne hxc with h | h
    · exact List.mem_append_left _ (List.mem_map.2 ⟨x, List.mem_range.2 h, rfl⟩)
    · exact List.mem_append_right _ (List.mem_map.2 ⟨x, List.mem_range'_1.2 (by omega), rfl⟩)
  · rw [hsp, List.map_append, List.map_cons]
    congr 1
    · refine List.map_congr_left (fun x hx => h x ?_ ?_)
      · have := List.mem_range.1 hx; omega
      · have := List.mem_range.1 hx; omega
    · congr 1
      refine List.map_congr_left (fun x hx => h x ?_ ?_)
      · have := List.mem_range'_1.1 hx; omega
      · have := List.mem_range'_1.1 hx; omega
theorem upds_ne {use : List Nat} {i j : Nat} {u : Nat → Value} {v : Value} (h : use.contains i = false) (hj : use.contains j = true) : upds u i v j = u j := by
  unfold upds
  rw [if_neg]
  rintro rfl
  rw [h] at hj
  cases hj
section
variable {P : Program} {ops : Array Oper} {Q : Exit → Act → World → Prop} {md : Region.Mode} {S : World → Prop}
theorem dag_ {w0 w : World} {PP : Nat → Prop} {L : List HP} (E : List DEv) (F : Nat → HP) (nc : Nat) (T : (Nat → Value) → Act) (hS : ∀ L' w', St w0 w PP (L' ++ L) w' → S w') (l l' : Array Bool) (hc : dagB md ops E nc l l' = true)
    (hG : ∀ e ∈ E, ∀ u i v, e.use.contains i = false → e.G (upds u i v) = e.G u)
    (hev : ∀ e ∈ E, ∃ o, ops[e.i]? = some o ∧ ∀ (u : Nat → Value) (w' : World) (LL : List HP) (l : Array Bool) (fuel : Nat), St w0 w PP (partOf E F e.prev e.c u :: LL) w' → (∀ A, A ∈ L → A ∈ LL) → (∀ j ∈ e.know, Gof E j u ∈ LL) → extOk md ops (l.setIfInBounds e.i true) e.ext = true →
      ∀ K : Act → World → Prop, Shut (∀ v w'' a'', St w0 w PP (e.G (upds u e.i v) :: LL) w'' → (wpAnyLast P md ops Q S [] fuel (setAll (l.setIfInBounds e.i true) e.ext) (T (upds u e.i v)) w'' → wpAnyLast P md ops Q S [] (fuel + e.ext.length) (l.setIfInBounds e.i true) a'' w'') → K a'' w'') →
      if Region.wanted o (yielded ops (T u).tmps) = true then Oper.wp P o (T u) w' K Q else K ((T u).put o.dst undef) w')
    (fuel n : Nat) (hn : fuel + rem E [] = n) (u0 : Nat → Value) (W : World) (hW : St w0 w PP ((List.range nc).map F ++ L) W)
    (hlast : ∀ u w', St w0 w PP (parts E F nc (E.map DEv.i) u ++ L) w' → wpAnyLast P md ops Q S [] fuel l' (T u) w') :
    wpAnyLast P md ops Q S [] n l (T u0) W := by
  subst hn
  simp only [dagB, Bool.and_eq_true, List.all_eq_true, decide_eq_true_eq] at hc
  obtain ⟨⟨hall, hnil⟩, hlen⟩ := hc
  have key : ∀ m (s : List Nat) u W', s ∈ csubs E → E.length - s.length = m → St w0 w PP (parts E F nc s u ++ L) W' → wpAnyLast P md ops Q S [] (fuel + rem E s) (listed E l s) (T u) W' := by
    intro m
    induction m with
    | zero =>
      intro s u W' hs hm hst
      have h1 := hall s hs
      have h2 := hlen s hs
      have h3 : s.length = E.length := by omega
      rw [if_pos (by simpa using h3)] at h1
      simp only [Bool.and_eq_true, beq_iff_eq] at h1
      obtain ⟨⟨h4, h5⟩, h6⟩ := h1
      rw [h5, h6, Nat.add_zero]
      rw [h4] at hst
      exact hlast u W' hst
    | succ m ih =>
      intro s u W' hs hm hst
      have h1 := hall s hs
      have h3 : ¬ s.length = E.length := by omega
      rw [if_neg (by simpa using h3)] at h1
      simp only [Bool.and_eq_true, Bool.not_eq_true', List.all_eq_true] at h1
      obtain ⟨hne, hready⟩ := h1
      have hr0 : rem E s ≠ 0 := by
        intro h0
        cases hR : Region.ready md ops (listed E l s) with
        | nil => rw [hR] at hne; simp at hne
        | cons i r =>
          have hi := hready i (by rw [hR]; exact List.mem_cons_self)
          cases hf : E.find? (fun e => e.i == i) with
          | none => rw [hf] at hi; simp at hi
          | some e =>
            rw [hf] at hi
            simp only [evOk, Bool.and_eq_true, beq_iff_eq] at hi
            have := hi.1.1.1.1.1.1.1.1.1.2
            omega
      obtain ⟨q, hq⟩ : ∃ q, rem E s = q + 1 := ⟨rem E s - 1, by omega⟩
      rw [hq, ← Nat.add_assoc]
      refine wpAnyLast_ready (rs := Region.ready md ops (listed E l s)) rfl (by intro h0; rw [h0] at hne; simp at hne) (fun i hi => ?_)
      have hi' := hready i hi
      cases hf : E.find? (fun e => e.i == i) with
      | none => rw [hf] at hi'; simp at hi'
      | some e =>
        rw [hf] at hi'
        have hmem : e ∈ E := List.mem_of_find?_eq_some hf
        obtain rfl : e.i = i := by simpa using List.find?_some hf
        simp only [evOk, Bool.and_eq_true, beq_iff_eq, Bool.not_eq_true', decide_eq_true_eq, List.all_eq_true, List.mem_range, List.any_eq_true, bne_iff_ne, ne_eq, Bool.or_eq_true, List.contains_iff_mem] at hi'
        obtain ⟨⟨⟨⟨⟨⟨⟨⟨⟨⟨e1, e2⟩, e3⟩, e4⟩, e5⟩, e6⟩, e7⟩, e8⟩, e9⟩, e10⟩, e11⟩ := hi'
        obtain ⟨o, ho, hgo⟩ := hev e hmem
        obtain ⟨M1, M2, hM, hparts0⟩ := map_range_at nc e.c e4 (fun c => partOf E F (lastDone E s c) c u)
        have hst' : St w0 w PP (partOf E F e.prev e.c u :: (M1 ++ (M2 ++ L))) W' := by
          have : parts E F nc s u ++ L = M1 ++ partOf E F e.prev e.c u :: (M2 ++ L) := by
            unfold parts
            rw [hM, e3]
            simp
          rw [this] at hst
          exact hst.perm List.perm_middle
        have hin : ∀ c, c < nc → c ≠ e.c → partOf E F (lastDone E s c) c u ∈ M1 ++ M2 := fun c hcn hce => by
          obtain ⟨h1', h2'⟩ := hparts0
          exact h1' c hcn hce
        refine wpOp_step ho (fun K hK => ?_)
        refine hgo u W' _ (listed E l s) (fuel + rem E (addTo E s e.i)) hst' (fun A hA => List.mem_append_right _ (List.mem_append_right _ hA)) (fun j hj => ?_) e10 K (fun v w'' a'' hst2 hcont => ?_)
        · obtain ⟨c, hcn, h5, h6⟩ := e5 j hj
          have := hin c hcn h6
          rw [h5] at this
          rw [← List.append_assoc]
          exact List.mem_append_left _ this
        · refine hK _ _ ⟨fun _ _ => hS (e.G (upds u e.i v) :: (M1 ++ M2)) w'' (by rw [List.cons_append, List.append_assoc]; exact hst2), ?_⟩
          have hlen2 : q = rem E (addTo E s e.i) + e.ext.length := by omega
          rw [hlen2, ← Nat.add_assoc]
          refine hcont ?_
          rw [e11]
          refine ih _ _ w'' e6 (by omega) ?_
          have hparts : parts E F nc (addTo E s e.i) (upds u e.i v) = M1 ++ e.G (upds u e.i v) :: M2 := by
            have hg : Gof E e.i (upds u e.i v) = e.G (upds u e.i v) := by unfold Gof; rw [hf]
            unfold parts
            rw [hparts0.2 (fun c => partOf E F (lastDone E (addTo E s e.i) c) c (upds u e.i v)) (fun c hcn hce => ?_), e8]
            · show M1 ++ Gof E e.i (upds u e.i v) :: M2 = _
              rw [hg]
            · rcases e9 c hcn with h | ⟨h5, h6⟩
              · exact absurd h hce
              · rw [h5]
                cases hL : lastDone E s c with
                | none => rfl
                | some j =>
                  rw [hL] at h6
                  show Gof E j (upds u e.i v) = Gof E j u
                  unfold Gof
                  cases hx : E.find? (fun x => x.i == j) with
                  | none => rfl
                  | some x =>
                    simp only [hx] at h6
                    exact hG x (List.mem_of_find?_eq_some hx) u e.i v (by simpa using h6)
          rw [hparts, List.append_assoc]
          exact hst2.perm List.perm_middle.symm
  have h0 := key E.length [] u0 W (by simpa using hnil) (by simp) (by
    have : parts E F nc [] u0 = (List.range nc).map F := by
      unfold parts
      refine List.map_congr_left (fun c _ => ?_)
      have : lastDone E [] c = none := by
        unfold lastDone
        have : ∀ (E : List DEv) (o : Option Nat), E.foldl (fun o e => if e.c == c && ([] : List Nat).contains e.i then some e.i else o) o = o := by
          intro E
          induction E with
          | nil => intro o; rfl
          | cons e E ih => intro o; simp only [List.foldl_cons]; rw [ih]; simp
        exact this E none
      rw [this]; rfl
    rw [this]; exact hW)
  have hl0 : listed E l [] = l := by
    unfold listed
    have : ∀ (E : List DEv) (o : Array Bool), E.foldl (fun l e => if ([] : List Nat).contains e.i then setAll (l.setIfInBounds e.i true) e.ext else l) o = o := by
      intro E
      induction E with
      | nil => intro o; rfl
      | cons e E ih => intro o; simp only [List.foldl_cons]; rw [ih]; simp
    exact this E l
  rw [hl0] at h0
  exact h0
end
end Go.Proofs.Ytopikhjcbcpiaaa.Q
namespace Go.Proofs.Ytopikhjcbcpiaaa.Q
open Go.RowKit Go.Proofs.YtopikhjcbcpiaaaW.PrintWords Go.Proofs.YtopikhjcbcpiaaaW.PrintLast Go.Proofs.YtopikhjcbcpiaaaW.PrintMore
def hEx {α : Type} (G : α → HP) : HP := fun D W => ∃ x, G x D W
def hAnd (φ : Prop) (A : HP) : HP := fun D W => φ ∧ A D W
theorem cl_ex {α : Type} {G : α → HP} (h : ∀ x, Cl (G x)) : Cl (hEx G) := fun D W ⟨x, hx⟩ W' hm => ⟨x, h x D W hx W' hm⟩
theorem cl_and {φ : Prop} {A : HP} (h : Cl A) : Cl (hAnd φ A) := fun D W ⟨hp, hx⟩ W' hm => ⟨hp, h D W hx W' hm⟩
section
variable {w0 w W W1 : World} {P : Nat → Prop} {A B : HP} {L : List HP} {α : Type} {G : α → HP} {φ : Prop}
theorem Sep.open_ex {b : Nat} {D : Nat → Prop} (h : Sep b (hEx G :: L) D W) (hc : ∀ x, Cl (G x)) : ∃ x, Sep b (G x :: L) D W := by
  obtain ⟨D1, h1, h2, h3⟩ := h
  obtain ⟨x, hx⟩ := h2.now
  exact ⟨x, fun k => D1 k ∧ k < W.heap.size, fun k hk => h1 k hk.1, hc x D1 W hx, h3.mono (fun k hk _ _ => ⟨hk.1, fun h => hk.2 h.1⟩)⟩
theorem Sep.open_and {b : Nat} {D : Nat → Prop} (h : Sep b (hAnd φ A :: L) D W) (hc : Cl A) : φ ∧ Sep b (A :: L) D W := by
  obtain ⟨D1, h1, h2, h3⟩ := h
  obtain ⟨hp, hx⟩ := h2.now
  exact ⟨hp, fun k => D1 k ∧ k < W.heap.size, fun k hk => h1 k hk.1, hc D1 W hx, h3.mono (fun k hk _ _ => ⟨hk.1, fun h => hk.2 h.1⟩)⟩
theorem St.open_ex (h : St w0 w P (hEx G :: L) W) (hc : ∀ x, Cl (G x)) : ∃ x, St w0 w P (G x :: L) W := by
  obtain ⟨x, hx⟩ := h.sep.open_ex hc
  exact ⟨x, hx, h.below, h.kept, h.le⟩
theorem St.open_and (h : St w0 w P (hAnd φ A :: L) W) (hc : Cl A) : φ ∧ St w0 w P (A :: L) W := by
  obtain ⟨hp, hx⟩ := h.sep.open_and hc
  exact ⟨hp, hx, h.below, h.kept, h.le⟩
theorem Sep.weaken {b : Nat} {D : Nat → Prop} (h : Sep b (A :: L) D W) (hAB : ∀ D W, A D W → B D W) : Sep b (B :: L) D W := by
  obtain ⟨D1, h1, h2, h3⟩ := h
  exact ⟨D1, h1, fun W' hm => hAB _ _ (h2 W' hm), h3⟩
theorem St.weaken (h : St w0 w P (A :: L) W) (hAB : ∀ D W, A D W → B D W) : St w0 w P (B :: L) W := ⟨h.sep.weaken hAB, h.below, h.kept, h.le⟩
theorem Sep.addE {b : Nat} {D : Nat → Prop} (h : Sep b L D W) : Sep b (hE :: L) D W := ⟨fun _ => False, fun _ h => h.elim, fun _ _ => trivial, h.mono (fun _ hk _ _ => ⟨hk, fun h => h⟩)⟩
theorem St.addE (h : St w0 w P L W) : St w0 w P (hE :: L) W := ⟨h.sep.addE, h.below, h.kept, h.le⟩
theorem St.drops (L' : List HP) (h : St w0 w P (L' ++ L) W) : St w0 w P L W := by
  induction L' with
  | nil => exact h
  | cons A L' ih => exact ih h.drop
end
def tupAt : Value → Nat → Value
  | .tuple xs, i => xs.getD i undef
  | _, _ => undef
end Go.Proofs.Ytopikhjcbcpiaaa.Q
end
