/- Part 6 of the steps by which the law is shown: what each function of the program, of the reference and of the law computes. No condition. -/
import Derived.Test.YtopikhjcbcpiaaaGreatFin0
import Derived.Test.YtopikhjcbcpiaaaGreatFin1
import Derived.Test.YtopikhjcbcpiaaaGreatFin2
import Derived.Test.YtopikhjcbcpiaaaGreatFin3
import Derived.Test.YtopikhjcbcpiaaaGreatFin4
namespace Go.Proofs.YtopikhjcbcpiaaaGreat.Q
open Go.RowKit Go.Proofs.YtopikhjcbcpiaaaGreatW.PrintWords Go.Proofs.YtopikhjcbcpiaaaGreatW.PrintLast Go.Proofs.YtopikhjcbcpiaaaGreatW.PrintMore
attribute [local go_sem] max2_int min2_int max_two min_two max_three min_three max_four min_four   -- for this text's walks alone
set_option linter.unusedVariables false
set_option linter.unusedSimpArgs false
mutual
def spec_MemOk.j0 : Nat → Bool → List (S39) → List (S52) → Option (Bool)
 | 0, _, _, _ => none
 | k + 1, x18, x170000, x170001 => if x18 = true then (some false) else (spec_MemOk.l0 k 0 x170000 x170001)
def spec_MemOk.l0 : Nat → Int → List (S39) → List (S52) → Option (Bool)
 | 0, _, _, _ => none
 | k + 1, x3, x170000, x170001 => if x3 < (x170001.length : Int) then (if 0 ≤ x3 then ((spec_DescOk.f k ((rd_T52 x170001 x3).f0) ((rd_T52 x170001 x3).f1) ((rd_T52 x170001 x3).f2) ((rd_T52 x170001 x3).f3.f0) ((rd_T52 x170001 x3).f3.f1)).bind fun t172 => (if t172 = true then (spec_MemOk.l0 k (wrap64 (x3 + 1)) x170000 x170001) else (some false))) else (none)) else (spec_MemOk.l1 k 0 x170000 x170001)
def spec_MemOk.l1 : Nat → Int → List (S39) → List (S52) → Option (Bool)
 | 0, _, _, _ => none
 | k + 1, x4, x170000, x170001 => if x4 < (x170000.length : Int) then (if 0 ≤ x4 then ((spec_WordOk.f ((rd_T39 x170000 x4).f0) ((rd_T39 x170000 x4).f1) ((rd_T39 x170000 x4).f2) (x170001.length : Int)).bind fun t175 => (if t175 = true then (if ((rd_T39 x170000 x4).f1) > 0 then (if 0 ≤ (wrap64 (((rd_T39 x170000 x4).f1) - 1)) then (if (wrap64 (((rd_T39 x170000 x4).f1) - 1)) < (x170001.length : Int) then ((spec_Entries.f k ((rd_T52 x170001 (wrap64 (((rd_T39 x170000 x4).f1) - 1))).f0) ((rd_T52 x170001 (wrap64 (((rd_T39 x170000 x4).f1) - 1))).f1) ((rd_T52 x170001 (wrap64 (((rd_T39 x170000 x4).f1) - 1))).f2) ((rd_T52 x170001 (wrap64 (((rd_T39 x170000 x4).f1) - 1))).f3.f0) ((rd_T52 x170001 (wrap64 (((rd_T39 x170000 x4).f1) - 1))).f3.f1) x4).bind fun bt177 => (if bt177.2.2.2 = true then (if ((rd_T52 x170001 (wrap64 (((rd_T39 x170000 x4).f1) - 1))).f0) = ((rd_T39 x170000 x4).f2) then (spec_MemOk.l1 k (wrap64 (x4 + 1)) x170000 x170001) else (some false)) else (some false))) else (none)) else (none)) else (spec_MemOk.l1 k (wrap64 (x4 + 1)) x170000 x170001)) else (some false))) else (none)) else (some true)
end
def spec_MemOk.f (k : Nat) (l0_0 : List (S39)) (l0_1 : List (S52)) : Option (Bool) := if (l0_0.length : Int) = 20 then ((spec_l1In.f (l0_1.length : Int) 1 4).bind fun t170 => (spec_MemOk.j0 k (!t170) l0_0 l0_1)) else (spec_MemOk.j0 k true l0_0 l0_1)
set_option maxHeartbeats 8000000 in
set_option maxRecDepth 100000 in
theorem spec_MemOk.calls (k : Nat) (A0_0 : Option Addr) (c0_0 : Nat) (l0_0 : List (S39)) (A0_1 : Option Addr) (c0_1 : Nat) (l0_1 : List (S52)) (r : Bool) (w : World) (hr0_0 : Kd.C k39 w A0_0 l0_0.length l0_0) (hc0_0 : l0_0.length ≤ c0_0) (hr0_1 : Kd.C k52 w A0_1 l0_1.length l0_1) (hc0_1 : l0_1.length ≤ c0_1) (h : spec_MemOk.f k l0_0 l0_1 = some r) :
  Calls Tryz.prog 59 #[.agg #[.slice A0_0 l0_0.length c0_0, .slice A0_1 l0_1.length c0_1]] w fun e w' => e = .returned (.bool r) ∧ Below w.heap.size w w' := by
 have hu27 := Tryz.underlying27
 have hu52 := Tryz.underlying52
 have hu39 := Tryz.underlying39
 have hu37 := Tryz.underlying37
 have HR0_0 := Aside0.mk hr0_0
 have HC0_0 := Aside0.mk hc0_0
 clear hr0_0 hc0_0
 have HR0_1 := Aside0.mk hr0_1
 have HC0_1 := Aside0.mk hc0_1
 clear hr0_1 hc0_1
 have HB := Aside0.mk (Below.refl w.heap.size w)
 have H := h
 clear h
 unfold spec_MemOk.f at H
 have HC2 := Aside0.mk H
 clear H
 go_enter Tryz.func59, Tryz.ntmps59
 go_upto_region 1 with (first | ((with_reducible refine gq 1 rfl ?_); (try (refine gate_guard (by rfl) ?_; dsimp only)); refine bx0 HB (N := 1) (t := 27) ?_; clear HB; intro gb169 w3 BK169 GE169 HB))
 repeat (go_quiet (first | ((with_reducible refine gq 1 rfl ?_); (try (refine gate_guard (by rfl) ?_; dsimp only)); refine bx0 HB (N := 1) (t := 27) ?_; clear HB; intro gb169 w3 BK169 GE169 HB)); go_upto_region 1 with (first | ((with_reducible refine gq 1 rfl ?_); (try (refine gate_guard (by rfl) ?_; dsimp only)); refine bx0 HB (N := 1) (t := 27) ?_; clear HB; intro gb169 w3 BK169 GE169 HB)))
 (try simp only [Act.put, sA, sB, sC])
 go_cut [18] (fun v18 wc => ∃ (kq : Nat) (x18_1 : Bool), v18 = .bool x18_1 ∧ Aside0 (spec_MemOk.j0 kq x18_1 l0_0 l0_1 = some r) ∧ Aside0 (kq ≤ k) ∧ Aside0 (wc.heap[gb169]? = some (.cells #[(.slice A0_0 l0_0.length c0_0), (.slice A0_1 l0_1.length c0_1)] 27 (0, 0))) ∧ Aside0 (Below w.heap.size w wc))
 case first =>
  have H := HC2.out
  clear HC2
  by_cases c4 : (l0_0.length : Int) = 20
  case neg =>
   rw [if_neg c4] at H
   have c4b0 : ((l0_0.length : Int) == 20) = false := beq_eq_false_iff_ne.mpr c4
   have c4b1 : ((l0_0.length : Int) != 20) = true := bne_iff_ne.mpr c4
   (first | rw [c4b0] | (simp only [i64_w, i32_w]; rw [c4b0]) | skip)
   have H' := Aside0.mk H
   clear H
   have hz7 := cs2_ BK169
   go_wp2
   repeat (go_quiet (fail); try go_wp2)
   go_meet
   case rel => exact ⟨_, (true), rsd, H', ⟨by first | omega | exact Nat.le_refl _⟩, ⟨by (with_reducible repeat (first | refine blk_drewN ?_ _ | refine blk_drew ?_ | refine blk_alloc ?_ _)); exact BK169.out⟩, ⟨tb HB⟩⟩
  rw [if_pos c4] at H
  have c4b0 : ((l0_0.length : Int) == 20) = true := beq_iff_eq.mpr c4
  have c4b1 : ((l0_0.length : Int) != 20) = false := bne_eq_false_iff_eq.mpr c4
  clear c4
  (first | rw [c4b0] | (simp only [i64_w, i32_w]; rw [c4b0]) | skip)
  obtain ⟨t170, A5, H⟩ := bn H
  try dsimp only at H
  have H' := Aside0.mk H
  clear H
  have hz6 := cs2_ BK169
  go_wp2_with (first | (go_at_call 70; (with_reducible refine (spec_l1In.calls (l0_1.length : Int) 1 4 t170 _ A5.out).mono ?_); rintro e w' ⟨rfl, ⟨nd, rfl⟩⟩; (try first | exact ⟨rfl, _, World.drewN_drewN _ _ _⟩ | exact ⟨rfl, _, Eq.trans (World.drewN_drewN _ _ _) (congrArg (World.drewN _) (Nat.add_assoc _ _ _))⟩)))
  repeat (go_quiet (first | (go_at_call 70; (with_reducible refine (spec_l1In.calls (l0_1.length : Int) 1 4 t170 _ A5.out).mono ?_); rintro e w' ⟨rfl, ⟨nd, rfl⟩⟩; (try first | exact ⟨rfl, _, World.drewN_drewN _ _ _⟩ | exact ⟨rfl, _, Eq.trans (World.drewN_drewN _ _ _) (congrArg (World.drewN _) (Nat.add_assoc _ _ _))⟩))); try go_wp2_with (first | (go_at_call 70; (with_reducible refine (spec_l1In.calls (l0_1.length : Int) 1 4 t170 _ A5.out).mono ?_); rintro e w' ⟨rfl, ⟨nd, rfl⟩⟩; (try first | exact ⟨rfl, _, World.drewN_drewN _ _ _⟩ | exact ⟨rfl, _, Eq.trans (World.drewN_drewN _ _ _) (congrArg (World.drewN _) (Nat.add_assoc _ _ _))⟩))))
  go_meet
  case rel => exact ⟨_, (!t170), rsd, H', ⟨by first | omega | exact Nat.le_refl _⟩, ⟨by (with_reducible repeat (first | refine blk_drewN ?_ _ | refine blk_drew ?_ | refine blk_alloc ?_ _)); exact BK169.out⟩, ⟨tb HB⟩⟩
 case rest =>
  clear HC2
  obtain ⟨kq, x18_1, rfl, HA, HJ1, BK169, HB⟩ := hcut
  cases kq with
  | zero => exact absurd HA.out (by simp [spec_MemOk.j0])
  | succ kj1 =>
   have H := HA.out
   clear HA
   simp only [spec_MemOk.j0] at H
   cases x18_1
   case true =>
    replace H := ipt H
    obtain rfl := oin H
    go_wp2
    repeat (go_quiet (fail); try go_wp2)
    go_ret
    exact ⟨er, tb HB⟩
   replace H := ipf H
   have H' := Aside0.mk H
   clear H
   go_wp2
   repeat (go_quiet (fail); try go_wp2)
   go_loopg [3] kj1 (fun kq v3 w' => ∃ (x3_2 : Int), v3 = .int .i64 x3_2 ∧ Aside0 (spec_MemOk.l0 kq x3_2 l0_0 l0_1 = some r) ∧ Aside0 (kq ≤ kj1) ∧ Aside0 (w'.heap[gb169]? = some (.cells #[(.slice A0_0 l0_0.length c0_0), (.slice A0_1 l0_1.length c0_1)] 27 (0, 0))) ∧ Aside0 (Below w.heap.size w w'))
   case atStart => exact ⟨(0), rsd, H', ⟨Nat.le_refl _⟩, ⟨by (with_reducible repeat (first | refine blk_drewN ?_ _ | refine blk_drew ?_ | refine blk_alloc ?_ _)); exact BK169.out⟩, ⟨tb HB⟩⟩
   case round =>
    clear H'
    obtain ⟨x3_2, rfl, HA, HK2, BK169, HB⟩ := hrel
    cases gk with
    | zero => exact absurd HA.out (by simp [spec_MemOk.l0])
    | succ k2 =>
     have H := HA.out
     clear HA
     simp only [spec_MemOk.l0] at H
     revert H; refine icd (fun c9b0 H => ?pos) fun c9b0 H => ?_
     case pos =>
      obtain ⟨c10b0, H⟩ := itd H
      obtain ⟨t172, A11, H⟩ := bn H
      try dsimp only at H
      cases t172
      case false =>
       replace H := ipf H
       obtain rfl := oin H
       have hz15 := cs2_ BK169
       have p171 : 0 ≤ (x3_2 : Int) := od
       have q171 : x3_2 < (l0_1.length : Int) := od
       obtain ⟨ad171, A171_2, c171_2, A171_4, c171_4, e171, hx171, hl171_2, hi171_2, hl171_4, hi171_4⟩ := att52 HR0_1.out x3_2 p171 q171
       cases e171
       replace hx171 := ox5 HB hx171
       have HR171_2 := Aside0.mk hi171_2
       have HC171_2 := Aside0.mk hl171_2
       clear hi171_2 hl171_2
       have HR171_4 := Aside0.mk hi171_4
       have HC171_4 := Aside0.mk hl171_4
       clear hi171_4 hl171_4
       replace p171 := eq_true p171
       replace q171 := eq_true q171
       go_wp2_with (first | (go_at_call 125; (with_reducible refine (spec_DescOk.calls k2 ((rd_T52 l0_1 x3_2).f0) ((rd_T52 l0_1 x3_2).f1) _ _ ((rd_T52 l0_1 x3_2).f2) ((rd_T52 l0_1 x3_2).f3.f0) _ _ ((rd_T52 l0_1 x3_2).f3.f1) false _ (kc HR171_2 HB) HC171_2.out (kc HR171_4 HB) HC171_4.out A11.out).mono ?_); rintro e w16 ⟨rfl, hb⟩; replace BK169 := bb BK169 hb; replace HB := bs HB hb; (try clear hb)))
       repeat (go_quiet (first | (go_at_call 125; (with_reducible refine (spec_DescOk.calls k2 ((rd_T52 l0_1 x3_2).f0) ((rd_T52 l0_1 x3_2).f1) _ _ ((rd_T52 l0_1 x3_2).f2) ((rd_T52 l0_1 x3_2).f3.f0) _ _ ((rd_T52 l0_1 x3_2).f3.f1) false _ (kc HR171_2 HB) HC171_2.out (kc HR171_4 HB) HC171_4.out A11.out).mono ?_); rintro e w16 ⟨rfl, hb⟩; replace BK169 := bb BK169 hb; replace HB := bs HB hb; (try clear hb))); try go_wp2_with (first | (go_at_call 125; (with_reducible refine (spec_DescOk.calls k2 ((rd_T52 l0_1 x3_2).f0) ((rd_T52 l0_1 x3_2).f1) _ _ ((rd_T52 l0_1 x3_2).f2) ((rd_T52 l0_1 x3_2).f3.f0) _ _ ((rd_T52 l0_1 x3_2).f3.f1) false _ (kc HR171_2 HB) HC171_2.out (kc HR171_4 HB) HC171_4.out A11.out).mono ?_); rintro e w16 ⟨rfl, hb⟩; replace BK169 := bb BK169 hb; replace HB := bs HB hb; (try clear hb))))
       go_ret
       exact ⟨er, tb HB⟩
      replace H := ipt H
      have H' := Aside0.mk H
      clear H
      have hz13 := cs2_ BK169
      have p171 : 0 ≤ (x3_2 : Int) := od
      have q171 : x3_2 < (l0_1.length : Int) := od
      obtain ⟨ad171, A171_2, c171_2, A171_4, c171_4, e171, hx171_0, hx171_1, hx171_2, hx171_3, hx171_4, hl171_2, hi171_2, hl171_4, hi171_4⟩ := at_T52 HR0_1.out x3_2 p171 q171
      cases e171
      replace hx171_0 := ox HB hx171_0
      replace hx171_1 := ox HB hx171_1
      replace hx171_2 := ox HB hx171_2
      replace hx171_3 := ox HB hx171_3
      replace hx171_4 := ox HB hx171_4
      have HR171_2 := Aside0.mk hi171_2
      have HC171_2 := Aside0.mk hl171_2
      clear hi171_2 hl171_2
      have HR171_4 := Aside0.mk hi171_4
      have HC171_4 := Aside0.mk hl171_4
      clear hi171_4 hl171_4
      replace p171 := eq_true p171
      replace q171 := eq_true q171
      go_wp2_with (first | (go_at_call 125; (with_reducible refine (spec_DescOk.calls k2 ((rd_T52 l0_1 x3_2).f0) ((rd_T52 l0_1 x3_2).f1) _ _ ((rd_T52 l0_1 x3_2).f2) ((rd_T52 l0_1 x3_2).f3.f0) _ _ ((rd_T52 l0_1 x3_2).f3.f1) true _ (kc HR171_2 HB) HC171_2.out (kc HR171_4 HB) HC171_4.out A11.out).mono ?_); rintro e w14 ⟨rfl, hb⟩; replace BK169 := bb BK169 hb; replace HB := bs HB hb; (try clear hb)))
      repeat (go_quiet (first | (go_at_call 125; (with_reducible refine (spec_DescOk.calls k2 ((rd_T52 l0_1 x3_2).f0) ((rd_T52 l0_1 x3_2).f1) _ _ ((rd_T52 l0_1 x3_2).f2) ((rd_T52 l0_1 x3_2).f3.f0) _ _ ((rd_T52 l0_1 x3_2).f3.f1) true _ (kc HR171_2 HB) HC171_2.out (kc HR171_4 HB) HC171_4.out A11.out).mono ?_); rintro e w14 ⟨rfl, hb⟩; replace BK169 := bb BK169 hb; replace HB := bs HB hb; (try clear hb))); try go_wp2_with (first | (go_at_call 125; (with_reducible refine (spec_DescOk.calls k2 ((rd_T52 l0_1 x3_2).f0) ((rd_T52 l0_1 x3_2).f1) _ _ ((rd_T52 l0_1 x3_2).f2) ((rd_T52 l0_1 x3_2).f3.f0) _ _ ((rd_T52 l0_1 x3_2).f3.f1) true _ (kc HR171_2 HB) HC171_2.out (kc HR171_4 HB) HC171_4.out A11.out).mono ?_); rintro e w14 ⟨rfl, hb⟩; replace BK169 := bb BK169 hb; replace HB := bs HB hb; (try clear hb))))
      go_roundg k2
      case measure => have := HJ1.out; have := HK2.out; omega
      case rel => exact ⟨(wrap64 (x3_2 + 1)), rsd, H', ⟨by have := HJ1.out; have := HK2.out; omega⟩, ⟨by (with_reducible repeat (first | refine blk_drewN ?_ _ | refine blk_drew ?_ | refine blk_alloc ?_ _)); exact BK169.out⟩, ⟨tb HB⟩⟩
     have H' := Aside0.mk H
     clear H
     have hz17 := cs2_ BK169
     go_wp2
     repeat (go_quiet (fail); try go_wp2)
     go_loopg [4] k2 (fun kq v4 w' => ∃ (x4_3 : Int), v4 = .int .i64 x4_3 ∧ Aside0 (spec_MemOk.l1 kq x4_3 l0_0 l0_1 = some r) ∧ Aside0 (kq ≤ k2) ∧ Aside0 (w'.heap[gb169]? = some (.cells #[(.slice A0_0 l0_0.length c0_0), (.slice A0_1 l0_1.length c0_1)] 27 (0, 0))) ∧ Aside0 (Below w.heap.size w w'))
     case atStart => exact ⟨(0), rsd, H', ⟨Nat.le_refl _⟩, ⟨by (with_reducible repeat (first | refine blk_drewN ?_ _ | refine blk_drew ?_ | refine blk_alloc ?_ _)); exact BK169.out⟩, ⟨tb HB⟩⟩
     case round =>
      clear H'
      try clear hx171_0
      try clear hx171_1
      try clear hx171_2
      try clear hx171_3
      try clear hx171_4
      obtain ⟨x4_3, rfl, HA, HK3, BK169, HB⟩ := hrel
      cases gk with
      | zero => exact absurd HA.out (by simp [spec_MemOk.l1])
      | succ k3 =>
       have H := HA.out
       clear HA
       simp only [spec_MemOk.l1] at H
       revert H; refine icd (fun c18b0 H => ?_) fun c18b0 H => ?neg
       case neg =>
        obtain rfl := oin H
        have hz85 := cs2_ BK169
        go_wp2
        repeat (go_quiet (fail); try go_wp2)
        go_ret
        exact ⟨er, tb HB⟩
       obtain ⟨c19b0, H⟩ := itd H
       obtain ⟨t175, A20, H⟩ := bn H
       try dsimp only at H
       cases t175
       case false =>
        replace H := ipf H
        obtain rfl := oin H
        have hz79 := cs2_ BK169
        have p173 : 0 ≤ (x4_3 : Int) := od
        have q173 : x4_3 < (l0_0.length : Int) := od
        obtain ⟨ad173, e173, hx173⟩ := att39 HR0_0.out x4_3 p173 q173
        cases e173
        replace hx173 := ox3 HB hx173
        replace p173 := eq_true p173
        replace q173 := eq_true q173
        go_wp2_with (first | ((with_reducible refine gq 5 rfl ?_); (try (refine gate_guard (by rfl) ?_; dsimp only)); refine bx1 HB BK169 (N := 5) (cs := #[.int .i64 0, .int .i64 0, .int .i64 0]) (t := 39) ?_; clear HB BK169; intro gb174 w80 BK174 GE174 HB NB169_174 NB174_169 BK169; have hnb81 := NB174_169.out; have hnc81 := NB169_174.out; have hz82 := cs3_ BK174; have hz83 := cs2_ BK169) | (go_at_call 126; (with_reducible refine (spec_WordOk.calls ((rd_T39 l0_0 x4_3).f0) ((rd_T39 l0_0 x4_3).f1) ((rd_T39 l0_0 x4_3).f2) (l0_1.length : Int) false _ A20.out).mono ?_); rintro e w84 ⟨rfl, hb⟩; replace BK169 := bbf BK169 hb; replace BK174 := bbp3 BK174 hb; replace HB := bs HB hb; (try clear hb)))
        repeat (go_quiet (first | ((with_reducible refine gq 5 rfl ?_); (try (refine gate_guard (by rfl) ?_; dsimp only)); refine bx1 HB BK169 (N := 5) (cs := #[.int .i64 0, .int .i64 0, .int .i64 0]) (t := 39) ?_; clear HB BK169; intro gb174 w80 BK174 GE174 HB NB169_174 NB174_169 BK169; have hnb81 := NB174_169.out; have hnc81 := NB169_174.out; have hz82 := cs3_ BK174; have hz83 := cs2_ BK169) | (go_at_call 126; (with_reducible refine (spec_WordOk.calls ((rd_T39 l0_0 x4_3).f0) ((rd_T39 l0_0 x4_3).f1) ((rd_T39 l0_0 x4_3).f2) (l0_1.length : Int) false _ A20.out).mono ?_); rintro e w84 ⟨rfl, hb⟩; replace BK169 := bbf BK169 hb; replace BK174 := bbp3 BK174 hb; replace HB := bs HB hb; (try clear hb))); try go_wp2_with (first | ((with_reducible refine gq 5 rfl ?_); (try (refine gate_guard (by rfl) ?_; dsimp only)); refine bx1 HB BK169 (N := 5) (cs := #[.int .i64 0, .int .i64 0, .int .i64 0]) (t := 39) ?_; clear HB BK169; intro gb174 w80 BK174 GE174 HB NB169_174 NB174_169 BK169; have hnb81 := NB174_169.out; have hnc81 := NB169_174.out; have hz82 := cs3_ BK174; have hz83 := cs2_ BK169) | (go_at_call 126; (with_reducible refine (spec_WordOk.calls ((rd_T39 l0_0 x4_3).f0) ((rd_T39 l0_0 x4_3).f1) ((rd_T39 l0_0 x4_3).f2) (l0_1.length : Int) false _ A20.out).mono ?_); rintro e w84 ⟨rfl, hb⟩; replace BK169 := bbf BK169 hb; replace BK174 := bbp3 BK174 hb; replace HB := bs HB hb; (try clear hb))))
        go_ret
        exact ⟨er, tb HB⟩
       replace H := ipt H
       revert H; refine icd (fun c22b0 H => ?_) fun c22b0 H => ?neg
       case neg =>
        have H' := Aside0.mk H
        clear H
        have hz72 := cs2_ BK169
        have p173 : 0 ≤ (x4_3 : Int) := od
        have q173 : x4_3 < (l0_0.length : Int) := od
        obtain ⟨ad173, e173, hx173_0, hx173_1, hx173_2⟩ := at_T39 HR0_0.out x4_3 p173 q173
        cases e173
        replace hx173_0 := ox HB hx173_0
        replace hx173_1 := ox HB hx173_1
        replace hx173_2 := ox HB hx173_2
        replace p173 := eq_true p173
        replace q173 := eq_true q173
        go_wp2_with (first | ((with_reducible refine gq 5 rfl ?_); (try (refine gate_guard (by rfl) ?_; dsimp only)); refine bx1 HB BK169 (N := 5) (cs := #[.int .i64 0, .int .i64 0, .int .i64 0]) (t := 39) ?_; clear HB BK169; intro gb174 w73 BK174 GE174 HB NB169_174 NB174_169 BK169; have hnb74 := NB174_169.out; have hnc74 := NB169_174.out; have hz75 := cs3_ BK174; have hz76 := cs2_ BK169) | (go_at_call 126; (with_reducible refine (spec_WordOk.calls ((rd_T39 l0_0 x4_3).f0) ((rd_T39 l0_0 x4_3).f1) ((rd_T39 l0_0 x4_3).f2) (l0_1.length : Int) true _ A20.out).mono ?_); rintro e w77 ⟨rfl, hb⟩; replace BK169 := bbf BK169 hb; replace BK174 := bbp3 BK174 hb; replace HB := bs HB hb; (try clear hb); have hz78 := cs3_ BK174))
        repeat (go_quiet (first | ((with_reducible refine gq 5 rfl ?_); (try (refine gate_guard (by rfl) ?_; dsimp only)); refine bx1 HB BK169 (N := 5) (cs := #[.int .i64 0, .int .i64 0, .int .i64 0]) (t := 39) ?_; clear HB BK169; intro gb174 w73 BK174 GE174 HB NB169_174 NB174_169 BK169; have hnb74 := NB174_169.out; have hnc74 := NB169_174.out; have hz75 := cs3_ BK174; have hz76 := cs2_ BK169) | (go_at_call 126; (with_reducible refine (spec_WordOk.calls ((rd_T39 l0_0 x4_3).f0) ((rd_T39 l0_0 x4_3).f1) ((rd_T39 l0_0 x4_3).f2) (l0_1.length : Int) true _ A20.out).mono ?_); rintro e w77 ⟨rfl, hb⟩; replace BK169 := bbf BK169 hb; replace BK174 := bbp3 BK174 hb; replace HB := bs HB hb; (try clear hb); have hz78 := cs3_ BK174)); try go_wp2_with (first | ((with_reducible refine gq 5 rfl ?_); (try (refine gate_guard (by rfl) ?_; dsimp only)); refine bx1 HB BK169 (N := 5) (cs := #[.int .i64 0, .int .i64 0, .int .i64 0]) (t := 39) ?_; clear HB BK169; intro gb174 w73 BK174 GE174 HB NB169_174 NB174_169 BK169; have hnb74 := NB174_169.out; have hnc74 := NB169_174.out; have hz75 := cs3_ BK174; have hz76 := cs2_ BK169) | (go_at_call 126; (with_reducible refine (spec_WordOk.calls ((rd_T39 l0_0 x4_3).f0) ((rd_T39 l0_0 x4_3).f1) ((rd_T39 l0_0 x4_3).f2) (l0_1.length : Int) true _ A20.out).mono ?_); rintro e w77 ⟨rfl, hb⟩; replace BK169 := bbf BK169 hb; replace BK174 := bbp3 BK174 hb; replace HB := bs HB hb; (try clear hb); have hz78 := cs3_ BK174)))
        go_roundg k3
        case measure => have := HJ1.out; have := HK2.out; have := HK3.out; omega
        case rel => exact ⟨(wrap64 (x4_3 + 1)), rsd, H', ⟨by have := HJ1.out; have := HK2.out; have := HK3.out; omega⟩, ⟨by (with_reducible repeat (first | refine blk_drewN ?_ _ | refine blk_drew ?_ | refine blk_alloc ?_ _)); exact BK169.out⟩, ⟨tb HB⟩⟩
       obtain ⟨ji23, hji23⟩ : ∃ j_ : Int, (wrap64 (((rd_T39 l0_0 x4_3).f1) - 1)) = j_ := ⟨_, rfl⟩
       replace H : (if 0 ≤ (ji23) then (if (ji23) < (l0_1.length : Int) then ((spec_Entries.f k3 ((rd_T52 l0_1 (ji23)).f0) ((rd_T52 l0_1 (ji23)).f1) ((rd_T52 l0_1 (ji23)).f2) ((rd_T52 l0_1 (ji23)).f3.f0) ((rd_T52 l0_1 (ji23)).f3.f1) x4_3).bind fun bt177 => (if bt177.2.2.2 = true then (if ((rd_T52 l0_1 (ji23)).f0) = ((rd_T39 l0_0 x4_3).f2) then (spec_MemOk.l1 k3 (wrap64 (x4_3 + 1)) l0_0 l0_1) else (some false)) else (some false))) else (none)) else (none)) = some r := by first | (rw [hji23] at H; exact H) | (simp only [hji23] at H ⊢; exact H)
       (try rw [hji23] at A20)
       have hji23w : (IntKind.i64.wrap (((rd_T39 l0_0 x4_3).f1) - 1)) = ji23 := (i64_w _).trans hji23
       obtain ⟨c24b0, H⟩ := itd H
       obtain ⟨c25b0, H⟩ := itd H
       obtain ⟨⟨t177, t178, t179, t180⟩, A26, H⟩ := bn H
       try dsimp only at H
       cases t180
       case false =>
        replace H := ipf H
        obtain rfl := oin H
        have hz59 := cs2_ BK169
        have p173 : 0 ≤ (x4_3 : Int) := od
        have q173 : x4_3 < (l0_0.length : Int) := od
        obtain ⟨ad173, e173, hx173_0, hx173_1, hx173_2⟩ := at_T39 HR0_0.out x4_3 p173 q173
        cases e173
        replace hx173_0 := ox HB hx173_0
        replace hx173_1 := ox HB hx173_1
        replace hx173_2 := ox HB hx173_2
        replace p173 := eq_true p173
        replace q173 := eq_true q173
        go_wp2_with (first | ((with_reducible refine gq 5 rfl ?_); (try (refine gate_guard (by rfl) ?_; dsimp only)); refine bx1 HB BK169 (N := 5) (cs := #[.int .i64 0, .int .i64 0, .int .i64 0]) (t := 39) ?_; clear HB BK169; intro gb174 w60 BK174 GE174 HB NB169_174 NB174_169 BK169; have hnb61 := NB174_169.out; have hnc61 := NB169_174.out; have hz62 := cs3_ BK174; have hz63 := cs2_ BK169) | (go_at_call 126; (with_reducible refine (spec_WordOk.calls ((rd_T39 l0_0 x4_3).f0) ((rd_T39 l0_0 x4_3).f1) ((rd_T39 l0_0 x4_3).f2) (l0_1.length : Int) true _ A20.out).mono ?_); rintro e w64 ⟨rfl, hb⟩; replace BK169 := bbf BK169 hb; replace BK174 := bbp3 BK174 hb; replace HB := bs HB hb; (try clear hb); have hz65 := cs3_ BK174; have hz66 := cs2_ BK169; have p176 : 0 ≤ ((ji23) : Int) := od; have q176 : (ji23) < (l0_1.length : Int) := od; obtain ⟨ad176, A176_2, c176_2, A176_4, c176_4, e176, hx176_0, hx176_1, hx176_2, hx176_3, hx176_4, hl176_2, hi176_2, hl176_4, hi176_4⟩ := at_T52 HR0_1.out (ji23) p176 q176; cases e176; replace hx176_0 := ox HB hx176_0; replace hx176_1 := ox HB hx176_1; replace hx176_2 := ox HB hx176_2; replace hx176_3 := ox HB hx176_3; replace hx176_4 := ox HB hx176_4; have HR176_2 := Aside0.mk hi176_2; have HC176_2 := Aside0.mk hl176_2; clear hi176_2 hl176_2; have HR176_4 := Aside0.mk hi176_4; have HC176_4 := Aside0.mk hl176_4; clear hi176_4 hl176_4; replace p176 := eq_true p176; replace q176 := eq_true q176) | (go_at_call 127; (with_reducible refine (spec_Entries.calls k3 ((rd_T52 l0_1 (ji23)).f0) ((rd_T52 l0_1 (ji23)).f1) _ _ ((rd_T52 l0_1 (ji23)).f2) ((rd_T52 l0_1 (ji23)).f3.f0) _ _ ((rd_T52 l0_1 (ji23)).f3.f1) x4_3 t177 t178 t179 false _ (kc HR176_2 HB) HC176_2.out (kc HR176_4 HB) HC176_4.out A26.out).mono ?_); rintro e w67 ⟨rfl, hb⟩; replace BK169 := bb BK169 hb; replace BK174 := bb BK174 hb; replace HB := bs HB hb; (try clear hb)) | ((with_reducible refine gq 6 rfl ?_); (try (refine gate_guard (by rfl) ?_; dsimp only)); refine bx (N := 6) (cs := #[.int .i64 0, .int .i64 0, .int .i64 0]) (t := 37) ?_; intro gb181 hg w68 hbox hb; have BK181 := Aside0.mk (hbox); have GW181 := Aside0.mk (ge_ hg HB); have GE181 := Aside0.mk (ge_ hg HB); replace HB := bs HB hb; have NB169_181 := Aside0.mk (nl_ hg BK169); have NB181_169 := Aside0.mk (ng_ hg BK169); replace BK169 := bb BK169 hb; have NB174_181 := Aside0.mk (nl_ hg BK174); have NB181_174 := Aside0.mk (ng_ hg BK174); replace BK174 := bb BK174 hb; clear hb hbox hg; have hnb69 := NB181_169.out; have hnc69 := NB169_181.out; have hnb70 := NB181_174.out; have hnc70 := NB174_181.out; have hz71 := cs3_ BK181))
        repeat (go_quiet (first | ((with_reducible refine gq 5 rfl ?_); (try (refine gate_guard (by rfl) ?_; dsimp only)); refine bx1 HB BK169 (N := 5) (cs := #[.int .i64 0, .int .i64 0, .int .i64 0]) (t := 39) ?_; clear HB BK169; intro gb174 w60 BK174 GE174 HB NB169_174 NB174_169 BK169; have hnb61 := NB174_169.out; have hnc61 := NB169_174.out; have hz62 := cs3_ BK174; have hz63 := cs2_ BK169) | (go_at_call 126; (with_reducible refine (spec_WordOk.calls ((rd_T39 l0_0 x4_3).f0) ((rd_T39 l0_0 x4_3).f1) ((rd_T39 l0_0 x4_3).f2) (l0_1.length : Int) true _ A20.out).mono ?_); rintro e w64 ⟨rfl, hb⟩; replace BK169 := bbf BK169 hb; replace BK174 := bbp3 BK174 hb; replace HB := bs HB hb; (try clear hb); have hz65 := cs3_ BK174; have hz66 := cs2_ BK169; have p176 : 0 ≤ ((ji23) : Int) := od; have q176 : (ji23) < (l0_1.length : Int) := od; obtain ⟨ad176, A176_2, c176_2, A176_4, c176_4, e176, hx176_0, hx176_1, hx176_2, hx176_3, hx176_4, hl176_2, hi176_2, hl176_4, hi176_4⟩ := at_T52 HR0_1.out (ji23) p176 q176; cases e176; replace hx176_0 := ox HB hx176_0; replace hx176_1 := ox HB hx176_1; replace hx176_2 := ox HB hx176_2; replace hx176_3 := ox HB hx176_3; replace hx176_4 := ox HB hx176_4; have HR176_2 := Aside0.mk hi176_2; have HC176_2 := Aside0.mk hl176_2; clear hi176_2 hl176_2; have HR176_4 := Aside0.mk hi176_4; have HC176_4 := Aside0.mk hl176_4; clear hi176_4 hl176_4; replace p176 := eq_true p176; replace q176 := eq_true q176) | (go_at_call 127; (with_reducible refine (spec_Entries.calls k3 ((rd_T52 l0_1 (ji23)).f0) ((rd_T52 l0_1 (ji23)).f1) _ _ ((rd_T52 l0_1 (ji23)).f2) ((rd_T52 l0_1 (ji23)).f3.f0) _ _ ((rd_T52 l0_1 (ji23)).f3.f1) x4_3 t177 t178 t179 false _ (kc HR176_2 HB) HC176_2.out (kc HR176_4 HB) HC176_4.out A26.out).mono ?_); rintro e w67 ⟨rfl, hb⟩; replace BK169 := bb BK169 hb; replace BK174 := bb BK174 hb; replace HB := bs HB hb; (try clear hb)) | ((with_reducible refine gq 6 rfl ?_); (try (refine gate_guard (by rfl) ?_; dsimp only)); refine bx1 HB BK169 (N := 6) (cs := #[.int .i64 0, .int .i64 0, .int .i64 0]) (t := 37) ?_; intro gb181 hg w68 hbox hb; have BK181 := Aside0.mk (hbox); have GW181 := Aside0.mk (ge_ hg HB); have GE181 := Aside0.mk (ge_ hg HB); replace HB := bs HB hb; have NB169_181 := Aside0.mk (nl_ hg BK169); have NB181_169 := Aside0.mk (ng_ hg BK169); replace BK169 := bb BK169 hb; have NB174_181 := Aside0.mk (nl_ hg BK174); have NB181_174 := Aside0.mk (ng_ hg BK174); replace BK174 := bb BK174 hb; clear hb hbox hg; have hnb69 := NB181_169.out; have hnc69 := NB169_181.out; have hnb70 := NB181_174.out; have hnc70 := NB174_181.out; have hz71 := cs3_ BK181)); try go_wp2_with (first | ((with_reducible refine gq 5 rfl ?_); (try (refine gate_guard (by rfl) ?_; dsimp only)); refine bx (N := 5) (cs := #[.int .i64 0, .int .i64 0, .int .i64 0]) (t := 39) ?_; clear HB BK169; intro gb174 w60 BK174 GE174 HB NB169_174 NB174_169 BK169; have hnb61 := NB174_169.out; have hnc61 := NB169_174.out; have hz62 := cs3_ BK174; have hz63 := cs2_ BK169) | (go_at_call 126; (with_reducible refine (spec_WordOk.calls ((rd_T39 l0_0 x4_3).f0) ((rd_T39 l0_0 x4_3).f1) ((rd_T39 l0_0 x4_3).f2) (l0_1.length : Int) true _ A20.out).mono ?_); rintro e w64 ⟨rfl, hb⟩; replace BK169 := bbf BK169 hb; replace BK174 := bbp3 BK174 hb; replace HB := bs HB hb; (try clear hb); have hz65 := cs3_ BK174; have hz66 := cs2_ BK169; have p176 : 0 ≤ ((ji23) : Int) := od; have q176 : (ji23) < (l0_1.length : Int) := od; obtain ⟨ad176, A176_2, c176_2, A176_4, c176_4, e176, hx176_0, hx176_1, hx176_2, hx176_3, hx176_4, hl176_2, hi176_2, hl176_4, hi176_4⟩ := at_T52 HR0_1.out (ji23) p176 q176; cases e176; replace hx176_0 := ox HB hx176_0; replace hx176_1 := ox HB hx176_1; replace hx176_2 := ox HB hx176_2; replace hx176_3 := ox HB hx176_3; replace hx176_4 := ox HB hx176_4; have HR176_2 := Aside0.mk hi176_2; have HC176_2 := Aside0.mk hl176_2; clear hi176_2 hl176_2; have HR176_4 := Aside0.mk hi176_4; have HC176_4 := Aside0.mk hl176_4; clear hi176_4 hl176_4; replace p176 := eq_true p176; replace q176 := eq_true q176) | (go_at_call 127; (with_reducible refine (spec_Entries.calls k3 ((rd_T52 l0_1 (ji23)).f0) ((rd_T52 l0_1 (ji23)).f1) _ _ ((rd_T52 l0_1 (ji23)).f2) ((rd_T52 l0_1 (ji23)).f3.f0) _ _ ((rd_T52 l0_1 (ji23)).f3.f1) x4_3 t177 t178 t179 false _ (kc HR176_2 HB) HC176_2.out (kc HR176_4 HB) HC176_4.out A26.out).mono ?_); rintro e w67 ⟨rfl, hb⟩; replace BK169 := bb BK169 hb; replace BK174 := bb BK174 hb; replace HB := bs HB hb; (try clear hb)) | ((with_reducible refine gq 6 rfl ?_); (try (refine gate_guard (by rfl) ?_; dsimp only)); refine bx (N := 6) (cs := #[.int .i64 0, .int .i64 0, .int .i64 0]) (t := 37) ?_; intro gb181 hg w68 hbox hb; have BK181 := Aside0.mk (hbox); have GW181 := Aside0.mk (ge_ hg HB); have GE181 := Aside0.mk (ge_ hg HB); replace HB := bs HB hb; have NB169_181 := Aside0.mk (nl_ hg BK169); have NB181_169 := Aside0.mk (ng_ hg BK169); replace BK169 := bb BK169 hb; have NB174_181 := Aside0.mk (nl_ hg BK174); have NB181_174 := Aside0.mk (ng_ hg BK174); replace BK174 := bb BK174 hb; clear hb hbox hg; have hnb69 := NB181_169.out; have hnc69 := NB169_181.out; have hnb70 := NB181_174.out; have hnc70 := NB174_181.out; have hz71 := cs3_ BK181)))
        go_ret
        exact ⟨by first | rfl | (simp [errW_none, errW_some] <;> rfl) | (simp only [← hji23]; first | rfl | (simp [errW_none, errW_some] <;> rfl)) | (simp [*, errW_none, errW_some] <;> rfl), tb HB⟩
       replace H := ipt H
       by_cases c28 : ((rd_T52 l0_1 (ji23)).f0) = ((rd_T39 l0_0 x4_3).f2)
       case neg =>
        rw [if_neg c28] at H
        have c28b0 : (((rd_T52 l0_1 (ji23)).f0) == ((rd_T39 l0_0 x4_3).f2)) = false := beq_eq_false_iff_ne.mpr c28
        have c28b1 : (((rd_T52 l0_1 (ji23)).f0) != ((rd_T39 l0_0 x4_3).f2)) = true := bne_iff_ne.mpr c28
        obtain rfl := oin H
        have hz44 := cs2_ BK169
        have p173 : 0 ≤ (x4_3 : Int) := od
        have q173 : x4_3 < (l0_0.length : Int) := od
        obtain ⟨ad173, e173, hx173_0, hx173_1, hx173_2⟩ := at_T39 HR0_0.out x4_3 p173 q173
        cases e173
        replace hx173_0 := ox HB hx173_0
        replace hx173_1 := ox HB hx173_1
        replace hx173_2 := ox HB hx173_2
        replace p173 := eq_true p173
        replace q173 := eq_true q173
        go_wp2_with (first | ((with_reducible refine gq 5 rfl ?_); (try (refine gate_guard (by rfl) ?_; dsimp only)); refine bx1 HB BK169 (N := 5) (cs := #[.int .i64 0, .int .i64 0, .int .i64 0]) (t := 39) ?_; clear HB BK169; intro gb174 w45 BK174 GE174 HB NB169_174 NB174_169 BK169; have hnb46 := NB174_169.out; have hnc46 := NB169_174.out; have hz47 := cs3_ BK174; have hz48 := cs2_ BK169) | (go_at_call 126; (with_reducible refine (spec_WordOk.calls ((rd_T39 l0_0 x4_3).f0) ((rd_T39 l0_0 x4_3).f1) ((rd_T39 l0_0 x4_3).f2) (l0_1.length : Int) true _ A20.out).mono ?_); rintro e w49 ⟨rfl, hb⟩; replace BK169 := bbf BK169 hb; replace BK174 := bbp3 BK174 hb; replace HB := bs HB hb; (try clear hb); have hz50 := cs3_ BK174; have hz51 := cs2_ BK169; have p176 : 0 ≤ ((ji23) : Int) := od; have q176 : (ji23) < (l0_1.length : Int) := od; obtain ⟨ad176, A176_2, c176_2, A176_4, c176_4, e176, hx176_0, hx176_1, hx176_2, hx176_3, hx176_4, hl176_2, hi176_2, hl176_4, hi176_4⟩ := at_T52 HR0_1.out (ji23) p176 q176; cases e176; replace hx176_0 := ox HB hx176_0; replace hx176_1 := ox HB hx176_1; replace hx176_2 := ox HB hx176_2; replace hx176_3 := ox HB hx176_3; replace hx176_4 := ox HB hx176_4; have HR176_2 := Aside0.mk hi176_2; have HC176_2 := Aside0.mk hl176_2; clear hi176_2 hl176_2; have HR176_4 := Aside0.mk hi176_4; have HC176_4 := Aside0.mk hl176_4; clear hi176_4 hl176_4; replace p176 := eq_true p176; replace q176 := eq_true q176) | (go_at_call 127; (with_reducible refine (spec_Entries.calls k3 ((rd_T52 l0_1 (ji23)).f0) ((rd_T52 l0_1 (ji23)).f1) _ _ ((rd_T52 l0_1 (ji23)).f2) ((rd_T52 l0_1 (ji23)).f3.f0) _ _ ((rd_T52 l0_1 (ji23)).f3.f1) x4_3 t177 t178 t179 true _ (kc HR176_2 HB) HC176_2.out (kc HR176_4 HB) HC176_4.out A26.out).mono ?_); rintro e w52 ⟨rfl, hb⟩; replace BK169 := bb BK169 hb; replace BK174 := bb BK174 hb; replace HB := bs HB hb; (try clear hb)) | ((with_reducible refine gq 6 rfl ?_); (try (refine gate_guard (by rfl) ?_; dsimp only)); refine bx (N := 6) (cs := #[.int .i64 0, .int .i64 0, .int .i64 0]) (t := 37) ?_; intro gb181 hg w53 hbox hb; have BK181 := Aside0.mk (hbox); have GW181 := Aside0.mk (ge_ hg HB); have GE181 := Aside0.mk (ge_ hg HB); replace HB := bs HB hb; have NB169_181 := Aside0.mk (nl_ hg BK169); have NB181_169 := Aside0.mk (ng_ hg BK169); replace BK169 := bb BK169 hb; have NB174_181 := Aside0.mk (nl_ hg BK174); have NB181_174 := Aside0.mk (ng_ hg BK174); replace BK174 := bb BK174 hb; clear hb hbox hg; have hnb54 := NB181_169.out; have hnc54 := NB169_181.out; have hnb55 := NB181_174.out; have hnc55 := NB174_181.out; have hz56 := cs3_ BK181; have hz57 := cs2_ BK169; have hz58 := cs3_ BK174; have p182 : 0 ≤ ((ji23) : Int) := od; have q182 : (ji23) < (l0_1.length : Int) := od; obtain ⟨ad182, A182_2, c182_2, A182_4, c182_4, e182, hx182_0, hx182_1, hx182_2, hx182_3, hx182_4, hl182_2, hi182_2, hl182_4, hi182_4⟩ := at_T52 HR0_1.out (ji23) p182 q182; obtain rfl : ad176 = ad182 := (by injection e182); have hn182_0 : ad176.block ≠ gb181 := Nat.ne_of_lt (Nat.lt_of_lt_of_le (by have := World.block_lt_of_cell? _ _ hx182_0; first | rwa [add_block] at this | exact this) GW181.out); have hn182_1 : ad176.block ≠ gb181 := Nat.ne_of_lt (Nat.lt_of_lt_of_le (by have := World.block_lt_of_cell? _ _ hx182_0; first | rwa [add_block] at this | exact this) GW181.out); have hn182_2 : ad176.block ≠ gb181 := Nat.ne_of_lt (Nat.lt_of_lt_of_le (by have := World.block_lt_of_cell? _ _ hx182_0; first | rwa [add_block] at this | exact this) GW181.out); replace hx182_0 := ox HB hx182_0; replace hx182_1 := ox HB hx182_1; replace hx182_2 := ox HB hx182_2; replace hx182_3 := ox HB hx182_3; replace hx182_4 := ox HB hx182_4; have HR182_2 := Aside0.mk hi182_2; have HC182_2 := Aside0.mk hl182_2; clear hi182_2 hl182_2; have HR182_4 := Aside0.mk hi182_4; have HC182_4 := Aside0.mk hl182_4; clear hi182_4 hl182_4; replace hx182_0 := (cell_far (p := ⟨gb181, 0, none⟩) (by first | (rw [add_block]; exact hn182_0) | (show (Addr.add _ _).block ≠ _; rw [add_block]; exact hn182_0) | exact hn182_0) (.int .i64 t177)).trans hx182_0; replace hx182_1 := (cell_far (p := ⟨gb181, 0, none⟩) (by first | (rw [add_block]; exact hn182_0) | (show (Addr.add _ _).block ≠ _; rw [add_block]; exact hn182_0) | exact hn182_0) (.int .i64 t177)).trans hx182_1; replace hx182_2 := (cell_far (p := ⟨gb181, 0, none⟩) (by first | (rw [add_block]; exact hn182_0) | (show (Addr.add _ _).block ≠ _; rw [add_block]; exact hn182_0) | exact hn182_0) (.int .i64 t177)).trans hx182_2; replace hx182_3 := (cell_far (p := ⟨gb181, 0, none⟩) (by first | (rw [add_block]; exact hn182_0) | (show (Addr.add _ _).block ≠ _; rw [add_block]; exact hn182_0) | exact hn182_0) (.int .i64 t177)).trans hx182_3; replace hx182_4 := (cell_far (p := ⟨gb181, 0, none⟩) (by first | (rw [add_block]; exact hn182_0) | (show (Addr.add _ _).block ≠ _; rw [add_block]; exact hn182_0) | exact hn182_0) (.int .i64 t177)).trans hx182_4; replace hx182_0 := (cell_far (p := ⟨gb181, 1, none⟩) (by first | (rw [add_block]; exact hn182_1) | (show (Addr.add _ _).block ≠ _; rw [add_block]; exact hn182_1) | exact hn182_1) (.int .i64 t178)).trans hx182_0; replace hx182_1 := (cell_far (p := ⟨gb181, 1, none⟩) (by first | (rw [add_block]; exact hn182_1) | (show (Addr.add _ _).block ≠ _; rw [add_block]; exact hn182_1) | exact hn182_1) (.int .i64 t178)).trans hx182_1; replace hx182_2 := (cell_far (p := ⟨gb181, 1, none⟩) (by first | (rw [add_block]; exact hn182_1) | (show (Addr.add _ _).block ≠ _; rw [add_block]; exact hn182_1) | exact hn182_1) (.int .i64 t178)).trans hx182_2; replace hx182_3 := (cell_far (p := ⟨gb181, 1, none⟩) (by first | (rw [add_block]; exact hn182_1) | (show (Addr.add _ _).block ≠ _; rw [add_block]; exact hn182_1) | exact hn182_1) (.int .i64 t178)).trans hx182_3; replace hx182_4 := (cell_far (p := ⟨gb181, 1, none⟩) (by first | (rw [add_block]; exact hn182_1) | (show (Addr.add _ _).block ≠ _; rw [add_block]; exact hn182_1) | exact hn182_1) (.int .i64 t178)).trans hx182_4; replace hx182_0 := (cell_far (p := ⟨gb181, 2, none⟩) (by first | (rw [add_block]; exact hn182_2) | (show (Addr.add _ _).block ≠ _; rw [add_block]; exact hn182_2) | exact hn182_2) (.int .i64 t179)).trans hx182_0; replace hx182_1 := (cell_far (p := ⟨gb181, 2, none⟩) (by first | (rw [add_block]; exact hn182_2) | (show (Addr.add _ _).block ≠ _; rw [add_block]; exact hn182_2) | exact hn182_2) (.int .i64 t179)).trans hx182_1; replace hx182_2 := (cell_far (p := ⟨gb181, 2, none⟩) (by first | (rw [add_block]; exact hn182_2) | (show (Addr.add _ _).block ≠ _; rw [add_block]; exact hn182_2) | exact hn182_2) (.int .i64 t179)).trans hx182_2; replace hx182_3 := (cell_far (p := ⟨gb181, 2, none⟩) (by first | (rw [add_block]; exact hn182_2) | (show (Addr.add _ _).block ≠ _; rw [add_block]; exact hn182_2) | exact hn182_2) (.int .i64 t179)).trans hx182_3; replace hx182_4 := (cell_far (p := ⟨gb181, 2, none⟩) (by first | (rw [add_block]; exact hn182_2) | (show (Addr.add _ _).block ≠ _; rw [add_block]; exact hn182_2) | exact hn182_2) (.int .i64 t179)).trans hx182_4; (try have hy182_0 := fun (n_ : Nat) => (show (((((w53.drewN n_).setCell ⟨gb181, 0, none⟩ (.int .i64 t177)).setCell ⟨gb181, 1, none⟩ (.int .i64 t178)).setCell ⟨gb181, 2, none⟩ (.int .i64 t179))).cell? _ = some _ from hx182_0)); (try have hy182_1 := fun (n_ : Nat) => (show (((((w53.drewN n_).setCell ⟨gb181, 0, none⟩ (.int .i64 t177)).setCell ⟨gb181, 1, none⟩ (.int .i64 t178)).setCell ⟨gb181, 2, none⟩ (.int .i64 t179))).cell? _ = some _ from hx182_1)); (try have hy182_2 := fun (n_ : Nat) => (show (((((w53.drewN n_).setCell ⟨gb181, 0, none⟩ (.int .i64 t177)).setCell ⟨gb181, 1, none⟩ (.int .i64 t178)).setCell ⟨gb181, 2, none⟩ (.int .i64 t179))).cell? _ = some _ from hx182_2)); (try have hy182_3 := fun (n_ : Nat) => (show (((((w53.drewN n_).setCell ⟨gb181, 0, none⟩ (.int .i64 t177)).setCell ⟨gb181, 1, none⟩ (.int .i64 t178)).setCell ⟨gb181, 2, none⟩ (.int .i64 t179))).cell? _ = some _ from hx182_3)); (try have hy182_4 := fun (n_ : Nat) => (show (((((w53.drewN n_).setCell ⟨gb181, 0, none⟩ (.int .i64 t177)).setCell ⟨gb181, 1, none⟩ (.int .i64 t178)).setCell ⟨gb181, 2, none⟩ (.int .i64 t179))).cell? _ = some _ from hx182_4)); clear hn182_0; clear hn182_1; clear hn182_2; replace p182 := eq_true p182; replace q182 := eq_true q182))
        repeat (go_quiet (first | ((with_reducible refine gq 5 rfl ?_); (try (refine gate_guard (by rfl) ?_; dsimp only)); refine bx1 HB BK169 (N := 5) (cs := #[.int .i64 0, .int .i64 0, .int .i64 0]) (t := 39) ?_; clear HB BK169; intro gb174 w45 BK174 GE174 HB NB169_174 NB174_169 BK169; have hnb46 := NB174_169.out; have hnc46 := NB169_174.out; have hz47 := cs3_ BK174; have hz48 := cs2_ BK169) | (go_at_call 126; (with_reducible refine (spec_WordOk.calls ((rd_T39 l0_0 x4_3).f0) ((rd_T39 l0_0 x4_3).f1) ((rd_T39 l0_0 x4_3).f2) (l0_1.length : Int) true _ A20.out).mono ?_); rintro e w49 ⟨rfl, hb⟩; replace BK169 := bbf BK169 hb; replace BK174 := bbp3 BK174 hb; replace HB := bs HB hb; (try clear hb); have hz50 := cs3_ BK174; have hz51 := cs2_ BK169; have p176 : 0 ≤ ((ji23) : Int) := od; have q176 : (ji23) < (l0_1.length : Int) := od; obtain ⟨ad176, A176_2, c176_2, A176_4, c176_4, e176, hx176_0, hx176_1, hx176_2, hx176_3, hx176_4, hl176_2, hi176_2, hl176_4, hi176_4⟩ := at_T52 HR0_1.out (ji23) p176 q176; cases e176; replace hx176_0 := ox HB hx176_0; replace hx176_1 := ox HB hx176_1; replace hx176_2 := ox HB hx176_2; replace hx176_3 := ox HB hx176_3; replace hx176_4 := ox HB hx176_4; have HR176_2 := Aside0.mk hi176_2; have HC176_2 := Aside0.mk hl176_2; clear hi176_2 hl176_2; have HR176_4 := Aside0.mk hi176_4; have HC176_4 := Aside0.mk hl176_4; clear hi176_4 hl176_4; replace p176 := eq_true p176; replace q176 := eq_true q176) | (go_at_call 127; (with_reducible refine (spec_Entries.calls k3 ((rd_T52 l0_1 (ji23)).f0) ((rd_T52 l0_1 (ji23)).f1) _ _ ((rd_T52 l0_1 (ji23)).f2) ((rd_T52 l0_1 (ji23)).f3.f0) _ _ ((rd_T52 l0_1 (ji23)).f3.f1) x4_3 t177 t178 t179 true _ (kc HR176_2 HB) HC176_2.out (kc HR176_4 HB) HC176_4.out A26.out).mono ?_); rintro e w52 ⟨rfl, hb⟩; replace BK169 := bb BK169 hb; replace BK174 := bb BK174 hb; replace HB := bs HB hb; (try clear hb)) | ((with_reducible refine gq 6 rfl ?_); (try (refine gate_guard (by rfl) ?_; dsimp only)); refine bx1 HB BK169 (N := 6) (cs := #[.int .i64 0, .int .i64 0, .int .i64 0]) (t := 37) ?_; intro gb181 hg w53 hbox hb; have BK181 := Aside0.mk (hbox); have GW181 := Aside0.mk (ge_ hg HB); have GE181 := Aside0.mk (ge_ hg HB); replace HB := bs HB hb; have NB169_181 := Aside0.mk (nl_ hg BK169); have NB181_169 := Aside0.mk (ng_ hg BK169); replace BK169 := bb BK169 hb; have NB174_181 := Aside0.mk (nl_ hg BK174); have NB181_174 := Aside0.mk (ng_ hg BK174); replace BK174 := bb BK174 hb; clear hb hbox hg; have hnb54 := NB181_169.out; have hnc54 := NB169_181.out; have hnb55 := NB181_174.out; have hnc55 := NB174_181.out; have hz56 := cs3_ BK181; have hz57 := cs2_ BK169; have hz58 := cs3_ BK174; have p182 : 0 ≤ ((ji23) : Int) := od; have q182 : (ji23) < (l0_1.length : Int) := od; obtain ⟨ad182, A182_2, c182_2, A182_4, c182_4, e182, hx182_0, hx182_1, hx182_2, hx182_3, hx182_4, hl182_2, hi182_2, hl182_4, hi182_4⟩ := at_T52 HR0_1.out (ji23) p182 q182; obtain rfl : ad176 = ad182 := (by injection e182); have hn182_0 : ad176.block ≠ gb181 := Nat.ne_of_lt (Nat.lt_of_lt_of_le (by have := World.block_lt_of_cell? _ _ hx182_0; first | rwa [add_block] at this | exact this) GW181.out); have hn182_1 : ad176.block ≠ gb181 := Nat.ne_of_lt (Nat.lt_of_lt_of_le (by have := World.block_lt_of_cell? _ _ hx182_0; first | rwa [add_block] at this | exact this) GW181.out); have hn182_2 : ad176.block ≠ gb181 := Nat.ne_of_lt (Nat.lt_of_lt_of_le (by have := World.block_lt_of_cell? _ _ hx182_0; first | rwa [add_block] at this | exact this) GW181.out); replace hx182_0 := ox HB hx182_0; replace hx182_1 := ox HB hx182_1; replace hx182_2 := ox HB hx182_2; replace hx182_3 := ox HB hx182_3; replace hx182_4 := ox HB hx182_4; have HR182_2 := Aside0.mk hi182_2; have HC182_2 := Aside0.mk hl182_2; clear hi182_2 hl182_2; have HR182_4 := Aside0.mk hi182_4; have HC182_4 := Aside0.mk hl182_4; clear hi182_4 hl182_4; replace hx182_0 := (cell_far (p := ⟨gb181, 0, none⟩) (by first | (rw [add_block]; exact hn182_0) | (show (Addr.add _ _).block ≠ _; rw [add_block]; exact hn182_0) | exact hn182_0) (.int .i64 t177)).trans hx182_0; replace hx182_1 := (cell_far (p := ⟨gb181, 0, none⟩) (by first | (rw [add_block]; exact hn182_0) | (show (Addr.add _ _).block ≠ _; rw [add_block]; exact hn182_0) | exact hn182_0) (.int .i64 t177)).trans hx182_1; replace hx182_2 := (cell_far (p := ⟨gb181, 0, none⟩) (by first | (rw [add_block]; exact hn182_0) | (show (Addr.add _ _).block ≠ _; rw [add_block]; exact hn182_0) | exact hn182_0) (.int .i64 t177)).trans hx182_2; replace hx182_3 := (cell_far (p := ⟨gb181, 0, none⟩) (by first | (rw [add_block]; exact hn182_0) | (show (Addr.add _ _).block ≠ _; rw [add_block]; exact hn182_0) | exact hn182_0) (.int .i64 t177)).trans hx182_3; replace hx182_4 := (cell_far (p := ⟨gb181, 0, none⟩) (by first | (rw [add_block]; exact hn182_0) | (show (Addr.add _ _).block ≠ _; rw [add_block]; exact hn182_0) | exact hn182_0) (.int .i64 t177)).trans hx182_4; replace hx182_0 := (cell_far (p := ⟨gb181, 1, none⟩) (by first | (rw [add_block]; exact hn182_1) | (show (Addr.add _ _).block ≠ _; rw [add_block]; exact hn182_1) | exact hn182_1) (.int .i64 t178)).trans hx182_0; replace hx182_1 := (cell_far (p := ⟨gb181, 1, none⟩) (by first | (rw [add_block]; exact hn182_1) | (show (Addr.add _ _).block ≠ _; rw [add_block]; exact hn182_1) | exact hn182_1) (.int .i64 t178)).trans hx182_1; replace hx182_2 := (cell_far (p := ⟨gb181, 1, none⟩) (by first | (rw [add_block]; exact hn182_1) | (show (Addr.add _ _).block ≠ _; rw [add_block]; exact hn182_1) | exact hn182_1) (.int .i64 t178)).trans hx182_2; replace hx182_3 := (cell_far (p := ⟨gb181, 1, none⟩) (by first | (rw [add_block]; exact hn182_1) | (show (Addr.add _ _).block ≠ _; rw [add_block]; exact hn182_1) | exact hn182_1) (.int .i64 t178)).trans hx182_3; replace hx182_4 := (cell_far (p := ⟨gb181, 1, none⟩) (by first | (rw [add_block]; exact hn182_1) | (show (Addr.add _ _).block ≠ _; rw [add_block]; exact hn182_1) | exact hn182_1) (.int .i64 t178)).trans hx182_4; replace hx182_0 := (cell_far (p := ⟨gb181, 2, none⟩) (by first | (rw [add_block]; exact hn182_2) | (show (Addr.add _ _).block ≠ _; rw [add_block]; exact hn182_2) | exact hn182_2) (.int .i64 t179)).trans hx182_0; replace hx182_1 := (cell_far (p := ⟨gb181, 2, none⟩) (by first | (rw [add_block]; exact hn182_2) | (show (Addr.add _ _).block ≠ _; rw [add_block]; exact hn182_2) | exact hn182_2) (.int .i64 t179)).trans hx182_1; replace hx182_2 := (cell_far (p := ⟨gb181, 2, none⟩) (by first | (rw [add_block]; exact hn182_2) | (show (Addr.add _ _).block ≠ _; rw [add_block]; exact hn182_2) | exact hn182_2) (.int .i64 t179)).trans hx182_2; replace hx182_3 := (cell_far (p := ⟨gb181, 2, none⟩) (by first | (rw [add_block]; exact hn182_2) | (show (Addr.add _ _).block ≠ _; rw [add_block]; exact hn182_2) | exact hn182_2) (.int .i64 t179)).trans hx182_3; replace hx182_4 := (cell_far (p := ⟨gb181, 2, none⟩) (by first | (rw [add_block]; exact hn182_2) | (show (Addr.add _ _).block ≠ _; rw [add_block]; exact hn182_2) | exact hn182_2) (.int .i64 t179)).trans hx182_4; (try have hy182_0 := fun (n_ : Nat) => (show (((((w53.drewN n_).setCell ⟨gb181, 0, none⟩ (.int .i64 t177)).setCell ⟨gb181, 1, none⟩ (.int .i64 t178)).setCell ⟨gb181, 2, none⟩ (.int .i64 t179))).cell? _ = some _ from hx182_0)); (try have hy182_1 := fun (n_ : Nat) => (show (((((w53.drewN n_).setCell ⟨gb181, 0, none⟩ (.int .i64 t177)).setCell ⟨gb181, 1, none⟩ (.int .i64 t178)).setCell ⟨gb181, 2, none⟩ (.int .i64 t179))).cell? _ = some _ from hx182_1)); (try have hy182_2 := fun (n_ : Nat) => (show (((((w53.drewN n_).setCell ⟨gb181, 0, none⟩ (.int .i64 t177)).setCell ⟨gb181, 1, none⟩ (.int .i64 t178)).setCell ⟨gb181, 2, none⟩ (.int .i64 t179))).cell? _ = some _ from hx182_2)); (try have hy182_3 := fun (n_ : Nat) => (show (((((w53.drewN n_).setCell ⟨gb181, 0, none⟩ (.int .i64 t177)).setCell ⟨gb181, 1, none⟩ (.int .i64 t178)).setCell ⟨gb181, 2, none⟩ (.int .i64 t179))).cell? _ = some _ from hx182_3)); (try have hy182_4 := fun (n_ : Nat) => (show (((((w53.drewN n_).setCell ⟨gb181, 0, none⟩ (.int .i64 t177)).setCell ⟨gb181, 1, none⟩ (.int .i64 t178)).setCell ⟨gb181, 2, none⟩ (.int .i64 t179))).cell? _ = some _ from hx182_4)); clear hn182_0; clear hn182_1; clear hn182_2; replace p182 := eq_true p182; replace q182 := eq_true q182)); try go_wp2_with (first | ((with_reducible refine gq 5 rfl ?_); (try (refine gate_guard (by rfl) ?_; dsimp only)); refine bx (N := 5) (cs := #[.int .i64 0, .int .i64 0, .int .i64 0]) (t := 39) ?_; clear HB BK169; intro gb174 w45 BK174 GE174 HB NB169_174 NB174_169 BK169; have hnb46 := NB174_169.out; have hnc46 := NB169_174.out; have hz47 := cs3_ BK174; have hz48 := cs2_ BK169) | (go_at_call 126; (with_reducible refine (spec_WordOk.calls ((rd_T39 l0_0 x4_3).f0) ((rd_T39 l0_0 x4_3).f1) ((rd_T39 l0_0 x4_3).f2) (l0_1.length : Int) true _ A20.out).mono ?_); rintro e w49 ⟨rfl, hb⟩; replace BK169 := bbf BK169 hb; replace BK174 := bbp3 BK174 hb; replace HB := bs HB hb; (try clear hb); have hz50 := cs3_ BK174; have hz51 := cs2_ BK169; have p176 : 0 ≤ ((ji23) : Int) := od; have q176 : (ji23) < (l0_1.length : Int) := od; obtain ⟨ad176, A176_2, c176_2, A176_4, c176_4, e176, hx176_0, hx176_1, hx176_2, hx176_3, hx176_4, hl176_2, hi176_2, hl176_4, hi176_4⟩ := at_T52 HR0_1.out (ji23) p176 q176; cases e176; replace hx176_0 := ox HB hx176_0; replace hx176_1 := ox HB hx176_1; replace hx176_2 := ox HB hx176_2; replace hx176_3 := ox HB hx176_3; replace hx176_4 := ox HB hx176_4; have HR176_2 := Aside0.mk hi176_2; have HC176_2 := Aside0.mk hl176_2; clear hi176_2 hl176_2; have HR176_4 := Aside0.mk hi176_4; have HC176_4 := Aside0.mk hl176_4; clear hi176_4 hl176_4; replace p176 := eq_true p176; replace q176 := eq_true q176) | (go_at_call 127; (with_reducible refine (spec_Entries.calls k3 ((rd_T52 l0_1 (ji23)).f0) ((rd_T52 l0_1 (ji23)).f1) _ _ ((rd_T52 l0_1 (ji23)).f2) ((rd_T52 l0_1 (ji23)).f3.f0) _ _ ((rd_T52 l0_1 (ji23)).f3.f1) x4_3 t177 t178 t179 true _ (kc HR176_2 HB) HC176_2.out (kc HR176_4 HB) HC176_4.out A26.out).mono ?_); rintro e w52 ⟨rfl, hb⟩; replace BK169 := bb BK169 hb; replace BK174 := bb BK174 hb; replace HB := bs HB hb; (try clear hb)) | ((with_reducible refine gq 6 rfl ?_); (try (refine gate_guard (by rfl) ?_; dsimp only)); refine bx (N := 6) (cs := #[.int .i64 0, .int .i64 0, .int .i64 0]) (t := 37) ?_; intro gb181 hg w53 hbox hb; have BK181 := Aside0.mk (hbox); have GW181 := Aside0.mk (ge_ hg HB); have GE181 := Aside0.mk (ge_ hg HB); replace HB := bs HB hb; have NB169_181 := Aside0.mk (nl_ hg BK169); have NB181_169 := Aside0.mk (ng_ hg BK169); replace BK169 := bb BK169 hb; have NB174_181 := Aside0.mk (nl_ hg BK174); have NB181_174 := Aside0.mk (ng_ hg BK174); replace BK174 := bb BK174 hb; clear hb hbox hg; have hnb54 := NB181_169.out; have hnc54 := NB169_181.out; have hnb55 := NB181_174.out; have hnc55 := NB174_181.out; have hz56 := cs3_ BK181; have hz57 := cs2_ BK169; have hz58 := cs3_ BK174; have p182 : 0 ≤ ((ji23) : Int) := od; have q182 : (ji23) < (l0_1.length : Int) := od; obtain ⟨ad182, A182_2, c182_2, A182_4, c182_4, e182, hx182_0, hx182_1, hx182_2, hx182_3, hx182_4, hl182_2, hi182_2, hl182_4, hi182_4⟩ := at_T52 HR0_1.out (ji23) p182 q182; obtain rfl : ad176 = ad182 := (by injection e182); have hn182_0 : ad176.block ≠ gb181 := Nat.ne_of_lt (Nat.lt_of_lt_of_le (by have := World.block_lt_of_cell? _ _ hx182_0; first | rwa [add_block] at this | exact this) GW181.out); have hn182_1 : ad176.block ≠ gb181 := Nat.ne_of_lt (Nat.lt_of_lt_of_le (by have := World.block_lt_of_cell? _ _ hx182_0; first | rwa [add_block] at this | exact this) GW181.out); have hn182_2 : ad176.block ≠ gb181 := Nat.ne_of_lt (Nat.lt_of_lt_of_le (by have := World.block_lt_of_cell? _ _ hx182_0; first | rwa [add_block] at this | exact this) GW181.out); replace hx182_0 := ox HB hx182_0; replace hx182_1 := ox HB hx182_1; replace hx182_2 := ox HB hx182_2; replace hx182_3 := ox HB hx182_3; replace hx182_4 := ox HB hx182_4; have HR182_2 := Aside0.mk hi182_2; have HC182_2 := Aside0.mk hl182_2; clear hi182_2 hl182_2; have HR182_4 := Aside0.mk hi182_4; have HC182_4 := Aside0.mk hl182_4; clear hi182_4 hl182_4; replace hx182_0 := (cell_far (p := ⟨gb181, 0, none⟩) (by first | (rw [add_block]; exact hn182_0) | (show (Addr.add _ _).block ≠ _; rw [add_block]; exact hn182_0) | exact hn182_0) (.int .i64 t177)).trans hx182_0; replace hx182_1 := (cell_far (p := ⟨gb181, 0, none⟩) (by first | (rw [add_block]; exact hn182_0) | (show (Addr.add _ _).block ≠ _; rw [add_block]; exact hn182_0) | exact hn182_0) (.int .i64 t177)).trans hx182_1; replace hx182_2 := (cell_far (p := ⟨gb181, 0, none⟩) (by first | (rw [add_block]; exact hn182_0) | (show (Addr.add _ _).block ≠ _; rw [add_block]; exact hn182_0) | exact hn182_0) (.int .i64 t177)).trans hx182_2; replace hx182_3 := (cell_far (p := ⟨gb181, 0, none⟩) (by first | (rw [add_block]; exact hn182_0) | (show (Addr.add _ _).block ≠ _; rw [add_block]; exact hn182_0) | exact hn182_0) (.int .i64 t177)).trans hx182_3; replace hx182_4 := (cell_far (p := ⟨gb181, 0, none⟩) (by first | (rw [add_block]; exact hn182_0) | (show (Addr.add _ _).block ≠ _; rw [add_block]; exact hn182_0) | exact hn182_0) (.int .i64 t177)).trans hx182_4; replace hx182_0 := (cell_far (p := ⟨gb181, 1, none⟩) (by first | (rw [add_block]; exact hn182_1) | (show (Addr.add _ _).block ≠ _; rw [add_block]; exact hn182_1) | exact hn182_1) (.int .i64 t178)).trans hx182_0; replace hx182_1 := (cell_far (p := ⟨gb181, 1, none⟩) (by first | (rw [add_block]; exact hn182_1) | (show (Addr.add _ _).block ≠ _; rw [add_block]; exact hn182_1) | exact hn182_1) (.int .i64 t178)).trans hx182_1; replace hx182_2 := (cell_far (p := ⟨gb181, 1, none⟩) (by first | (rw [add_block]; exact hn182_1) | (show (Addr.add _ _).block ≠ _; rw [add_block]; exact hn182_1) | exact hn182_1) (.int .i64 t178)).trans hx182_2; replace hx182_3 := (cell_far (p := ⟨gb181, 1, none⟩) (by first | (rw [add_block]; exact hn182_1) | (show (Addr.add _ _).block ≠ _; rw [add_block]; exact hn182_1) | exact hn182_1) (.int .i64 t178)).trans hx182_3; replace hx182_4 := (cell_far (p := ⟨gb181, 1, none⟩) (by first | (rw [add_block]; exact hn182_1) | (show (Addr.add _ _).block ≠ _; rw [add_block]; exact hn182_1) | exact hn182_1) (.int .i64 t178)).trans hx182_4; replace hx182_0 := (cell_far (p := ⟨gb181, 2, none⟩) (by first | (rw [add_block]; exact hn182_2) | (show (Addr.add _ _).block ≠ _; rw [add_block]; exact hn182_2) | exact hn182_2) (.int .i64 t179)).trans hx182_0; replace hx182_1 := (cell_far (p := ⟨gb181, 2, none⟩) (by first | (rw [add_block]; exact hn182_2) | (show (Addr.add _ _).block ≠ _; rw [add_block]; exact hn182_2) | exact hn182_2) (.int .i64 t179)).trans hx182_1; replace hx182_2 := (cell_far (p := ⟨gb181, 2, none⟩) (by first | (rw [add_block]; exact hn182_2) | (show (Addr.add _ _).block ≠ _; rw [add_block]; exact hn182_2) | exact hn182_2) (.int .i64 t179)).trans hx182_2; replace hx182_3 := (cell_far (p := ⟨gb181, 2, none⟩) (by first | (rw [add_block]; exact hn182_2) | (show (Addr.add _ _).block ≠ _; rw [add_block]; exact hn182_2) | exact hn182_2) (.int .i64 t179)).trans hx182_3; replace hx182_4 := (cell_far (p := ⟨gb181, 2, none⟩) (by first | (rw [add_block]; exact hn182_2) | (show (Addr.add _ _).block ≠ _; rw [add_block]; exact hn182_2) | exact hn182_2) (.int .i64 t179)).trans hx182_4; (try have hy182_0 := fun (n_ : Nat) => (show (((((w53.drewN n_).setCell ⟨gb181, 0, none⟩ (.int .i64 t177)).setCell ⟨gb181, 1, none⟩ (.int .i64 t178)).setCell ⟨gb181, 2, none⟩ (.int .i64 t179))).cell? _ = some _ from hx182_0)); (try have hy182_1 := fun (n_ : Nat) => (show (((((w53.drewN n_).setCell ⟨gb181, 0, none⟩ (.int .i64 t177)).setCell ⟨gb181, 1, none⟩ (.int .i64 t178)).setCell ⟨gb181, 2, none⟩ (.int .i64 t179))).cell? _ = some _ from hx182_1)); (try have hy182_2 := fun (n_ : Nat) => (show (((((w53.drewN n_).setCell ⟨gb181, 0, none⟩ (.int .i64 t177)).setCell ⟨gb181, 1, none⟩ (.int .i64 t178)).setCell ⟨gb181, 2, none⟩ (.int .i64 t179))).cell? _ = some _ from hx182_2)); (try have hy182_3 := fun (n_ : Nat) => (show (((((w53.drewN n_).setCell ⟨gb181, 0, none⟩ (.int .i64 t177)).setCell ⟨gb181, 1, none⟩ (.int .i64 t178)).setCell ⟨gb181, 2, none⟩ (.int .i64 t179))).cell? _ = some _ from hx182_3)); (try have hy182_4 := fun (n_ : Nat) => (show (((((w53.drewN n_).setCell ⟨gb181, 0, none⟩ (.int .i64 t177)).setCell ⟨gb181, 1, none⟩ (.int .i64 t178)).setCell ⟨gb181, 2, none⟩ (.int .i64 t179))).cell? _ = some _ from hx182_4)); clear hn182_0; clear hn182_1; clear hn182_2; replace p182 := eq_true p182; replace q182 := eq_true q182)))
        go_ret
        exact ⟨by first | rfl | (simp [errW_none, errW_some] <;> rfl) | (simp only [← hji23]; first | rfl | (simp [errW_none, errW_some] <;> rfl)) | (simp [*, errW_none, errW_some] <;> rfl), tb HB⟩
       rw [if_pos c28] at H
       have c28b0 : (((rd_T52 l0_1 (ji23)).f0) == ((rd_T39 l0_0 x4_3).f2)) = true := beq_iff_eq.mpr c28
       have c28b1 : (((rd_T52 l0_1 (ji23)).f0) != ((rd_T39 l0_0 x4_3).f2)) = false := bne_eq_false_iff_eq.mpr c28
       clear c28
       have H' := Aside0.mk H
       clear H
       have hz29 := cs2_ BK169
       have p173 : 0 ≤ (x4_3 : Int) := od
       have q173 : x4_3 < (l0_0.length : Int) := od
       obtain ⟨ad173, e173, hx173_0, hx173_1, hx173_2⟩ := at_T39 HR0_0.out x4_3 p173 q173
       cases e173
       replace hx173_0 := ox HB hx173_0
       replace hx173_1 := ox HB hx173_1
       replace hx173_2 := ox HB hx173_2
       replace p173 := eq_true p173
       replace q173 := eq_true q173
       go_wp2_with (first | ((with_reducible refine gq 5 rfl ?_); (try (refine gate_guard (by rfl) ?_; dsimp only)); refine bx1 HB BK169 (N := 5) (cs := #[.int .i64 0, .int .i64 0, .int .i64 0]) (t := 39) ?_; clear HB BK169; intro gb174 w30 BK174 GE174 HB NB169_174 NB174_169 BK169; have hnb31 := NB174_169.out; have hnc31 := NB169_174.out; have hz32 := cs3_ BK174; have hz33 := cs2_ BK169) | (go_at_call 126; (with_reducible refine (spec_WordOk.calls ((rd_T39 l0_0 x4_3).f0) ((rd_T39 l0_0 x4_3).f1) ((rd_T39 l0_0 x4_3).f2) (l0_1.length : Int) true _ A20.out).mono ?_); rintro e w34 ⟨rfl, hb⟩; replace BK169 := bbf BK169 hb; replace BK174 := bbp3 BK174 hb; replace HB := bs HB hb; (try clear hb); have hz35 := cs3_ BK174; have hz36 := cs2_ BK169; have p176 : 0 ≤ ((ji23) : Int) := od; have q176 : (ji23) < (l0_1.length : Int) := od; obtain ⟨ad176, A176_2, c176_2, A176_4, c176_4, e176, hx176_0, hx176_1, hx176_2, hx176_3, hx176_4, hl176_2, hi176_2, hl176_4, hi176_4⟩ := at_T52 HR0_1.out (ji23) p176 q176; cases e176; replace hx176_0 := ox HB hx176_0; replace hx176_1 := ox HB hx176_1; replace hx176_2 := ox HB hx176_2; replace hx176_3 := ox HB hx176_3; replace hx176_4 := ox HB hx176_4; have HR176_2 := Aside0.mk hi176_2; have HC176_2 := Aside0.mk hl176_2; clear hi176_2 hl176_2; have HR176_4 := Aside0.mk hi176_4; have HC176_4 := Aside0.mk hl176_4; clear hi176_4 hl176_4; replace p176 := eq_true p176; replace q176 := eq_true q176) | (go_at_call 127; (with_reducible refine (spec_Entries.calls k3 ((rd_T52 l0_1 (ji23)).f0) ((rd_T52 l0_1 (ji23)).f1) _ _ ((rd_T52 l0_1 (ji23)).f2) ((rd_T52 l0_1 (ji23)).f3.f0) _ _ ((rd_T52 l0_1 (ji23)).f3.f1) x4_3 t177 t178 t179 true _ (kc HR176_2 HB) HC176_2.out (kc HR176_4 HB) HC176_4.out A26.out).mono ?_); rintro e w37 ⟨rfl, hb⟩; replace BK169 := bb BK169 hb; replace BK174 := bb BK174 hb; replace HB := bs HB hb; (try clear hb)) | ((with_reducible refine gq 6 rfl ?_); (try (refine gate_guard (by rfl) ?_; dsimp only)); refine bx (N := 6) (cs := #[.int .i64 0, .int .i64 0, .int .i64 0]) (t := 37) ?_; intro gb181 hg w38 hbox hb; have BK181 := Aside0.mk (hbox); have GW181 := Aside0.mk (ge_ hg HB); have GE181 := Aside0.mk (ge_ hg HB); replace HB := bs HB hb; have NB169_181 := Aside0.mk (nl_ hg BK169); have NB181_169 := Aside0.mk (ng_ hg BK169); replace BK169 := bb BK169 hb; have NB174_181 := Aside0.mk (nl_ hg BK174); have NB181_174 := Aside0.mk (ng_ hg BK174); replace BK174 := bb BK174 hb; clear hb hbox hg; have hnb39 := NB181_169.out; have hnc39 := NB169_181.out; have hnb40 := NB181_174.out; have hnc40 := NB174_181.out; have hz41 := cs3_ BK181; have hz42 := cs2_ BK169; have hz43 := cs3_ BK174; have p182 : 0 ≤ ((ji23) : Int) := od; have q182 : (ji23) < (l0_1.length : Int) := od; obtain ⟨ad182, A182_2, c182_2, A182_4, c182_4, e182, hx182_0, hx182_1, hx182_2, hx182_3, hx182_4, hl182_2, hi182_2, hl182_4, hi182_4⟩ := at_T52 HR0_1.out (ji23) p182 q182; obtain rfl : ad176 = ad182 := (by injection e182); have hn182_0 : ad176.block ≠ gb181 := Nat.ne_of_lt (Nat.lt_of_lt_of_le (by have := World.block_lt_of_cell? _ _ hx182_0; first | rwa [add_block] at this | exact this) GW181.out); have hn182_1 : ad176.block ≠ gb181 := Nat.ne_of_lt (Nat.lt_of_lt_of_le (by have := World.block_lt_of_cell? _ _ hx182_0; first | rwa [add_block] at this | exact this) GW181.out); have hn182_2 : ad176.block ≠ gb181 := Nat.ne_of_lt (Nat.lt_of_lt_of_le (by have := World.block_lt_of_cell? _ _ hx182_0; first | rwa [add_block] at this | exact this) GW181.out); replace hx182_0 := ox HB hx182_0; replace hx182_1 := ox HB hx182_1; replace hx182_2 := ox HB hx182_2; replace hx182_3 := ox HB hx182_3; replace hx182_4 := ox HB hx182_4; have HR182_2 := Aside0.mk hi182_2; have HC182_2 := Aside0.mk hl182_2; clear hi182_2 hl182_2; have HR182_4 := Aside0.mk hi182_4; have HC182_4 := Aside0.mk hl182_4; clear hi182_4 hl182_4; replace hx182_0 := (cell_far (p := ⟨gb181, 0, none⟩) (by first | (rw [add_block]; exact hn182_0) | (show (Addr.add _ _).block ≠ _; rw [add_block]; exact hn182_0) | exact hn182_0) (.int .i64 t177)).trans hx182_0; replace hx182_1 := (cell_far (p := ⟨gb181, 0, none⟩) (by first | (rw [add_block]; exact hn182_0) | (show (Addr.add _ _).block ≠ _; rw [add_block]; exact hn182_0) | exact hn182_0) (.int .i64 t177)).trans hx182_1; replace hx182_2 := (cell_far (p := ⟨gb181, 0, none⟩) (by first | (rw [add_block]; exact hn182_0) | (show (Addr.add _ _).block ≠ _; rw [add_block]; exact hn182_0) | exact hn182_0) (.int .i64 t177)).trans hx182_2; replace hx182_3 := (cell_far (p := ⟨gb181, 0, none⟩) (by first | (rw [add_block]; exact hn182_0) | (show (Addr.add _ _).block ≠ _; rw [add_block]; exact hn182_0) | exact hn182_0) (.int .i64 t177)).trans hx182_3; replace hx182_4 := (cell_far (p := ⟨gb181, 0, none⟩) (by first | (rw [add_block]; exact hn182_0) | (show (Addr.add _ _).block ≠ _; rw [add_block]; exact hn182_0) | exact hn182_0) (.int .i64 t177)).trans hx182_4; replace hx182_0 := (cell_far (p := ⟨gb181, 1, none⟩) (by first | (rw [add_block]; exact hn182_1) | (show (Addr.add _ _).block ≠ _; rw [add_block]; exact hn182_1) | exact hn182_1) (.int .i64 t178)).trans hx182_0; replace hx182_1 := (cell_far (p := ⟨gb181, 1, none⟩) (by first | (rw [add_block]; exact hn182_1) | (show (Addr.add _ _).block ≠ _; rw [add_block]; exact hn182_1) | exact hn182_1) (.int .i64 t178)).trans hx182_1; replace hx182_2 := (cell_far (p := ⟨gb181, 1, none⟩) (by first | (rw [add_block]; exact hn182_1) | (show (Addr.add _ _).block ≠ _; rw [add_block]; exact hn182_1) | exact hn182_1) (.int .i64 t178)).trans hx182_2; replace hx182_3 := (cell_far (p := ⟨gb181, 1, none⟩) (by first | (rw [add_block]; exact hn182_1) | (show (Addr.add _ _).block ≠ _; rw [add_block]; exact hn182_1) | exact hn182_1) (.int .i64 t178)).trans hx182_3; replace hx182_4 := (cell_far (p := ⟨gb181, 1, none⟩) (by first | (rw [add_block]; exact hn182_1) | (show (Addr.add _ _).block ≠ _; rw [add_block]; exact hn182_1) | exact hn182_1) (.int .i64 t178)).trans hx182_4; replace hx182_0 := (cell_far (p := ⟨gb181, 2, none⟩) (by first | (rw [add_block]; exact hn182_2) | (show (Addr.add _ _).block ≠ _; rw [add_block]; exact hn182_2) | exact hn182_2) (.int .i64 t179)).trans hx182_0; replace hx182_1 := (cell_far (p := ⟨gb181, 2, none⟩) (by first | (rw [add_block]; exact hn182_2) | (show (Addr.add _ _).block ≠ _; rw [add_block]; exact hn182_2) | exact hn182_2) (.int .i64 t179)).trans hx182_1; replace hx182_2 := (cell_far (p := ⟨gb181, 2, none⟩) (by first | (rw [add_block]; exact hn182_2) | (show (Addr.add _ _).block ≠ _; rw [add_block]; exact hn182_2) | exact hn182_2) (.int .i64 t179)).trans hx182_2; replace hx182_3 := (cell_far (p := ⟨gb181, 2, none⟩) (by first | (rw [add_block]; exact hn182_2) | (show (Addr.add _ _).block ≠ _; rw [add_block]; exact hn182_2) | exact hn182_2) (.int .i64 t179)).trans hx182_3; replace hx182_4 := (cell_far (p := ⟨gb181, 2, none⟩) (by first | (rw [add_block]; exact hn182_2) | (show (Addr.add _ _).block ≠ _; rw [add_block]; exact hn182_2) | exact hn182_2) (.int .i64 t179)).trans hx182_4; (try have hy182_0 := fun (n_ : Nat) => (show (((((w38.drewN n_).setCell ⟨gb181, 0, none⟩ (.int .i64 t177)).setCell ⟨gb181, 1, none⟩ (.int .i64 t178)).setCell ⟨gb181, 2, none⟩ (.int .i64 t179))).cell? _ = some _ from hx182_0)); (try have hy182_1 := fun (n_ : Nat) => (show (((((w38.drewN n_).setCell ⟨gb181, 0, none⟩ (.int .i64 t177)).setCell ⟨gb181, 1, none⟩ (.int .i64 t178)).setCell ⟨gb181, 2, none⟩ (.int .i64 t179))).cell? _ = some _ from hx182_1)); (try have hy182_2 := fun (n_ : Nat) => (show (((((w38.drewN n_).setCell ⟨gb181, 0, none⟩ (.int .i64 t177)).setCell ⟨gb181, 1, none⟩ (.int .i64 t178)).setCell ⟨gb181, 2, none⟩ (.int .i64 t179))).cell? _ = some _ from hx182_2)); (try have hy182_3 := fun (n_ : Nat) => (show (((((w38.drewN n_).setCell ⟨gb181, 0, none⟩ (.int .i64 t177)).setCell ⟨gb181, 1, none⟩ (.int .i64 t178)).setCell ⟨gb181, 2, none⟩ (.int .i64 t179))).cell? _ = some _ from hx182_3)); (try have hy182_4 := fun (n_ : Nat) => (show (((((w38.drewN n_).setCell ⟨gb181, 0, none⟩ (.int .i64 t177)).setCell ⟨gb181, 1, none⟩ (.int .i64 t178)).setCell ⟨gb181, 2, none⟩ (.int .i64 t179))).cell? _ = some _ from hx182_4)); clear hn182_0; clear hn182_1; clear hn182_2; replace p182 := eq_true p182; replace q182 := eq_true q182))
       repeat (go_quiet (first | ((with_reducible refine gq 5 rfl ?_); (try (refine gate_guard (by rfl) ?_; dsimp only)); refine bx1 HB BK169 (N := 5) (cs := #[.int .i64 0, .int .i64 0, .int .i64 0]) (t := 39) ?_; clear HB BK169; intro gb174 w30 BK174 GE174 HB NB169_174 NB174_169 BK169; have hnb31 := NB174_169.out; have hnc31 := NB169_174.out; have hz32 := cs3_ BK174; have hz33 := cs2_ BK169) | (go_at_call 126; (with_reducible refine (spec_WordOk.calls ((rd_T39 l0_0 x4_3).f0) ((rd_T39 l0_0 x4_3).f1) ((rd_T39 l0_0 x4_3).f2) (l0_1.length : Int) true _ A20.out).mono ?_); rintro e w34 ⟨rfl, hb⟩; replace BK169 := bbf BK169 hb; replace BK174 := bbp3 BK174 hb; replace HB := bs HB hb; (try clear hb); have hz35 := cs3_ BK174; have hz36 := cs2_ BK169; have p176 : 0 ≤ ((ji23) : Int) := od; have q176 : (ji23) < (l0_1.length : Int) := od; obtain ⟨ad176, A176_2, c176_2, A176_4, c176_4, e176, hx176_0, hx176_1, hx176_2, hx176_3, hx176_4, hl176_2, hi176_2, hl176_4, hi176_4⟩ := at_T52 HR0_1.out (ji23) p176 q176; cases e176; replace hx176_0 := ox HB hx176_0; replace hx176_1 := ox HB hx176_1; replace hx176_2 := ox HB hx176_2; replace hx176_3 := ox HB hx176_3; replace hx176_4 := ox HB hx176_4; have HR176_2 := Aside0.mk hi176_2; have HC176_2 := Aside0.mk hl176_2; clear hi176_2 hl176_2; have HR176_4 := Aside0.mk hi176_4; have HC176_4 := Aside0.mk hl176_4; clear hi176_4 hl176_4; replace p176 := eq_true p176; replace q176 := eq_true q176) | (go_at_call 127; (with_reducible refine (spec_Entries.calls k3 ((rd_T52 l0_1 (ji23)).f0) ((rd_T52 l0_1 (ji23)).f1) _ _ ((rd_T52 l0_1 (ji23)).f2) ((rd_T52 l0_1 (ji23)).f3.f0) _ _ ((rd_T52 l0_1 (ji23)).f3.f1) x4_3 t177 t178 t179 true _ (kc HR176_2 HB) HC176_2.out (kc HR176_4 HB) HC176_4.out A26.out).mono ?_); rintro e w37 ⟨rfl, hb⟩; replace BK169 := bb BK169 hb; replace BK174 := bb BK174 hb; replace HB := bs HB hb; (try clear hb)) | ((with_reducible refine gq 6 rfl ?_); (try (refine gate_guard (by rfl) ?_; dsimp only)); refine bx1 HB BK169 (N := 6) (cs := #[.int .i64 0, .int .i64 0, .int .i64 0]) (t := 37) ?_; intro gb181 hg w38 hbox hb; have BK181 := Aside0.mk (hbox); have GW181 := Aside0.mk (ge_ hg HB); have GE181 := Aside0.mk (ge_ hg HB); replace HB := bs HB hb; have NB169_181 := Aside0.mk (nl_ hg BK169); have NB181_169 := Aside0.mk (ng_ hg BK169); replace BK169 := bb BK169 hb; have NB174_181 := Aside0.mk (nl_ hg BK174); have NB181_174 := Aside0.mk (ng_ hg BK174); replace BK174 := bb BK174 hb; clear hb hbox hg; have hnb39 := NB181_169.out; have hnc39 := NB169_181.out; have hnb40 := NB181_174.out; have hnc40 := NB174_181.out; have hz41 := cs3_ BK181; have hz42 := cs2_ BK169; have hz43 := cs3_ BK174; have p182 : 0 ≤ ((ji23) : Int) := od; have q182 : (ji23) < (l0_1.length : Int) := od; obtain ⟨ad182, A182_2, c182_2, A182_4, c182_4, e182, hx182_0, hx182_1, hx182_2, hx182_3, hx182_4, hl182_2, hi182_2, hl182_4, hi182_4⟩ := at_T52 HR0_1.out (ji23) p182 q182; obtain rfl : ad176 = ad182 := (by injection e182); have hn182_0 : ad176.block ≠ gb181 := Nat.ne_of_lt (Nat.lt_of_lt_of_le (by have := World.block_lt_of_cell? _ _ hx182_0; first | rwa [add_block] at this | exact this) GW181.out); have hn182_1 : ad176.block ≠ gb181 := Nat.ne_of_lt (Nat.lt_of_lt_of_le (by have := World.block_lt_of_cell? _ _ hx182_0; first | rwa [add_block] at this | exact this) GW181.out); have hn182_2 : ad176.block ≠ gb181 := Nat.ne_of_lt (Nat.lt_of_lt_of_le (by have := World.block_lt_of_cell? _ _ hx182_0; first | rwa [add_block] at this | exact this) GW181.out); replace hx182_0 := ox HB hx182_0; replace hx182_1 := ox HB hx182_1; replace hx182_2 := ox HB hx182_2; replace hx182_3 := ox HB hx182_3; replace hx182_4 := ox HB hx182_4; have HR182_2 := Aside0.mk hi182_2; have HC182_2 := Aside0.mk hl182_2; clear hi182_2 hl182_2; have HR182_4 := Aside0.mk hi182_4; have HC182_4 := Aside0.mk hl182_4; clear hi182_4 hl182_4; replace hx182_0 := (cell_far (p := ⟨gb181, 0, none⟩) (by first | (rw [add_block]; exact hn182_0) | (show (Addr.add _ _).block ≠ _; rw [add_block]; exact hn182_0) | exact hn182_0) (.int .i64 t177)).trans hx182_0; replace hx182_1 := (cell_far (p := ⟨gb181, 0, none⟩) (by first | (rw [add_block]; exact hn182_0) | (show (Addr.add _ _).block ≠ _; rw [add_block]; exact hn182_0) | exact hn182_0) (.int .i64 t177)).trans hx182_1; replace hx182_2 := (cell_far (p := ⟨gb181, 0, none⟩) (by first | (rw [add_block]; exact hn182_0) | (show (Addr.add _ _).block ≠ _; rw [add_block]; exact hn182_0) | exact hn182_0) (.int .i64 t177)).trans hx182_2; replace hx182_3 := (cell_far (p := ⟨gb181, 0, none⟩) (by first | (rw [add_block]; exact hn182_0) | (show (Addr.add _ _).block ≠ _; rw [add_block]; exact hn182_0) | exact hn182_0) (.int .i64 t177)).trans hx182_3; replace hx182_4 := (cell_far (p := ⟨gb181, 0, none⟩) (by first | (rw [add_block]; exact hn182_0) | (show (Addr.add _ _).block ≠ _; rw [add_block]; exact hn182_0) | exact hn182_0) (.int .i64 t177)).trans hx182_4; replace hx182_0 := (cell_far (p := ⟨gb181, 1, none⟩) (by first | (rw [add_block]; exact hn182_1) | (show (Addr.add _ _).block ≠ _; rw [add_block]; exact hn182_1) | exact hn182_1) (.int .i64 t178)).trans hx182_0; replace hx182_1 := (cell_far (p := ⟨gb181, 1, none⟩) (by first | (rw [add_block]; exact hn182_1) | (show (Addr.add _ _).block ≠ _; rw [add_block]; exact hn182_1) | exact hn182_1) (.int .i64 t178)).trans hx182_1; replace hx182_2 := (cell_far (p := ⟨gb181, 1, none⟩) (by first | (rw [add_block]; exact hn182_1) | (show (Addr.add _ _).block ≠ _; rw [add_block]; exact hn182_1) | exact hn182_1) (.int .i64 t178)).trans hx182_2; replace hx182_3 := (cell_far (p := ⟨gb181, 1, none⟩) (by first | (rw [add_block]; exact hn182_1) | (show (Addr.add _ _).block ≠ _; rw [add_block]; exact hn182_1) | exact hn182_1) (.int .i64 t178)).trans hx182_3; replace hx182_4 := (cell_far (p := ⟨gb181, 1, none⟩) (by first | (rw [add_block]; exact hn182_1) | (show (Addr.add _ _).block ≠ _; rw [add_block]; exact hn182_1) | exact hn182_1) (.int .i64 t178)).trans hx182_4; replace hx182_0 := (cell_far (p := ⟨gb181, 2, none⟩) (by first | (rw [add_block]; exact hn182_2) | (show (Addr.add _ _).block ≠ _; rw [add_block]; exact hn182_2) | exact hn182_2) (.int .i64 t179)).trans hx182_0; replace hx182_1 := (cell_far (p := ⟨gb181, 2, none⟩) (by first | (rw [add_block]; exact hn182_2) | (show (Addr.add _ _).block ≠ _; rw [add_block]; exact hn182_2) | exact hn182_2) (.int .i64 t179)).trans hx182_1; replace hx182_2 := (cell_far (p := ⟨gb181, 2, none⟩) (by first | (rw [add_block]; exact hn182_2) | (show (Addr.add _ _).block ≠ _; rw [add_block]; exact hn182_2) | exact hn182_2) (.int .i64 t179)).trans hx182_2; replace hx182_3 := (cell_far (p := ⟨gb181, 2, none⟩) (by first | (rw [add_block]; exact hn182_2) | (show (Addr.add _ _).block ≠ _; rw [add_block]; exact hn182_2) | exact hn182_2) (.int .i64 t179)).trans hx182_3; replace hx182_4 := (cell_far (p := ⟨gb181, 2, none⟩) (by first | (rw [add_block]; exact hn182_2) | (show (Addr.add _ _).block ≠ _; rw [add_block]; exact hn182_2) | exact hn182_2) (.int .i64 t179)).trans hx182_4; (try have hy182_0 := fun (n_ : Nat) => (show (((((w38.drewN n_).setCell ⟨gb181, 0, none⟩ (.int .i64 t177)).setCell ⟨gb181, 1, none⟩ (.int .i64 t178)).setCell ⟨gb181, 2, none⟩ (.int .i64 t179))).cell? _ = some _ from hx182_0)); (try have hy182_1 := fun (n_ : Nat) => (show (((((w38.drewN n_).setCell ⟨gb181, 0, none⟩ (.int .i64 t177)).setCell ⟨gb181, 1, none⟩ (.int .i64 t178)).setCell ⟨gb181, 2, none⟩ (.int .i64 t179))).cell? _ = some _ from hx182_1)); (try have hy182_2 := fun (n_ : Nat) => (show (((((w38.drewN n_).setCell ⟨gb181, 0, none⟩ (.int .i64 t177)).setCell ⟨gb181, 1, none⟩ (.int .i64 t178)).setCell ⟨gb181, 2, none⟩ (.int .i64 t179))).cell? _ = some _ from hx182_2)); (try have hy182_3 := fun (n_ : Nat) => (show (((((w38.drewN n_).setCell ⟨gb181, 0, none⟩ (.int .i64 t177)).setCell ⟨gb181, 1, none⟩ (.int .i64 t178)).setCell ⟨gb181, 2, none⟩ (.int .i64 t179))).cell? _ = some _ from hx182_3)); (try have hy182_4 := fun (n_ : Nat) => (show (((((w38.drewN n_).setCell ⟨gb181, 0, none⟩ (.int .i64 t177)).setCell ⟨gb181, 1, none⟩ (.int .i64 t178)).setCell ⟨gb181, 2, none⟩ (.int .i64 t179))).cell? _ = some _ from hx182_4)); clear hn182_0; clear hn182_1; clear hn182_2; replace p182 := eq_true p182; replace q182 := eq_true q182)); try go_wp2_with (first | ((with_reducible refine gq 5 rfl ?_); (try (refine gate_guard (by rfl) ?_; dsimp only)); refine bx (N := 5) (cs := #[.int .i64 0, .int .i64 0, .int .i64 0]) (t := 39) ?_; clear HB BK169; intro gb174 w30 BK174 GE174 HB NB169_174 NB174_169 BK169; have hnb31 := NB174_169.out; have hnc31 := NB169_174.out; have hz32 := cs3_ BK174; have hz33 := cs2_ BK169) | (go_at_call 126; (with_reducible refine (spec_WordOk.calls ((rd_T39 l0_0 x4_3).f0) ((rd_T39 l0_0 x4_3).f1) ((rd_T39 l0_0 x4_3).f2) (l0_1.length : Int) true _ A20.out).mono ?_); rintro e w34 ⟨rfl, hb⟩; replace BK169 := bbf BK169 hb; replace BK174 := bbp3 BK174 hb; replace HB := bs HB hb; (try clear hb); have hz35 := cs3_ BK174; have hz36 := cs2_ BK169; have p176 : 0 ≤ ((ji23) : Int) := od; have q176 : (ji23) < (l0_1.length : Int) := od; obtain ⟨ad176, A176_2, c176_2, A176_4, c176_4, e176, hx176_0, hx176_1, hx176_2, hx176_3, hx176_4, hl176_2, hi176_2, hl176_4, hi176_4⟩ := at_T52 HR0_1.out (ji23) p176 q176; cases e176; replace hx176_0 := ox HB hx176_0; replace hx176_1 := ox HB hx176_1; replace hx176_2 := ox HB hx176_2; replace hx176_3 := ox HB hx176_3; replace hx176_4 := ox HB hx176_4; have HR176_2 := Aside0.mk hi176_2; have HC176_2 := Aside0.mk hl176_2; clear hi176_2 hl176_2; have HR176_4 := Aside0.mk hi176_4; have HC176_4 := Aside0.mk hl176_4; clear hi176_4 hl176_4; replace p176 := eq_true p176; replace q176 := eq_true q176) | (go_at_call 127; (with_reducible refine (spec_Entries.calls k3 ((rd_T52 l0_1 (ji23)).f0) ((rd_T52 l0_1 (ji23)).f1) _ _ ((rd_T52 l0_1 (ji23)).f2) ((rd_T52 l0_1 (ji23)).f3.f0) _ _ ((rd_T52 l0_1 (ji23)).f3.f1) x4_3 t177 t178 t179 true _ (kc HR176_2 HB) HC176_2.out (kc HR176_4 HB) HC176_4.out A26.out).mono ?_); rintro e w37 ⟨rfl, hb⟩; replace BK169 := bb BK169 hb; replace BK174 := bb BK174 hb; replace HB := bs HB hb; (try clear hb)) | ((with_reducible refine gq 6 rfl ?_); (try (refine gate_guard (by rfl) ?_; dsimp only)); refine bx (N := 6) (cs := #[.int .i64 0, .int .i64 0, .int .i64 0]) (t := 37) ?_; intro gb181 hg w38 hbox hb; have BK181 := Aside0.mk (hbox); have GW181 := Aside0.mk (ge_ hg HB); have GE181 := Aside0.mk (ge_ hg HB); replace HB := bs HB hb; have NB169_181 := Aside0.mk (nl_ hg BK169); have NB181_169 := Aside0.mk (ng_ hg BK169); replace BK169 := bb BK169 hb; have NB174_181 := Aside0.mk (nl_ hg BK174); have NB181_174 := Aside0.mk (ng_ hg BK174); replace BK174 := bb BK174 hb; clear hb hbox hg; have hnb39 := NB181_169.out; have hnc39 := NB169_181.out; have hnb40 := NB181_174.out; have hnc40 := NB174_181.out; have hz41 := cs3_ BK181; have hz42 := cs2_ BK169; have hz43 := cs3_ BK174; have p182 : 0 ≤ ((ji23) : Int) := od; have q182 : (ji23) < (l0_1.length : Int) := od; obtain ⟨ad182, A182_2, c182_2, A182_4, c182_4, e182, hx182_0, hx182_1, hx182_2, hx182_3, hx182_4, hl182_2, hi182_2, hl182_4, hi182_4⟩ := at_T52 HR0_1.out (ji23) p182 q182; obtain rfl : ad176 = ad182 := (by injection e182); have hn182_0 : ad176.block ≠ gb181 := Nat.ne_of_lt (Nat.lt_of_lt_of_le (by have := World.block_lt_of_cell? _ _ hx182_0; first | rwa [add_block] at this | exact this) GW181.out); have hn182_1 : ad176.block ≠ gb181 := Nat.ne_of_lt (Nat.lt_of_lt_of_le (by have := World.block_lt_of_cell? _ _ hx182_0; first | rwa [add_block] at this | exact this) GW181.out); have hn182_2 : ad176.block ≠ gb181 := Nat.ne_of_lt (Nat.lt_of_lt_of_le (by have := World.block_lt_of_cell? _ _ hx182_0; first | rwa [add_block] at this | exact this) GW181.out); replace hx182_0 := ox HB hx182_0; replace hx182_1 := ox HB hx182_1; replace hx182_2 := ox HB hx182_2; replace hx182_3 := ox HB hx182_3; replace hx182_4 := ox HB hx182_4; have HR182_2 := Aside0.mk hi182_2; have HC182_2 := Aside0.mk hl182_2; clear hi182_2 hl182_2; have HR182_4 := Aside0.mk hi182_4; have HC182_4 := Aside0.mk hl182_4; clear hi182_4 hl182_4; replace hx182_0 := (cell_far (p := ⟨gb181, 0, none⟩) (by first | (rw [add_block]; exact hn182_0) | (show (Addr.add _ _).block ≠ _; rw [add_block]; exact hn182_0) | exact hn182_0) (.int .i64 t177)).trans hx182_0; replace hx182_1 := (cell_far (p := ⟨gb181, 0, none⟩) (by first | (rw [add_block]; exact hn182_0) | (show (Addr.add _ _).block ≠ _; rw [add_block]; exact hn182_0) | exact hn182_0) (.int .i64 t177)).trans hx182_1; replace hx182_2 := (cell_far (p := ⟨gb181, 0, none⟩) (by first | (rw [add_block]; exact hn182_0) | (show (Addr.add _ _).block ≠ _; rw [add_block]; exact hn182_0) | exact hn182_0) (.int .i64 t177)).trans hx182_2; replace hx182_3 := (cell_far (p := ⟨gb181, 0, none⟩) (by first | (rw [add_block]; exact hn182_0) | (show (Addr.add _ _).block ≠ _; rw [add_block]; exact hn182_0) | exact hn182_0) (.int .i64 t177)).trans hx182_3; replace hx182_4 := (cell_far (p := ⟨gb181, 0, none⟩) (by first | (rw [add_block]; exact hn182_0) | (show (Addr.add _ _).block ≠ _; rw [add_block]; exact hn182_0) | exact hn182_0) (.int .i64 t177)).trans hx182_4; replace hx182_0 := (cell_far (p := ⟨gb181, 1, none⟩) (by first | (rw [add_block]; exact hn182_1) | (show (Addr.add _ _).block ≠ _; rw [add_block]; exact hn182_1) | exact hn182_1) (.int .i64 t178)).trans hx182_0; replace hx182_1 := (cell_far (p := ⟨gb181, 1, none⟩) (by first | (rw [add_block]; exact hn182_1) | (show (Addr.add _ _).block ≠ _; rw [add_block]; exact hn182_1) | exact hn182_1) (.int .i64 t178)).trans hx182_1; replace hx182_2 := (cell_far (p := ⟨gb181, 1, none⟩) (by first | (rw [add_block]; exact hn182_1) | (show (Addr.add _ _).block ≠ _; rw [add_block]; exact hn182_1) | exact hn182_1) (.int .i64 t178)).trans hx182_2; replace hx182_3 := (cell_far (p := ⟨gb181, 1, none⟩) (by first | (rw [add_block]; exact hn182_1) | (show (Addr.add _ _).block ≠ _; rw [add_block]; exact hn182_1) | exact hn182_1) (.int .i64 t178)).trans hx182_3; replace hx182_4 := (cell_far (p := ⟨gb181, 1, none⟩) (by first | (rw [add_block]; exact hn182_1) | (show (Addr.add _ _).block ≠ _; rw [add_block]; exact hn182_1) | exact hn182_1) (.int .i64 t178)).trans hx182_4; replace hx182_0 := (cell_far (p := ⟨gb181, 2, none⟩) (by first | (rw [add_block]; exact hn182_2) | (show (Addr.add _ _).block ≠ _; rw [add_block]; exact hn182_2) | exact hn182_2) (.int .i64 t179)).trans hx182_0; replace hx182_1 := (cell_far (p := ⟨gb181, 2, none⟩) (by first | (rw [add_block]; exact hn182_2) | (show (Addr.add _ _).block ≠ _; rw [add_block]; exact hn182_2) | exact hn182_2) (.int .i64 t179)).trans hx182_1; replace hx182_2 := (cell_far (p := ⟨gb181, 2, none⟩) (by first | (rw [add_block]; exact hn182_2) | (show (Addr.add _ _).block ≠ _; rw [add_block]; exact hn182_2) | exact hn182_2) (.int .i64 t179)).trans hx182_2; replace hx182_3 := (cell_far (p := ⟨gb181, 2, none⟩) (by first | (rw [add_block]; exact hn182_2) | (show (Addr.add _ _).block ≠ _; rw [add_block]; exact hn182_2) | exact hn182_2) (.int .i64 t179)).trans hx182_3; replace hx182_4 := (cell_far (p := ⟨gb181, 2, none⟩) (by first | (rw [add_block]; exact hn182_2) | (show (Addr.add _ _).block ≠ _; rw [add_block]; exact hn182_2) | exact hn182_2) (.int .i64 t179)).trans hx182_4; (try have hy182_0 := fun (n_ : Nat) => (show (((((w38.drewN n_).setCell ⟨gb181, 0, none⟩ (.int .i64 t177)).setCell ⟨gb181, 1, none⟩ (.int .i64 t178)).setCell ⟨gb181, 2, none⟩ (.int .i64 t179))).cell? _ = some _ from hx182_0)); (try have hy182_1 := fun (n_ : Nat) => (show (((((w38.drewN n_).setCell ⟨gb181, 0, none⟩ (.int .i64 t177)).setCell ⟨gb181, 1, none⟩ (.int .i64 t178)).setCell ⟨gb181, 2, none⟩ (.int .i64 t179))).cell? _ = some _ from hx182_1)); (try have hy182_2 := fun (n_ : Nat) => (show (((((w38.drewN n_).setCell ⟨gb181, 0, none⟩ (.int .i64 t177)).setCell ⟨gb181, 1, none⟩ (.int .i64 t178)).setCell ⟨gb181, 2, none⟩ (.int .i64 t179))).cell? _ = some _ from hx182_2)); (try have hy182_3 := fun (n_ : Nat) => (show (((((w38.drewN n_).setCell ⟨gb181, 0, none⟩ (.int .i64 t177)).setCell ⟨gb181, 1, none⟩ (.int .i64 t178)).setCell ⟨gb181, 2, none⟩ (.int .i64 t179))).cell? _ = some _ from hx182_3)); (try have hy182_4 := fun (n_ : Nat) => (show (((((w38.drewN n_).setCell ⟨gb181, 0, none⟩ (.int .i64 t177)).setCell ⟨gb181, 1, none⟩ (.int .i64 t178)).setCell ⟨gb181, 2, none⟩ (.int .i64 t179))).cell? _ = some _ from hx182_4)); clear hn182_0; clear hn182_1; clear hn182_2; replace p182 := eq_true p182; replace q182 := eq_true q182)))
       go_roundg k3
       case measure => have := HJ1.out; have := HK2.out; have := HK3.out; omega
       case rel => exact ⟨(wrap64 (x4_3 + 1)), rsd, H', ⟨by have := HJ1.out; have := HK2.out; have := HK3.out; omega⟩, ⟨bf BK169⟩, ⟨tb HB⟩⟩
def spec_RowsOk.l0 : Nat → Int → List Int → Int → Option (Bool)
 | 0, _, _, _ => none
 | k + 1, x3, x186000, x186001 => if x3 < (x186000.length : Int) then (if 0 ≤ x3 then (if (rd x186000 x3) = 0 then (spec_RowsOk.l0 k (wrap64 (x3 + 1)) x186000 x186001) else ((spec_ValOk.f (rd x186000 x3)).bind fun t189 => (if t189 = true then ((spec_KeyOf.f k x186000 x186001 (rd x186000 x3)).bind fun t191 => (if t191 = x3 then (spec_RowsOk.l0 k (wrap64 (x3 + 1)) x186000 x186001) else (some false))) else (some false)))) else (none)) else (if (x186000.length : Int) = 4 then ((spec_l1In.f x186001 0 5).bind fun t186 => (some t186)) else (some false))
def spec_RowsOk.f (k : Nat) (l0_0 : List Int) (a0_1 : Int) : Option (Bool) := spec_RowsOk.l0 k 0 l0_0 a0_1
def spec_RowsOk.T4 : Bool × List (List Nat × List Nat) := (true, [([], []), ([0], [0]), ([], []), ([1, 2], [1, 2]), ([3], [3]), ([4], [4]), ([5], [5]), ([6], [6]), ([7, 6], [6, 7]), ([6], [6]), ([8, 9, 6], [6, 8, 9]), ([10, 6], [6, 10]), ([11, 6, 6], [6, 11]), ([12, 6], [6, 12]), ([13, 12, 6], [6, 13]), ([14], [14]), ([14], [14]), ([16, 14], [14, 16]), ([14], [14]), ([17, 18, 14], [14, 17, 18]), ([19, 14], [14, 19]), ([15, 20, 14, 14], [14, 15, 20]), ([14], [14]), ([21, 22, 14], [14, 21, 22]), ([14, 23, 6], [6, 14, 23]), ([6, 24], [6, 24])])
def spec_RowsOk.B4 : List Nat := [0, 1, 0, 7, 15, 31, 63, 127, 255, 127, 1023, 2047, 4095, 8191, 16383, 32767, 32767, 98303, 32767, 491519, 1015807, 2097151, 32767, 8388607, 16777215, 33554431]
theorem spec_RowsOk.tab4 : rtab .any (opsOf Tryz.f85 4) = spec_RowsOk.T4 := by kernel_rfl
theorem spec_RowsOk.bits4 : waitsOk spec_RowsOk.T4.2 spec_RowsOk.B4 = true := by kernel_rfl
set_option maxHeartbeats 8000000 in
set_option maxRecDepth 100000 in
theorem spec_RowsOk.calls (k : Nat) (A0_0 : Option Addr) (c0_0 : Nat) (l0_0 : List Int) (a0_1 : Int) (r : Bool) (w : World) (hr0_0 : Kd.C (Kd.int .i64) w A0_0 l0_0.length l0_0) (hc0_0 : l0_0.length ≤ c0_0) (h : spec_RowsOk.f k l0_0 a0_1 = some r) :
  Calls Tryz.prog 85 #[.agg #[.slice A0_0 l0_0.length c0_0, .int .i64 a0_1]] w fun e w' => e = .returned (.bool r) ∧ Below w.heap.size w w' := by
 have hu73 := Tryz.underlying73
 have HR0_0 := Aside0.mk hr0_0
 have HC0_0 := Aside0.mk hc0_0
 clear hr0_0 hc0_0
 have HB := Aside0.mk (Below.refl w.heap.size w)
 have H := h
 clear h
 unfold spec_RowsOk.f at H
 have H' := Aside0.mk H
 clear H
 go_enter Tryz.func85, Tryz.ntmps85
 go_wp2_with (first | ((with_reducible refine gq 1 rfl ?_); refine bx0 HB (N := 1) (t := 73) ?_; clear HB; intro gb185 w2 BK185 GE185 HB))
 go_loopg [3] k (fun kq v3 w' => ∃ (x3_1 : Int), v3 = .int .i64 x3_1 ∧ Aside0 (spec_RowsOk.l0 kq x3_1 l0_0 a0_1 = some r) ∧ Aside0 (kq ≤ k) ∧ Aside0 (w'.heap[gb185]? = some (.cells #[(.slice A0_0 l0_0.length c0_0), .int .i64 a0_1] 73 (0, 0))) ∧ Aside0 (Below w.heap.size w w'))
 case atStart => exact ⟨(0), rsd, H', ⟨Nat.le_refl _⟩, ⟨by (with_reducible repeat (first | refine blk_drewN ?_ _ | refine blk_drew ?_ | refine blk_alloc ?_ _)); exact BK185.out⟩, ⟨tb HB⟩⟩
 case round =>
  clear H'
  obtain ⟨x3_1, rfl, HA, HK1, BK185, HB⟩ := hrel
  cases gk with
  | zero => exact absurd HA.out (by simp [spec_RowsOk.l0])
  | succ k1 =>
   have H := HA.out
   clear HA
   simp only [spec_RowsOk.l0] at H
   revert H; refine icd (fun c3b0 H => ?_) fun c3b0 H => ?neg
   case neg =>
    by_cases c20 : (l0_0.length : Int) = 4
    case neg =>
     rw [if_neg c20] at H
     have c20b0 : ((l0_0.length : Int) == 4) = false := beq_eq_false_iff_ne.mpr c20
     have c20b1 : ((l0_0.length : Int) != 4) = true := bne_iff_ne.mpr c20
     obtain rfl := oin H
     have hz23 := cs2_ BK185
     go_wp2
     go_ret
     exact ⟨er, tb HB⟩
    rw [if_pos c20] at H
    have c20b0 : ((l0_0.length : Int) == 4) = true := beq_iff_eq.mpr c20
    have c20b1 : ((l0_0.length : Int) != 4) = false := bne_eq_false_iff_eq.mpr c20
    clear c20
    obtain ⟨t186, A21, H⟩ := bn H
    try dsimp only at H
    obtain rfl := oin H
    have hz22 := cs2_ BK185
    go_wp2_with (first | (go_at_call 70; (with_reducible refine (spec_l1In.calls a0_1 0 5 t186 _ A21.out).mono ?_); rintro e w' ⟨rfl, ⟨nd, rfl⟩⟩))
    go_ret
    exact ⟨er, tb HB⟩
   obtain ⟨c4b0, H⟩ := itd H
   by_cases c5 : (rd l0_0 x3_1) = 0
   case pos =>
    rw [if_pos c5] at H
    have c5b0 : ((rd l0_0 x3_1) == 0) = true := beq_iff_eq.mpr c5
    have c5b1 : ((rd l0_0 x3_1) != 0) = false := bne_eq_false_iff_eq.mpr c5
    clear c5
    have H' := Aside0.mk H
    clear H
    have hz6 := cs2_ BK185
    try go_wp2
    replace BK185 := bd BK185
    replace HB := Aside0.mk (below_drew1 HB.out)
    have p187 : 0 ≤ (x3_1 : Int) := od
    have q187 : x3_1 < (l0_0.length : Int) := od
    obtain ⟨ad187, e187, hx187_0⟩ := Kd.at_int HR0_0.out x3_1 p187 q187
    have hw187_0 := hx187_0
    cases e187
    replace hx187_0 := ox HB hx187_0
    replace p187 := eq_true p187
    replace q187 := eq_true q187
    refine start_ (n := 26) (S := fun w' => cS2 gb185 (.slice (some ad187) l0_0.length c0_0) (.int .i64 a0_1) w' ∧ w'.cell? (ad187.add (x3_1).toNat) = some (.int .i64 (rd l0_0 x3_1))) (ds := []) #[false, false, false, false, false, false, false, false, false, false, false, false, false, false, false, false, false, false, false, false, false, false, false, false, false, false] (by kernel_rfl) rfl rfl ⟨ds2_ BK185, ((HB.out.cell (World.block_lt_of_cell? w _ hw187_0)).trans hw187_0)⟩ (fun hHeld => ?_); refine with_tabW spec_RowsOk.tab4 spec_RowsOk.bits4 (fun HT_ HW_ => ?_)
    generalize wr.drew = w7 at BK185 HB hx187_0 hHeld ⊢
    refine pu 0 11 ?_; refine pu 2 13 ?_; refine ta 1 12 ?_; refine pu 3 14 ?_; refine ta 4 15 ?_; refine pu 5 16 ?_; refine pu 6 17 ?_; refine pn 7 18 ?_; refine pn 8 19 ?_; refine pn 9 20 ?_; refine pn 10 21 ?_; refine pn 11 22 ?_
    refine pn 12 23 ?_; refine pn 13 24 ?_; refine pn 14 25 ?_; refine pn 15 26 ?_; refine pn 16 27 ?_; refine pn 17 28 ?_; refine pn 18 29 ?_; refine pn 19 30 ?_; refine pn 20 31 ?_; refine pn 21 32 ?_; refine pn 22 33 ?_; refine pn 23 34 ?_
    refine pn 24 35 ?_; refine pu 25 36 ?_
    refine done_ (done_of HT_.out (by kernel_rfl)) ?_
    try go_wp2
    go_roundg k1
    case measure => have := HK1.out; omega
    case rel => exact ⟨(wrap64 (x3_1 + 1)), rsd, H', ⟨by have := HK1.out; omega⟩, ⟨by (with_reducible repeat (first | refine blk_drewN ?_ _ | refine blk_drew ?_ | refine blk_alloc ?_ _)); exact BK185.out⟩, ⟨tb HB⟩⟩
   rw [if_neg c5] at H
   have c5b0 : ((rd l0_0 x3_1) == 0) = false := beq_eq_false_iff_ne.mpr c5
   have c5b1 : ((rd l0_0 x3_1) != 0) = true := bne_iff_ne.mpr c5
   obtain ⟨t189, A8, H⟩ := bn H
   try dsimp only at H
   cases t189
   case false =>
    replace H := ipf H
    obtain rfl := oin H
    have hz18 := cs2_ BK185
    try go_wp2
    replace BK185 := bd BK185
    replace HB := Aside0.mk (below_drew1 HB.out)
    have p187 : 0 ≤ (x3_1 : Int) := od
    have q187 : x3_1 < (l0_0.length : Int) := od
    obtain ⟨ad187, e187, hx187_0⟩ := Kd.at_int HR0_0.out x3_1 p187 q187
    have hw187_0 := hx187_0
    cases e187
    replace hx187_0 := ox HB hx187_0
    replace p187 := eq_true p187
    replace q187 := eq_true q187
    have p188 : 0 ≤ (x3_1 : Int) := od
    have q188 : x3_1 < (l0_0.length : Int) := od
    obtain ⟨ad188, e188, hx188_0⟩ := Kd.at_int HR0_0.out x3_1 p188 q188
    have hw188_0 := hx188_0
    obtain rfl : ad187 = ad188 := (by injection e188)
    replace hx188_0 := ox HB hx188_0
    replace p188 := eq_true p188
    replace q188 := eq_true q188
    refine start_ (n := 26) (S := fun w' => cS2 gb185 (.slice (some ad187) l0_0.length c0_0) (.int .i64 a0_1) w' ∧ w'.cell? (ad187.add (x3_1).toNat) = some (.int .i64 (rd l0_0 x3_1)) ∧ w'.cell? (ad187.add (x3_1).toNat) = some (.int .i64 (rd l0_0 x3_1))) (ds := []) #[false, false, false, false, false, false, false, false, false, false, false, false, false, false, false, false, false, false, false, false, false, false, false, false, false, false] (by kernel_rfl) rfl rfl ⟨ds2_ BK185, ((HB.out.cell (World.block_lt_of_cell? w _ hw187_0)).trans hw187_0), ((HB.out.cell (World.block_lt_of_cell? w _ hw188_0)).trans hw188_0)⟩ (fun hHeld => ?_); refine with_tabW spec_RowsOk.tab4 spec_RowsOk.bits4 (fun HT_ HW_ => ?_)
    generalize wr.drew = w19 at BK185 HB hx187_0 hx188_0 hHeld ⊢
    refine pu 0 11 ?_; refine pu 2 13 ?_; refine ta 1 12 ?_; refine pu 3 14 ?_; refine ta 4 15 ?_; refine pu 5 16 ?_; refine pu 6 17 ?_; refine pu 7 18 ?_; refine pu 9 20 ?_; refine ta 8 19 ?_; refine pu 10 21 ?_; refine ta 11 22 ?_
    refine on1 12 (some 23) (fun K hK => ?_)
    refine gS Tryz.func139 #[.int .i64 (rd l0_0 x3_1)] ?_
    with_reducible refine (spec_ValOk.calls (rd l0_0 x3_1) false _ A8.out).mono ?_
    rintro e w' ⟨rfl, ⟨nd, rfl⟩⟩
    refine ⟨_, rfl, ?_⟩
    refine hK.out _ _ ⟨ds2_ BK185, ((HB.out.cell (World.block_lt_of_cell? w _ hw187_0)).trans hw187_0), ((HB.out.cell (World.block_lt_of_cell? w _ hw188_0)).trans hw188_0)⟩ (fun hHeld => ?_)
    clear hK K
    refine nm 23 ?_
    refine pu 13 24 ?_; refine pu 14 25 ?_; refine pn 15 26 ?_; refine pn 16 27 ?_; refine pn 17 28 ?_; refine pn 18 29 ?_; refine pn 19 30 ?_; refine pn 20 31 ?_; refine pn 21 32 ?_; refine pn 22 33 ?_; refine pn 23 34 ?_; refine pu 24 35 ?_
    refine pu 25 36 ?_
    refine done_ (done_of HT_.out (by kernel_rfl)) ?_
    try go_wp2
    go_ret
    exact ⟨er, tb HB⟩
   replace H := ipt H
   obtain ⟨t191, A10, H⟩ := bn H
   try dsimp only at H
   by_cases c11 : t191 = x3_1
   case neg =>
    rw [if_neg c11] at H
    have c11b0 : (t191 == x3_1) = false := beq_eq_false_iff_ne.mpr c11
    have c11b1 : (t191 != x3_1) = true := bne_iff_ne.mpr c11
    obtain rfl := oin H
    have hz15 := cs2_ BK185
    try go_wp2
    replace BK185 := bd BK185
    replace HB := Aside0.mk (below_drew1 HB.out)
    have p187 : 0 ≤ (x3_1 : Int) := od
    have q187 : x3_1 < (l0_0.length : Int) := od
    obtain ⟨ad187, e187, hx187_0⟩ := Kd.at_int HR0_0.out x3_1 p187 q187
    have hw187_0 := hx187_0
    cases e187
    replace hx187_0 := ox HB hx187_0
    replace p187 := eq_true p187
    replace q187 := eq_true q187
    have p188 : 0 ≤ (x3_1 : Int) := od
    have q188 : x3_1 < (l0_0.length : Int) := od
    obtain ⟨ad188, e188, hx188_0⟩ := Kd.at_int HR0_0.out x3_1 p188 q188
    have hw188_0 := hx188_0
    obtain rfl : ad187 = ad188 := (by injection e188)
    replace hx188_0 := ox HB hx188_0
    replace p188 := eq_true p188
    replace q188 := eq_true q188
    have p190 : 0 ≤ (x3_1 : Int) := od
    have q190 : x3_1 < (l0_0.length : Int) := od
    obtain ⟨ad190, e190, hx190_0⟩ := Kd.at_int HR0_0.out x3_1 p190 q190
    have hw190_0 := hx190_0
    obtain rfl : ad187 = ad190 := (by injection e190)
    replace hx190_0 := ox HB hx190_0
    replace p190 := eq_true p190
    replace q190 := eq_true q190
    refine start_ (n := 26) (S := fun w' => cS2 gb185 (.slice (some ad187) l0_0.length c0_0) (.int .i64 a0_1) w' ∧ w'.cell? (ad187.add (x3_1).toNat) = some (.int .i64 (rd l0_0 x3_1)) ∧ w'.cell? (ad187.add (x3_1).toNat) = some (.int .i64 (rd l0_0 x3_1)) ∧ w'.cell? (ad187.add (x3_1).toNat) = some (.int .i64 (rd l0_0 x3_1))) (ds := []) #[false, false, false, false, false, false, false, false, false, false, false, false, false, false, false, false, false, false, false, false, false, false, false, false, false, false] (by kernel_rfl) rfl rfl ⟨ds2_ BK185, ((HB.out.cell (World.block_lt_of_cell? w _ hw187_0)).trans hw187_0), ((HB.out.cell (World.block_lt_of_cell? w _ hw188_0)).trans hw188_0), ((HB.out.cell (World.block_lt_of_cell? w _ hw190_0)).trans hw190_0)⟩ (fun hHeld => ?_); refine with_tabW spec_RowsOk.tab4 spec_RowsOk.bits4 (fun HT_ HW_ => ?_)
    generalize wr.drew = w16 at BK185 HB hx187_0 hx188_0 hx190_0 hHeld ⊢
    refine pu 0 11 ?_; refine pu 2 13 ?_; refine ta 1 12 ?_; refine pu 3 14 ?_; refine ta 4 15 ?_; refine pu 5 16 ?_; refine pu 6 17 ?_; refine pu 7 18 ?_; refine pu 9 20 ?_; refine ta 8 19 ?_; refine pu 10 21 ?_; refine ta 11 22 ?_
    refine on1 12 (some 23) (fun K hK => ?_)
    refine gS Tryz.func139 #[.int .i64 (rd l0_0 x3_1)] ?_
    with_reducible refine (spec_ValOk.calls (rd l0_0 x3_1) true _ A8.out).mono ?_
    rintro e w' ⟨rfl, ⟨nd, rfl⟩⟩
    refine ⟨_, rfl, ?_⟩
    refine hK.out _ _ ⟨ds2_ BK185, ((HB.out.cell (World.block_lt_of_cell? w _ hw187_0)).trans hw187_0), ((HB.out.cell (World.block_lt_of_cell? w _ hw188_0)).trans hw188_0), ((HB.out.cell (World.block_lt_of_cell? w _ hw190_0)).trans hw190_0)⟩ (fun hHeld => ?_)
    clear hK K
    refine nm 23 ?_
    refine pu 13 24 ?_; refine pu 14 25 ?_; refine pu 16 27 ?_; refine pu 18 29 ?_; refine pu 22 33 ?_; refine ta 15 26 ?_; refine ta 17 28 ?_; refine pu 19 30 ?_; refine ta 20 31 ?_
    refine on1 21 (some 32) (fun K hK => ?_)
    refine gS Tryz.func140 #[.agg #[.slice (some ad187) l0_0.length c0_0, .int .i64 a0_1], .int .i64 (rd l0_0 x3_1)] ?_
    with_reducible refine (spec_KeyOf.calls k1 _ _ l0_0 a0_1 (rd l0_0 x3_1) t191 _ ?side1 ?side2 A10.out).mono ?_
    (case side1 => repeat (first | exact (Kd.C_below HR0_0.out (tb HB)) | (with_reducible refine Kd.C_alloc ?_ _) | (with_reducible refine Kd.C_drewN ?_ _) | (with_reducible refine Kd.C_drew ?_)))
    (case side2 => exact HC0_0.out)
    rintro e w17 ⟨rfl, hb⟩
    refine ⟨_, rfl, ?_⟩
    replace BK185 := bb BK185 hb
    replace HB := bs HB hb
    (try clear hb)
    (try clear hb2)
    (try clear hk)
    (try clear hi)
    refine hK.out _ _ ⟨ds2_ BK185, ((HB.out.cell (World.block_lt_of_cell? w _ hw187_0)).trans hw187_0), ((HB.out.cell (World.block_lt_of_cell? w _ hw188_0)).trans hw188_0), ((HB.out.cell (World.block_lt_of_cell? w _ hw190_0)).trans hw190_0)⟩ (fun hHeld => ?_)
    clear hK K
    refine nm 32 ?_
    refine pu 23 34 ?_; refine pu 24 35 ?_; refine pu 25 36 ?_
    refine done_ (done_of HT_.out (by kernel_rfl)) ?_
    try go_wp2
    go_ret
    exact ⟨er, tb HB⟩
   rw [if_pos c11] at H
   have c11b0 : (t191 == x3_1) = true := beq_iff_eq.mpr c11
   have c11b1 : (t191 != x3_1) = false := bne_eq_false_iff_eq.mpr c11
   clear c11
   have H' := Aside0.mk H
   clear H
   have hz12 := cs2_ BK185
   try go_wp2
   replace BK185 := bd BK185
   replace HB := Aside0.mk (below_drew1 HB.out)
   have p187 : 0 ≤ (x3_1 : Int) := od
   have q187 : x3_1 < (l0_0.length : Int) := od
   obtain ⟨ad187, e187, hx187_0⟩ := Kd.at_int HR0_0.out x3_1 p187 q187
   have hw187_0 := hx187_0
   cases e187
   replace hx187_0 := ox HB hx187_0
   replace p187 := eq_true p187
   replace q187 := eq_true q187
   have p188 : 0 ≤ (x3_1 : Int) := od
   have q188 : x3_1 < (l0_0.length : Int) := od
   obtain ⟨ad188, e188, hx188_0⟩ := Kd.at_int HR0_0.out x3_1 p188 q188
   have hw188_0 := hx188_0
   obtain rfl : ad187 = ad188 := (by injection e188)
   replace hx188_0 := ox HB hx188_0
   replace p188 := eq_true p188
   replace q188 := eq_true q188
   have p190 : 0 ≤ (x3_1 : Int) := od
   have q190 : x3_1 < (l0_0.length : Int) := od
   obtain ⟨ad190, e190, hx190_0⟩ := Kd.at_int HR0_0.out x3_1 p190 q190
   have hw190_0 := hx190_0
   obtain rfl : ad187 = ad190 := (by injection e190)
   replace hx190_0 := ox HB hx190_0
   replace p190 := eq_true p190
   replace q190 := eq_true q190
   refine start_ (n := 26) (S := fun w' => cS2 gb185 (.slice (some ad187) l0_0.length c0_0) (.int .i64 a0_1) w' ∧ w'.cell? (ad187.add (x3_1).toNat) = some (.int .i64 (rd l0_0 x3_1)) ∧ w'.cell? (ad187.add (x3_1).toNat) = some (.int .i64 (rd l0_0 x3_1)) ∧ w'.cell? (ad187.add (x3_1).toNat) = some (.int .i64 (rd l0_0 x3_1))) (ds := []) #[false, false, false, false, false, false, false, false, false, false, false, false, false, false, false, false, false, false, false, false, false, false, false, false, false, false] (by kernel_rfl) rfl rfl ⟨ds2_ BK185, ((HB.out.cell (World.block_lt_of_cell? w _ hw187_0)).trans hw187_0), ((HB.out.cell (World.block_lt_of_cell? w _ hw188_0)).trans hw188_0), ((HB.out.cell (World.block_lt_of_cell? w _ hw190_0)).trans hw190_0)⟩ (fun hHeld => ?_); refine with_tabW spec_RowsOk.tab4 spec_RowsOk.bits4 (fun HT_ HW_ => ?_)
   generalize wr.drew = w13 at BK185 HB hx187_0 hx188_0 hx190_0 hHeld ⊢
   refine pu 0 11 ?_; refine pu 2 13 ?_; refine ta 1 12 ?_; refine pu 3 14 ?_; refine ta 4 15 ?_; refine pu 5 16 ?_; refine pu 6 17 ?_; refine pu 7 18 ?_; refine pu 9 20 ?_; refine ta 8 19 ?_; refine pu 10 21 ?_; refine ta 11 22 ?_
   refine on1 12 (some 23) (fun K hK => ?_)
   refine gS Tryz.func139 #[.int .i64 (rd l0_0 x3_1)] ?_
   with_reducible refine (spec_ValOk.calls (rd l0_0 x3_1) true _ A8.out).mono ?_
   rintro e w' ⟨rfl, ⟨nd, rfl⟩⟩
   refine ⟨_, rfl, ?_⟩
   refine hK.out _ _ ⟨ds2_ BK185, ((HB.out.cell (World.block_lt_of_cell? w _ hw187_0)).trans hw187_0), ((HB.out.cell (World.block_lt_of_cell? w _ hw188_0)).trans hw188_0), ((HB.out.cell (World.block_lt_of_cell? w _ hw190_0)).trans hw190_0)⟩ (fun hHeld => ?_)
   clear hK K
   refine nm 23 ?_
   refine pu 13 24 ?_; refine pu 14 25 ?_; refine pu 16 27 ?_; refine pu 18 29 ?_; refine pu 22 33 ?_; refine ta 15 26 ?_; refine ta 17 28 ?_; refine pu 19 30 ?_; refine ta 20 31 ?_
   refine on1 21 (some 32) (fun K hK => ?_)
   refine gS Tryz.func140 #[.agg #[.slice (some ad187) l0_0.length c0_0, .int .i64 a0_1], .int .i64 (rd l0_0 x3_1)] ?_
   with_reducible refine (spec_KeyOf.calls k1 _ _ l0_0 a0_1 (rd l0_0 x3_1) t191 _ ?side1 ?side2 A10.out).mono ?_
   (case side1 => repeat (first | exact (Kd.C_below HR0_0.out (tb HB)) | (with_reducible refine Kd.C_alloc ?_ _) | (with_reducible refine Kd.C_drewN ?_ _) | (with_reducible refine Kd.C_drew ?_)))
   (case side2 => exact HC0_0.out)
   rintro e w14 ⟨rfl, hb⟩
   refine ⟨_, rfl, ?_⟩
   replace BK185 := bb BK185 hb
   replace HB := bs HB hb
   (try clear hb)
   (try clear hb2)
   (try clear hk)
   (try clear hi)
   refine hK.out _ _ ⟨ds2_ BK185, ((HB.out.cell (World.block_lt_of_cell? w _ hw187_0)).trans hw187_0), ((HB.out.cell (World.block_lt_of_cell? w _ hw188_0)).trans hw188_0), ((HB.out.cell (World.block_lt_of_cell? w _ hw190_0)).trans hw190_0)⟩ (fun hHeld => ?_)
   clear hK K
   refine nm 32 ?_
   refine pu 23 34 ?_; refine pu 24 35 ?_; refine pu 25 36 ?_
   refine done_ (done_of HT_.out (by kernel_rfl)) ?_
   try go_wp2
   go_roundg k1
   case measure => have := HK1.out; omega
   case rel => exact ⟨(wrap64 (x3_1 + 1)), rsd, H', ⟨by have := HK1.out; omega⟩, ⟨by (with_reducible repeat (first | refine blk_drewN ?_ _ | refine blk_drew ?_ | refine blk_alloc ?_ _)); exact BK185.out⟩, ⟨tb HB⟩⟩
def impl_WordOk.f (a0_0 : Int) (a0_1 : Int) (a0_2 : Int) (a1 : Int) : Option (Bool) := if a0_1 = 0 then ((impl_isWordNum.f a0_0).bind fun t430 => (if t430 = true then (some (a0_2 == 0)) else (some false))) else (if a0_0 = 0 then ((impl_from.f a0_1 1 a1).bind fun t431 => (if t431 = true then ((impl_from.f a0_2 1 1000000).bind fun t432 => (some t432)) else (some false))) else (some false))
set_option maxHeartbeats 8000000 in
set_option maxRecDepth 100000 in
theorem impl_WordOk.calls (a0_0 : Int) (a0_1 : Int) (a0_2 : Int) (a1 : Int) (r : Bool) (w : World) (h : impl_WordOk.f a0_0 a0_1 a0_2 a1 = some r) :
  Calls Tryz.prog 79 #[.agg #[.int .i64 a0_0, .int .i64 a0_1, .int .i64 a0_2], .int .i64 a1] w fun e w' => e = .returned (.bool r) ∧ Below w.heap.size w w' := by
 have hu39 := Tryz.underlying39
 have HB := Aside0.mk (Below.refl w.heap.size w)
 have H := h
 clear h
 unfold impl_WordOk.f at H
 by_cases c3 : a0_1 = 0
 case pos =>
  rw [if_pos c3] at H
  have c3b0 : (a0_1 == 0) = true := beq_iff_eq.mpr c3
  have c3b1 : (a0_1 != 0) = false := bne_eq_false_iff_eq.mpr c3
  clear c3
  obtain ⟨t430, A4, H⟩ := bn H
  try dsimp only at H
  cases t430
  case true =>
   replace H := ipt H
   obtain rfl := oin H
   go_enter Tryz.func79, Tryz.ntmps79
   go_wp2_with (first | ((with_reducible refine gq 2 rfl ?_); refine bx0 HB (N := 2) (t := 39) ?_; clear HB; intro gb429 w6 BK429 GE429 HB; have hz7 := cs3_ BK429) | ((with_reducible refine gf 115 rfl ?_); refine gL 10 Tryz.func115 #[.int .i64 a0_0] ?_; (with_reducible refine (impl_isWordNum.calls a0_0 true _ A4.out).mono ?_); rintro e w' ⟨rfl, ⟨nd, rfl⟩⟩; refine ⟨_, rfl, ?_⟩))
   go_ret
   exact ⟨er, tb HB⟩
  replace H := ipf H
  obtain rfl := oin H
  go_enter Tryz.func79, Tryz.ntmps79
  go_wp2_with (first | ((with_reducible refine gq 2 rfl ?_); refine bx0 HB (N := 2) (t := 39) ?_; clear HB; intro gb429 w8 BK429 GE429 HB; have hz9 := cs3_ BK429) | ((with_reducible refine gf 115 rfl ?_); refine gL 10 Tryz.func115 #[.int .i64 a0_0] ?_; (with_reducible refine (impl_isWordNum.calls a0_0 false _ A4.out).mono ?_); rintro e w' ⟨rfl, ⟨nd, rfl⟩⟩; refine ⟨_, rfl, ?_⟩))
  go_ret
  exact ⟨er, tb HB⟩
 rw [if_neg c3] at H
 have c3b0 : (a0_1 == 0) = false := beq_eq_false_iff_ne.mpr c3
 have c3b1 : (a0_1 != 0) = true := bne_iff_ne.mpr c3
 by_cases c10 : a0_0 = 0
 case neg =>
  rw [if_neg c10] at H
  have c10b0 : (a0_0 == 0) = false := beq_eq_false_iff_ne.mpr c10
  have c10b1 : (a0_0 != 0) = true := bne_iff_ne.mpr c10
  obtain rfl := oin H
  go_enter Tryz.func79, Tryz.ntmps79
  go_wp2_with (first | ((with_reducible refine gq 2 rfl ?_); refine bx0 HB (N := 2) (t := 39) ?_; clear HB; intro gb429 w18 BK429 GE429 HB; have hz19 := cs3_ BK429))
  go_ret
  exact ⟨er, tb HB⟩
 
 
 rw [if_pos c10] at H
 have c10b0 : (a0_0 == 0) = true := beq_iff_eq.mpr c10
 have c10b1 : (a0_0 != 0) = false := bne_eq_false_iff_eq.mpr c10
 clear c10
 obtain ⟨t431, A11, H⟩ := bn H
 try dsimp only at H
 cases t431
 case false =>
  replace H := ipf H
  obtain rfl := oin H
  go_enter Tryz.func79, Tryz.ntmps79
  go_wp2_with (first | ((with_reducible refine gq 2 rfl ?_); refine bx0 HB (N := 2) (t := 39) ?_; clear HB; intro gb429 w16 BK429 GE429 HB; have hz17 := cs3_ BK429) | (go_at_call 62; (with_reducible refine (impl_from.calls a0_1 1 a1 false _ A11.out).mono ?_); rintro e w' ⟨rfl, ⟨nd, rfl⟩⟩))
  go_ret
  exact ⟨er, tb HB⟩
 replace H := ipt H
 obtain ⟨t432, A13, H⟩ := bn H
 try dsimp only at H
 obtain rfl := oin H
 go_enter Tryz.func79, Tryz.ntmps79
 go_wp2_with (first | ((with_reducible refine gq 2 rfl ?_); refine bx0 HB (N := 2) (t := 39) ?_; clear HB; intro gb429 w14 BK429 GE429 HB; have hz15 := cs3_ BK429) | (go_at_call 62; (with_reducible refine (impl_from.calls a0_1 1 a1 true _ A11.out).mono ?_); rintro e w' ⟨rfl, ⟨nd, rfl⟩⟩) | (go_at_call 62; (with_reducible refine (impl_from.calls a0_2 1 1000000 t432 _ A13.out).mono ?_); rintro e w' ⟨rfl, ⟨nd, rfl⟩⟩))
 go_ret
 exact ⟨er, tb HB⟩
mutual
def impl_OpOk.j0 : Nat → Int → Bool → Int → Int → Int → Option (Bool)
 | 0, _, _, _, _, _ => none
 | k + 1, x4, x5, x450000, x450001, x450002 => if x5 = true then ((impl_KeyOk.f x450001).bind fun t450 => (if t450 = true then ((impl_ValOk.f x450002).bind fun t451 => (some t451)) else (some false))) else (if x4 = 3 then (impl_OpOk.j1 k x4 (x4 == 3) x450000 x450001 x450002) else (impl_OpOk.j1 k x4 (x4 == 4) x450000 x450001 x450002))
def impl_OpOk.j1 : Nat → Int → Bool → Int → Int → Int → Option (Bool)
 | 0, _, _, _, _, _ => none
 | k + 1, x4, x16, x450000, x450001, x450002 => if x16 = true then ((impl_KeyOk.f x450001).bind fun t452 => (if t452 = true then (some (x450002 == 0)) else (some false))) else (if x4 = 5 then (impl_OpOk.j2 k x4 (x4 == 5) x450000 x450001 x450002) else (impl_OpOk.j2 k x4 (x4 == 10) x450000 x450001 x450002))
def impl_OpOk.j2 : Nat → Int → Bool → Int → Int → Int → Option (Bool)
 | 0, _, _, _, _, _ => none
 | k + 1, x4, x27, x450000, x450001, x450002 => if x27 = true then (if x450001 = 0 then ((impl_ValOk.f x450002).bind fun t453 => (some t453)) else (some false)) else (if x4 = 6 then ((impl_isClass.f x450001).bind fun t454 => (if t454 = true then (some (x450002 == 0)) else (some false))) else (if x4 = 7 then (if x450001 = 0 then (some (x450002 == 0)) else (some false)) else (if x4 = 8 then (if x450001 = 0 then (some (x450002 == 0)) else (some false)) else (if x4 = 9 then (if x450001 = 0 then (some (x450002 == 0)) else (some false)) else (some false)))))
end
def impl_OpOk.f (k : Nat) (a0_0 : Int) (a0_1 : Int) (a0_2 : Int) : Option (Bool) := if a0_0 = 1 then (impl_OpOk.j0 k a0_0 (a0_0 == 1) a0_0 a0_1 a0_2) else (impl_OpOk.j0 k a0_0 (a0_0 == 2) a0_0 a0_1 a0_2)
theorem impl_OpOk.mono_l : ∀ k, (∀ y0 y1 y2 y3 y4, LeO (impl_OpOk.j0 k y0 y1 y2 y3 y4) (impl_OpOk.j0 (k + 1) y0 y1 y2 y3 y4)) ∧ (∀ y0 y1 y2 y3 y4, LeO (impl_OpOk.j1 k y0 y1 y2 y3 y4) (impl_OpOk.j1 (k + 1) y0 y1 y2 y3 y4)) ∧ (∀ y0 y1 y2 y3 y4, LeO (impl_OpOk.j2 k y0 y1 y2 y3 y4) (impl_OpOk.j2 (k + 1) y0 y1 y2 y3 y4))
 | 0 => ⟨fun _ _ _ _ _ r h => by simp [impl_OpOk.j0] at h, fun _ _ _ _ _ r h => by simp [impl_OpOk.j1] at h, fun _ _ _ _ _ r h => by simp [impl_OpOk.j2] at h⟩
 | k + 1 => by
  obtain ⟨ih0, ih1, ih2⟩ := impl_OpOk.mono_l k
  refine ⟨?_, ?_, ?_⟩
  ·intro y0 y1 y2 y3 y4
   unfold impl_OpOk.j0
   repeat' first
   | (with_reducible exact ih0 _ _ _ _ _)
   | (with_reducible exact ih1 _ _ _ _ _)
   | (with_reducible exact ih2 _ _ _ _ _)
   | (with_reducible exact LeO.refl _)
   | (with_reducible exact LeO.none _)
   | (with_reducible refine LeO.ite ?_ ?_)
   | (with_reducible refine LeO.bind ?_ (fun _ => ?_))
   | exact ih0 _ _ _ _ _
   | exact ih1 _ _ _ _ _
   | exact ih2 _ _ _ _ _
   | exact LeO.none _
   | refine LeO.ite ?_ ?_
   | refine LeO.bind ?_ (fun _ => ?_)
  ·intro y0 y1 y2 y3 y4
   unfold impl_OpOk.j1
   repeat' first
   | (with_reducible exact ih0 _ _ _ _ _)
   | (with_reducible exact ih1 _ _ _ _ _)
   | (with_reducible exact ih2 _ _ _ _ _)
   | (with_reducible exact LeO.refl _)
   | (with_reducible exact LeO.none _)
   | (with_reducible refine LeO.ite ?_ ?_)
   | (with_reducible refine LeO.bind ?_ (fun _ => ?_))
   | exact ih0 _ _ _ _ _
   | exact ih1 _ _ _ _ _
   | exact ih2 _ _ _ _ _
   | exact LeO.none _
   | refine LeO.ite ?_ ?_
   | refine LeO.bind ?_ (fun _ => ?_)
  ·intro y0 y1 y2 y3 y4
   unfold impl_OpOk.j2
   repeat' first
   | (with_reducible exact ih0 _ _ _ _ _)
   | (with_reducible exact ih1 _ _ _ _ _)
   | (with_reducible exact ih2 _ _ _ _ _)
   | (with_reducible exact LeO.refl _)
   | (with_reducible exact LeO.none _)
   | (with_reducible refine LeO.ite ?_ ?_)
   | (with_reducible refine LeO.bind ?_ (fun _ => ?_))
   | exact ih0 _ _ _ _ _
   | exact ih1 _ _ _ _ _
   | exact ih2 _ _ _ _ _
   | exact LeO.none _
   | refine LeO.ite ?_ ?_
   | refine LeO.bind ?_ (fun _ => ?_)
theorem impl_OpOk.mono : ∀ a0 a1 a2 k, LeO (impl_OpOk.f k a0 a1 a2) (impl_OpOk.f (k + 1) a0 a1 a2) := by
 intro a0 a1 a2 k
 obtain ⟨ih0, ih1, ih2⟩ := impl_OpOk.mono_l k
 unfold impl_OpOk.f
 repeat' first
   | (with_reducible exact ih0 _ _ _ _ _)
   | (with_reducible exact ih1 _ _ _ _ _)
   | (with_reducible exact ih2 _ _ _ _ _)
   | (with_reducible exact LeO.refl _)
   | (with_reducible exact LeO.none _)
   | (with_reducible refine LeO.ite ?_ ?_)
   | (with_reducible refine LeO.bind ?_ (fun _ => ?_))
   | exact ih0 _ _ _ _ _
   | exact ih1 _ _ _ _ _
   | exact ih2 _ _ _ _ _
   | exact LeO.none _
   | refine LeO.ite ?_ ?_
   | refine LeO.bind ?_ (fun _ => ?_)
set_option maxHeartbeats 8000000 in
set_option maxRecDepth 100000 in
theorem impl_OpOk.calls (k : Nat) (a0_0 : Int) (a0_1 : Int) (a0_2 : Int) (r : Bool) (w : World) (h : impl_OpOk.f k a0_0 a0_1 a0_2 = some r) :
  Calls Tryz.prog 95 #[.agg #[.int .i64 a0_0, .int .i64 a0_1, .int .i64 a0_2]] w fun e w' => e = .returned (.bool r) ∧ Below w.heap.size w w' := by
 have hu132 := Tryz.underlying132
 have HB := Aside0.mk (Below.refl w.heap.size w)
 have H := h
 clear h
 unfold impl_OpOk.f at H
 have HC2 := Aside0.mk H
 clear H
 go_enter Tryz.func95, Tryz.ntmps95
 go_upto_if 5 with (first | ((with_reducible refine gq 1 rfl ?_); refine bx0 HB (N := 1) (t := 132) ?_; clear HB; intro gb449 w3 BK449 GE449 HB; have hz4 := cs3_ BK449))
 (try simp only [Act.put, sA, sB, sC])
 go_cut [5] (fun v5 wc => ∃ (kq : Nat) (x5_1 : Bool), v5 = .bool x5_1 ∧ Aside0 (impl_OpOk.j0 kq a0_0 x5_1 a0_0 a0_1 a0_2 = some r) ∧ Aside0 (kq ≤ k) ∧ Aside0 (wc.heap[gb449]? = some (.cells #[.int .i64 a0_0, .int .i64 a0_1, .int .i64 a0_2] 132 (0, 0))) ∧ Aside0 (Below w.heap.size w wc))
 case first =>
  have H := HC2.out
  clear HC2
  by_cases c5 : a0_0 = 1
  case neg =>
   rw [if_neg c5] at H
   have c5b0 : (a0_0 == 1) = false := beq_eq_false_iff_ne.mpr c5
   have c5b1 : (a0_0 != 1) = true := bne_iff_ne.mpr c5
   (first | rw [c5b0] | (simp only [i64_w, i32_w]; rw [c5b0]) | skip)
   have H' := Aside0.mk H
   clear H
   go_wp2
   go_meet
   case rel => exact ⟨_, ((a0_0 == 2)), rsd, H', ⟨by first | omega | exact Nat.le_refl _⟩, ⟨by (with_reducible repeat (first | refine blk_drewN ?_ _ | refine blk_drew ?_ | refine blk_alloc ?_ _)); exact BK449.out⟩, ⟨tb HB⟩⟩
  rw [if_pos c5] at H
  have c5b0 : (a0_0 == 1) = true := beq_iff_eq.mpr c5
  have c5b1 : (a0_0 != 1) = false := bne_eq_false_iff_eq.mpr c5
  clear c5
  (first | rw [c5b0] | (simp only [i64_w, i32_w]; rw [c5b0]) | skip)
  have H' := Aside0.mk H
  clear H
  go_wp2
  go_meet
  case rel => exact ⟨_, ((a0_0 == 1)), rsd, H', ⟨by first | omega | exact Nat.le_refl _⟩, ⟨by (with_reducible repeat (first | refine blk_drewN ?_ _ | refine blk_drew ?_ | refine blk_alloc ?_ _)); exact BK449.out⟩, ⟨tb HB⟩⟩
 case rest =>
  clear HC2
  obtain ⟨kq, x5_1, rfl, HA, HJ1, BK449, HB⟩ := hcut
  cases kq with
  | zero => exact absurd HA.out (by simp [impl_OpOk.j0])
  | succ kj1 =>
   have H := HA.out
   clear HA
   simp only [impl_OpOk.j0] at H
   cases x5_1
   case true =>
    replace H := ipt H
    obtain ⟨t450, A7, H⟩ := bn H
    try dsimp only at H
    cases t450
    case false =>
     replace H := ipf H
     obtain rfl := oin H
     have hz11 := cs3_ BK449
     go_wp2_with (first | ((with_reducible refine gf 150 rfl ?_); refine gL 10 Tryz.func150 #[.int .i64 a0_1] ?_; (with_reducible refine (impl_KeyOk.calls a0_1 false _ A7.out).mono ?_); rintro e w' ⟨rfl, ⟨nd, rfl⟩⟩; refine ⟨_, rfl, ?_⟩))
     go_ret
     exact ⟨er, tb HB⟩
    replace H := ipt H
    obtain ⟨t451, A9, H⟩ := bn H
    try dsimp only at H
    obtain rfl := oin H
    have hz10 := cs3_ BK449
    go_wp2_with (first | ((with_reducible refine gf 150 rfl ?_); refine gL 10 Tryz.func150 #[.int .i64 a0_1] ?_; (with_reducible refine (impl_KeyOk.calls a0_1 true _ A7.out).mono ?_); rintro e w' ⟨rfl, ⟨nd, rfl⟩⟩; refine ⟨_, rfl, ?_⟩) | (go_at_call 148; (with_reducible refine (impl_ValOk.calls a0_2 t451 _ A9.out).mono ?_); rintro e w' ⟨rfl, ⟨nd, rfl⟩⟩))
    go_ret
    exact ⟨er, tb HB⟩
   replace H := ipf H
   have HC12 := Aside0.mk H
   clear H
   go_upto_if 16 with (fail)
   go_cut [16] (fun v16 wc => ∃ (kq : Nat) (x16_11 : Bool), v16 = .bool x16_11 ∧ Aside0 (impl_OpOk.j1 kq a0_0 x16_11 a0_0 a0_1 a0_2 = some r) ∧ Aside0 (kq ≤ kj1) ∧ Aside0 (wc.heap[gb449]? = some (.cells #[.int .i64 a0_0, .int .i64 a0_1, .int .i64 a0_2] 132 (0, 0))) ∧ Aside0 (Below w.heap.size w wc))
   case first =>
    have H := HC12.out
    clear HC12
    by_cases c13 : a0_0 = 3
    case neg =>
     rw [if_neg c13] at H
     have c13b0 : (a0_0 == 3) = false := beq_eq_false_iff_ne.mpr c13
     have c13b1 : (a0_0 != 3) = true := bne_iff_ne.mpr c13
     (first | rw [c13b0] | (simp only [i64_w, i32_w]; rw [c13b0]) | skip)
     have H' := Aside0.mk H
     clear H
     go_wp2
     go_meet
     case rel => exact ⟨_, ((a0_0 == 4)), rsd, H', ⟨by have := HJ1.out; first | omega | exact Nat.le_refl _⟩, ⟨by (with_reducible repeat (first | refine blk_drewN ?_ _ | refine blk_drew ?_ | refine blk_alloc ?_ _)); exact BK449.out⟩, ⟨tb HB⟩⟩
    rw [if_pos c13] at H
    have c13b0 : (a0_0 == 3) = true := beq_iff_eq.mpr c13
    have c13b1 : (a0_0 != 3) = false := bne_eq_false_iff_eq.mpr c13
    clear c13
    (first | rw [c13b0] | (simp only [i64_w, i32_w]; rw [c13b0]) | skip)
    have H' := Aside0.mk H
    clear H
    go_wp2
    go_meet
    case rel => exact ⟨_, ((a0_0 == 3)), rsd, H', ⟨by have := HJ1.out; first | omega | exact Nat.le_refl _⟩, ⟨by (with_reducible repeat (first | refine blk_drewN ?_ _ | refine blk_drew ?_ | refine blk_alloc ?_ _)); exact BK449.out⟩, ⟨tb HB⟩⟩
   case rest =>
    clear HC12
    obtain ⟨kq, x16_11, rfl, HA, HJ11, BK449, HB⟩ := hcut
    cases kq with
    | zero => exact absurd HA.out (by simp [impl_OpOk.j1])
    | succ kj11 =>
     have H := HA.out
     clear HA
     simp only [impl_OpOk.j1] at H
     cases x16_11
     case true =>
      replace H := ipt H
      obtain ⟨t452, A15, H⟩ := bn H
      try dsimp only at H
      cases t452
      case true =>
       replace H := ipt H
       obtain rfl := oin H
       have hz17 := cs3_ BK449
       go_wp2_with (first | ((with_reducible refine gf 150 rfl ?_); refine gL 21 Tryz.func150 #[.int .i64 a0_1] ?_; (with_reducible refine (impl_KeyOk.calls a0_1 true _ A15.out).mono ?_); rintro e w' ⟨rfl, ⟨nd, rfl⟩⟩; refine ⟨_, rfl, ?_⟩))
       go_ret
       exact ⟨er, tb HB⟩
      replace H := ipf H
      obtain rfl := oin H
      have hz18 := cs3_ BK449
      go_wp2_with (first | ((with_reducible refine gf 150 rfl ?_); refine gL 21 Tryz.func150 #[.int .i64 a0_1] ?_; (with_reducible refine (impl_KeyOk.calls a0_1 false _ A15.out).mono ?_); rintro e w' ⟨rfl, ⟨nd, rfl⟩⟩; refine ⟨_, rfl, ?_⟩))
      go_ret
      exact ⟨er, tb HB⟩
     replace H := ipf H
     have HC19 := Aside0.mk H
     clear H
     go_upto_if 27 with (fail)
     go_cut [27] (fun v27 wc => ∃ (kq : Nat) (x27_18 : Bool), v27 = .bool x27_18 ∧ Aside0 (impl_OpOk.j2 kq a0_0 x27_18 a0_0 a0_1 a0_2 = some r) ∧ Aside0 (kq ≤ kj11) ∧ Aside0 (wc.heap[gb449]? = some (.cells #[.int .i64 a0_0, .int .i64 a0_1, .int .i64 a0_2] 132 (0, 0))) ∧ Aside0 (Below w.heap.size w wc))
     case first =>
      have H := HC19.out
      clear HC19
      by_cases c20 : a0_0 = 5
      case neg =>
       rw [if_neg c20] at H
       have c20b0 : (a0_0 == 5) = false := beq_eq_false_iff_ne.mpr c20
       have c20b1 : (a0_0 != 5) = true := bne_iff_ne.mpr c20
       (first | rw [c20b0] | (simp only [i64_w, i32_w]; rw [c20b0]) | skip)
       have H' := Aside0.mk H
       clear H
       go_wp2
       go_meet
       case rel => exact ⟨_, ((a0_0 == 10)), rsd, H', ⟨by have := HJ1.out; have := HJ11.out; first | omega | exact Nat.le_refl _⟩, ⟨by (with_reducible repeat (first | refine blk_drewN ?_ _ | refine blk_drew ?_ | refine blk_alloc ?_ _)); exact BK449.out⟩, ⟨tb HB⟩⟩
      rw [if_pos c20] at H
      have c20b0 : (a0_0 == 5) = true := beq_iff_eq.mpr c20
      have c20b1 : (a0_0 != 5) = false := bne_eq_false_iff_eq.mpr c20
      clear c20
      (first | rw [c20b0] | (simp only [i64_w, i32_w]; rw [c20b0]) | skip)
      have H' := Aside0.mk H
      clear H
      go_wp2
      go_meet
      case rel => exact ⟨_, ((a0_0 == 5)), rsd, H', ⟨by have := HJ1.out; have := HJ11.out; first | omega | exact Nat.le_refl _⟩, ⟨by (with_reducible repeat (first | refine blk_drewN ?_ _ | refine blk_drew ?_ | refine blk_alloc ?_ _)); exact BK449.out⟩, ⟨tb HB⟩⟩
     case rest =>
      clear HC19
      obtain ⟨kq, x27_18, rfl, HA, HJ18, BK449, HB⟩ := hcut
      cases kq with
      | zero => exact absurd HA.out (by simp [impl_OpOk.j2])
      | succ kj18 =>
       have H := HA.out
       clear HA
       simp only [impl_OpOk.j2] at H
       cases x27_18
       case true =>
        replace H := ipt H
        by_cases c22 : a0_1 = 0
        case neg =>
         rw [if_neg c22] at H
         have c22b0 : (a0_1 == 0) = false := beq_eq_false_iff_ne.mpr c22
         have c22b1 : (a0_1 != 0) = true := bne_iff_ne.mpr c22
         obtain rfl := oin H
         have hz25 := cs3_ BK449
         go_wp2
         go_ret
         exact ⟨er, tb HB⟩
        rw [if_pos c22] at H
        have c22b0 : (a0_1 == 0) = true := beq_iff_eq.mpr c22
        have c22b1 : (a0_1 != 0) = false := bne_eq_false_iff_eq.mpr c22
        clear c22
        obtain ⟨t453, A23, H⟩ := bn H
        try dsimp only at H
        obtain rfl := oin H
        have hz24 := cs3_ BK449
        go_wp2_with (first | (go_at_call 148; (with_reducible refine (impl_ValOk.calls a0_2 t453 _ A23.out).mono ?_); rintro e w' ⟨rfl, ⟨nd, rfl⟩⟩))
        go_ret
        exact ⟨er, tb HB⟩
       replace H := ipf H
       by_cases c26 : a0_0 = 6
       case pos =>
        rw [if_pos c26] at H
        have c26b0 : (a0_0 == 6) = true := beq_iff_eq.mpr c26
        have c26b1 : (a0_0 != 6) = false := bne_eq_false_iff_eq.mpr c26
        clear c26
        obtain ⟨t454, A27, H⟩ := bn H
        try dsimp only at H
        cases t454
        case true =>
         replace H := ipt H
         obtain rfl := oin H
         have hz29 := cs3_ BK449
         go_wp2_with (first | ((with_reducible refine gf 151 rfl ?_); refine gL 42 Tryz.func151 #[.int .i64 a0_1] ?_; (with_reducible refine (impl_isClass.calls a0_1 true _ A27.out).mono ?_); rintro e w' ⟨rfl, ⟨nd, rfl⟩⟩; refine ⟨_, rfl, ?_⟩))
         go_ret
         exact ⟨er, tb HB⟩
        replace H := ipf H
        obtain rfl := oin H
        have hz30 := cs3_ BK449
        go_wp2_with (first | ((with_reducible refine gf 151 rfl ?_); refine gL 42 Tryz.func151 #[.int .i64 a0_1] ?_; (with_reducible refine (impl_isClass.calls a0_1 false _ A27.out).mono ?_); rintro e w' ⟨rfl, ⟨nd, rfl⟩⟩; refine ⟨_, rfl, ?_⟩))
        go_ret
        exact ⟨er, tb HB⟩
       rw [if_neg c26] at H
       have c26b0 : (a0_0 == 6) = false := beq_eq_false_iff_ne.mpr c26
       have c26b1 : (a0_0 != 6) = true := bne_iff_ne.mpr c26
       by_cases c31 : a0_0 = 7
       case pos =>
        rw [if_pos c31] at H
        have c31b0 : (a0_0 == 7) = true := beq_iff_eq.mpr c31
        have c31b1 : (a0_0 != 7) = false := bne_eq_false_iff_eq.mpr c31
        clear c31
        by_cases c32 : a0_1 = 0
        case neg =>
         rw [if_neg c32] at H
         have c32b0 : (a0_1 == 0) = false := beq_eq_false_iff_ne.mpr c32
         have c32b1 : (a0_1 != 0) = true := bne_iff_ne.mpr c32
         obtain rfl := oin H
         have hz34 := cs3_ BK449
         go_wp2
         go_ret
         exact ⟨er, tb HB⟩
        rw [if_pos c32] at H
        have c32b0 : (a0_1 == 0) = true := beq_iff_eq.mpr c32
        have c32b1 : (a0_1 != 0) = false := bne_eq_false_iff_eq.mpr c32
        clear c32
        obtain rfl := oin H
        have hz33 := cs3_ BK449
        go_wp2
        go_ret
        exact ⟨er, tb HB⟩
       rw [if_neg c31] at H
       have c31b0 : (a0_0 == 7) = false := beq_eq_false_iff_ne.mpr c31
       have c31b1 : (a0_0 != 7) = true := bne_iff_ne.mpr c31
       by_cases c35 : a0_0 = 8
       case pos =>
        rw [if_pos c35] at H
        have c35b0 : (a0_0 == 8) = true := beq_iff_eq.mpr c35
        have c35b1 : (a0_0 != 8) = false := bne_eq_false_iff_eq.mpr c35
        clear c35
        by_cases c36 : a0_1 = 0
        case neg =>
         rw [if_neg c36] at H
         have c36b0 : (a0_1 == 0) = false := beq_eq_false_iff_ne.mpr c36
         have c36b1 : (a0_1 != 0) = true := bne_iff_ne.mpr c36
         obtain rfl := oin H
         have hz38 := cs3_ BK449
         go_wp2
         go_ret
         exact ⟨er, tb HB⟩
        rw [if_pos c36] at H
        have c36b0 : (a0_1 == 0) = true := beq_iff_eq.mpr c36
        have c36b1 : (a0_1 != 0) = false := bne_eq_false_iff_eq.mpr c36
        clear c36
        obtain rfl := oin H
        have hz37 := cs3_ BK449
        go_wp2
        go_ret
        exact ⟨er, tb HB⟩
       rw [if_neg c35] at H
       have c35b0 : (a0_0 == 8) = false := beq_eq_false_iff_ne.mpr c35
       have c35b1 : (a0_0 != 8) = true := bne_iff_ne.mpr c35
       by_cases c39 : a0_0 = 9
       case neg =>
        rw [if_neg c39] at H
        have c39b0 : (a0_0 == 9) = false := beq_eq_false_iff_ne.mpr c39
        have c39b1 : (a0_0 != 9) = true := bne_iff_ne.mpr c39
        obtain rfl := oin H
        go_wp2
        go_ret
        exact ⟨er, tb HB⟩
 
 
       rw [if_pos c39] at H
       have c39b0 : (a0_0 == 9) = true := beq_iff_eq.mpr c39
       have c39b1 : (a0_0 != 9) = false := bne_eq_false_iff_eq.mpr c39
       clear c39
       by_cases c40 : a0_1 = 0
       case neg =>
        rw [if_neg c40] at H
        have c40b0 : (a0_1 == 0) = false := beq_eq_false_iff_ne.mpr c40
        have c40b1 : (a0_1 != 0) = true := bne_iff_ne.mpr c40
        obtain rfl := oin H
        have hz42 := cs3_ BK449
        go_wp2
        go_ret
        exact ⟨er, tb HB⟩
       rw [if_pos c40] at H
       have c40b0 : (a0_1 == 0) = true := beq_iff_eq.mpr c40
       have c40b1 : (a0_1 != 0) = false := bne_eq_false_iff_eq.mpr c40
       clear c40
       obtain rfl := oin H
       have hz41 := cs3_ BK449
       go_wp2
       go_ret
       exact ⟨er, tb HB⟩
def impl_ThreadOk_2.f (a0_0 : Int) (a0_1 : Int) : Option (Bool) := (impl_isPlace.f a0_0).bind fun t458 => (if t458 = true then ((impl_isWordNum.f a0_1).bind fun t459 => (some (!t459))) else (some true))
set_option maxHeartbeats 8000000 in
set_option maxRecDepth 100000 in
theorem impl_ThreadOk_2.calls (a0_0 : Int) (a0_1 : Int) (r : Bool) (w : World) (h : impl_ThreadOk_2.f a0_0 a0_1 = some r) :
  Calls Tryz.prog 113 #[.agg #[.int .i64 a0_0, .int .i64 a0_1]] w fun e w' => e = .returned (.bool r) ∧ Below w.heap.size w w' := by
 have hu145 := Tryz.underlying145
 have HB := Aside0.mk (Below.refl w.heap.size w)
 have H := h
 clear h
 unfold impl_ThreadOk_2.f at H
 obtain ⟨t458, A2, H⟩ := bn H
 try dsimp only at H
 cases t458
 case true =>
  replace H := ipt H
  obtain ⟨t459, A4, H⟩ := bn H
  try dsimp only at H
  obtain rfl := oin H
  go_enter Tryz.func113, Tryz.ntmps113
  go_wp2_with (first | ((with_reducible refine gq 1 rfl ?_); refine bx0 HB (N := 1) (t := 145) ?_; clear HB; intro gb457 w5 BK457 GE457 HB; have hz6 := cs2_ BK457) | ((with_reducible refine gf 114 rfl ?_); refine gL 5 Tryz.func114 #[.int .i64 a0_0] ?_; (with_reducible refine (impl_isPlace.calls a0_0 true _ A2.out).mono ?_); rintro e w' ⟨rfl, ⟨nd, rfl⟩⟩; refine ⟨_, rfl, ?_⟩) | (go_at_call 115; (with_reducible refine (impl_isWordNum.calls a0_1 t459 _ A4.out).mono ?_); rintro e w' ⟨rfl, ⟨nd, rfl⟩⟩))
  go_ret
  exact ⟨er, tb HB⟩
 replace H := ipf H
 obtain rfl := oin H
 go_enter Tryz.func113, Tryz.ntmps113
 go_wp2_with (first | ((with_reducible refine gq 1 rfl ?_); refine bx0 HB (N := 1) (t := 145) ?_; clear HB; intro gb457 w7 BK457 GE457 HB; have hz8 := cs2_ BK457) | ((with_reducible refine gf 114 rfl ?_); refine gL 5 Tryz.func114 #[.int .i64 a0_0] ?_; (with_reducible refine (impl_isPlace.calls a0_0 false _ A2.out).mono ?_); rintro e w' ⟨rfl, ⟨nd, rfl⟩⟩; refine ⟨_, rfl, ?_⟩))
 go_ret
 exact ⟨er, tb HB⟩
end Go.Proofs.YtopikhjcbcpiaaaGreat.Q
