/- Part 2 of the steps by which the law is shown: what each function of the program, of the reference and of the law computes. No condition. -/
import Derived.Test.YtopikhjcbcpiaaaGreatMac1
namespace Go.Proofs.YtopikhjcbcpiaaaGreat.Q
open Go.RowKit Go.Proofs.YtopikhjcbcpiaaaGreatW.PrintWords Go.Proofs.YtopikhjcbcpiaaaGreatW.PrintLast Go.Proofs.YtopikhjcbcpiaaaGreatW.PrintMore
attribute [local go_sem] max2_int min2_int max_two min_two max_three min_three max_four min_four   -- for this text's walks alone
set_option linter.unusedVariables false
set_option linter.unusedSimpArgs false
mutual
def spec_MemOk.j0 : Nat → Bool → List (S39) → List (S52) → Option (Bool)
 | 0, _, _, _ => none
 | k + 1, x18, x170000, x170001 => if x18 = true then (some false) else (spec_MemOk.l0 k 0 x170000 x170001)
def spec_MemOk.l0 : Nat → Int → List (S39) → List (S52) → Option (Bool)
 | 0, _, _, _ => none
 | k + 1, x3, x170000, x170001 => if x3 < (x170001.length : Int) then (if 0 ≤ x3 then ((spec_DescOk.f k ((rd_T52 x170001 x3).f0) ((rd_T52 x170001 x3).f1) ((rd_T52 x170001 x3).f2) ((rd_T52 x170001 x3).f3.f0) ((rd_T52 x170001 x3).f3.f1)).bind fun t172 => (if t172 = true then (spec_MemOk.l0 k (wrap64 (x3 + 1)) x170000 x170001) else (some false))) else (none)) else (spec_MemOk.l1 k 0 x170000 x170001)
def spec_MemOk.l1 : Nat → Int → List (S39) → List (S52) → Option (Bool)
 | 0, _, _, _ => none
 | k + 1, x4, x170000, x170001 => if x4 < (x170000.length : Int) then (if 0 ≤ x4 then ((spec_WordOk.f ((rd_T39 x170000 x4).f0) ((rd_T39 x170000 x4).f1) ((rd_T39 x170000 x4).f2) (x170001.length : Int)).bind fun t175 => (if t175 = true then (if ((rd_T39 x170000 x4).f1) > 0 then (if 0 ≤ (wrap64 (((rd_T39 x170000 x4).f1) - 1)) then (if (wrap64 (((rd_T39 x170000 x4).f1) - 1)) < (x170001.length : Int) then ((spec_Entries.f k ((rd_T52 x170001 (wrap64 (((rd_T39 x170000 x4).f1) - 1))).f0) ((rd_T52 x170001 (wrap64 (((rd_T39 x170000 x4).f1) - 1))).f1) ((rd_T52 x170001 (wrap64 (((rd_T39 x170000 x4).f1) - 1))).f2) ((rd_T52 x170001 (wrap64 (((rd_T39 x170000 x4).f1) - 1))).f3.f0) ((rd_T52 x170001 (wrap64 (((rd_T39 x170000 x4).f1) - 1))).f3.f1) x4).bind fun bt177 => (if bt177.2.2.2 = true then (if ((rd_T52 x170001 (wrap64 (((rd_T39 x170000 x4).f1) - 1))).f0) = ((rd_T39 x170000 x4).f2) then (spec_MemOk.l1 k (wrap64 (x4 + 1)) x170000 x170001) else (some false)) else (some false))) else (none)) else (none)) else (spec_MemOk.l1 k (wrap64 (x4 + 1)) x170000 x170001)) else (some false))) else (none)) else (some true)
end
def spec_MemOk.f (k : Nat) (l0_0 : List (S39)) (l0_1 : List (S52)) : Option (Bool) := if (l0_0.length : Int) = 20 then ((spec_l1In.f (l0_1.length : Int) 1 4).bind fun t170 => (spec_MemOk.j0 k (!t170) l0_0 l0_1)) else (spec_MemOk.j0 k true l0_0 l0_1)
set_option maxHeartbeats 8000000 in
set_option maxRecDepth 100000 in
theorem spec_MemOk.calls (k : Nat) (A0_0 : Option Addr) (c0_0 : Nat) (l0_0 : List (S39)) (A0_1 : Option Addr) (c0_1 : Nat) (l0_1 : List (S52)) (r : Bool) (w : World) (hr0_0 : Kd.C k39 w A0_0 l0_0.length l0_0) (hc0_0 : l0_0.length ≤ c0_0) (hr0_1 : Kd.C k52 w A0_1 l0_1.length l0_1) (hc0_1 : l0_1.length ≤ c0_1) (h : spec_MemOk.f k l0_0 l0_1 = some r) :
  Calls Tryz.prog 59 #[.agg #[.slice A0_0 l0_0.length c0_0, .slice A0_1 l0_1.length c0_1]] w fun e w' => e = .returned (.bool r) ∧ Below w.heap.size w w' := by
 have hu27 := Tryz.underlying27
 have hu52 := Tryz.underlying52
 have hu39 := Tryz.underlying39
 have hu37 := Tryz.underlying37
 have HR0_0 := Aside0.mk hr0_0
 have HC0_0 := Aside0.mk hc0_0
 clear hr0_0 hc0_0
 have HR0_1 := Aside0.mk hr0_1
 have HC0_1 := Aside0.mk hc0_1
 clear hr0_1 hc0_1
 have HB := Aside0.mk (Below.refl w.heap.size w)
 have H := h
 clear h
 unfold spec_MemOk.f at H
 have HC2 := Aside0.mk H
 clear H
 go_enter Tryz.func59, Tryz.ntmps59
 go_upto_region 1 with (first | ((with_reducible refine gq 1 rfl ?_); (try (refine gate_guard (by rfl) ?_; dsimp only)); refine bx0 HB (N := 1) (t := 27) ?_; clear HB; intro gb169 w3 BK169 GE169 HB))
 repeat (go_quiet (first | ((with_reducible refine gq 1 rfl ?_); (try (refine gate_guard (by rfl) ?_; dsimp only)); refine bx0 HB (N := 1) (t := 27) ?_; clear HB; intro gb169 w3 BK169 GE169 HB)); go_upto_region 1 with (first | ((with_reducible refine gq 1 rfl ?_); (try (refine gate_guard (by rfl) ?_; dsimp only)); refine bx0 HB (N := 1) (t := 27) ?_; clear HB; intro gb169 w3 BK169 GE169 HB)))
 (try simp only [Act.put, sA, sB, sC])
 go_cut [18] (fun v18 wc => ∃ (kq : Nat) (x18_1 : Bool), v18 = .bool x18_1 ∧ Aside0 (spec_MemOk.j0 kq x18_1 l0_0 l0_1 = some r) ∧ Aside0 (kq ≤ k) ∧ Aside0 (wc.heap[gb169]? = some (.cells #[(.slice A0_0 l0_0.length c0_0), (.slice A0_1 l0_1.length c0_1)] 27 (0, 0))) ∧ Aside0 (Below w.heap.size w wc))
 case first =>
  have H := HC2.out
  clear HC2
  by_cases c4 : (l0_0.length : Int) = 20
  case neg =>
   rw [if_neg c4] at H
   have c4b0 : ((l0_0.length : Int) == 20) = false := beq_eq_false_iff_ne.mpr c4
   have c4b1 : ((l0_0.length : Int) != 20) = true := bne_iff_ne.mpr c4
   (first | rw [c4b0] | (simp only [i64_w, i32_w]; rw [c4b0]) | skip)
   have H' := Aside0.mk H
   clear H
   have hz7 := cs2_ BK169
   go_wp2
   repeat (go_quiet (fail); try go_wp2)
   go_meet
   case rel => exact ⟨_, (true), rsd, H', ⟨by first | omega | exact Nat.le_refl _⟩, ⟨by (with_reducible repeat (first | refine blk_drewN ?_ _ | refine blk_drew ?_ | refine blk_alloc ?_ _)); exact BK169.out⟩, ⟨tb HB⟩⟩
  rw [if_pos c4] at H
  have c4b0 : ((l0_0.length : Int) == 20) = true := beq_iff_eq.mpr c4
  have c4b1 : ((l0_0.length : Int) != 20) = false := bne_eq_false_iff_eq.mpr c4
  clear c4
  (first | rw [c4b0] | (simp only [i64_w, i32_w]; rw [c4b0]) | skip)
  obtain ⟨t170, A5, H⟩ := bn H
  try dsimp only at H
  have H' := Aside0.mk H
  clear H
  have hz6 := cs2_ BK169
  go_wp2_with (first | (go_at_call 70; (with_reducible refine (spec_l1In.calls (l0_1.length : Int) 1 4 t170 _ A5.out).mono ?_); rintro e w' ⟨rfl, ⟨nd, rfl⟩⟩; (try first | exact ⟨rfl, _, World.drewN_drewN _ _ _⟩ | exact ⟨rfl, _, Eq.trans (World.drewN_drewN _ _ _) (congrArg (World.drewN _) (Nat.add_assoc _ _ _))⟩)))
  repeat (go_quiet (first | (go_at_call 70; (with_reducible refine (spec_l1In.calls (l0_1.length : Int) 1 4 t170 _ A5.out).mono ?_); rintro e w' ⟨rfl, ⟨nd, rfl⟩⟩; (try first | exact ⟨rfl, _, World.drewN_drewN _ _ _⟩ | exact ⟨rfl, _, Eq.trans (World.drewN_drewN _ _ _) (congrArg (World.drewN _) (Nat.add_assoc _ _ _))⟩))); try go_wp2_with (first | (go_at_call 70; (with_reducible refine (spec_l1In.calls (l0_1.length : Int) 1 4 t170 _ A5.out).mono ?_); rintro e w' ⟨rfl, ⟨nd, rfl⟩⟩; (try first | exact ⟨rfl, _, World.drewN_drewN _ _ _⟩ | exact ⟨rfl, _, Eq.trans (World.drewN_drewN _ _ _) (congrArg (World.drewN _) (Nat.add_assoc _ _ _))⟩))))
  go_meet
  case rel => exact ⟨_, (!t170), rsd, H', ⟨by first | omega | exact Nat.le_refl _⟩, ⟨by (with_reducible repeat (first | refine blk_drewN ?_ _ | refine blk_drew ?_ | refine blk_alloc ?_ _)); exact BK169.out⟩, ⟨tb HB⟩⟩
 case rest =>
  clear HC2
  try clear p2
  try clear c4
  try clear c4b0
  try clear c4b1
  try clear c5
  try clear hz6
  try clear hz7
  try clear hz6
  try clear hz7
  obtain ⟨kq, x18_1, rfl, HA, HJ1, BK169, HB⟩ := hcut
  cases kq with
  | zero => exact absurd HA.out (by simp [spec_MemOk.j0])
  | succ kj1 =>
   have H := HA.out
   clear HA
   simp only [spec_MemOk.j0] at H
   cases x18_1
   case true =>
    replace H := ipt H
    obtain rfl := oin H
    go_wp2
    repeat (go_quiet (fail); try go_wp2)
    go_ret
    exact ⟨er, tb HB⟩
   replace H := ipf H
   have H' := Aside0.mk H
   clear H
   go_wp2
   repeat (go_quiet (fail); try go_wp2)
   go_loopg [3] kj1 (fun kq v3 w' => ∃ (x3_2 : Int), v3 = .int .i64 x3_2 ∧ Aside0 (spec_MemOk.l0 kq x3_2 l0_0 l0_1 = some r) ∧ Aside0 (kq ≤ kj1) ∧ Aside0 (w'.heap[gb169]? = some (.cells #[(.slice A0_0 l0_0.length c0_0), (.slice A0_1 l0_1.length c0_1)] 27 (0, 0))) ∧ Aside0 (Below w.heap.size w w'))
   case atStart => exact ⟨(0), rsd, H', ⟨Nat.le_refl _⟩, ⟨by (with_reducible repeat (first | refine blk_drewN ?_ _ | refine blk_drew ?_ | refine blk_alloc ?_ _)); exact BK169.out⟩, ⟨tb HB⟩⟩
   case round =>
    clear H'
    try clear p2
    try clear c4
    try clear c4b0
    try clear c4b1
    try clear c5
    try clear c8
    try clear hz6
    try clear hz7
    try clear hz6
    try clear hz7
    try clear p2
    obtain ⟨x3_2, rfl, HA, HK2, BK169, HB⟩ := hrel
    cases gk with
    | zero => exact absurd HA.out (by simp [spec_MemOk.l0])
    | succ k2 =>
     have H := HA.out
     clear HA
     simp only [spec_MemOk.l0] at H
     revert H; refine icd (fun c9b0 H => ?pos) fun c9b0 H => ?_
     case pos =>
      obtain ⟨c10b0, H⟩ := itd H
      obtain ⟨t172, A11, H⟩ := bn H
      try dsimp only at H
      cases t172
      case false =>
       replace H := ipf H
       obtain rfl := oin H
       have hz15 := cs2_ BK169
       have p171 : 0 ≤ (x3_2 : Int) := od
       have q171 : x3_2 < (l0_1.length : Int) := od
       obtain ⟨ad171, A171_2, c171_2, A171_4, c171_4, e171, hx171, hl171_2, hi171_2, hl171_4, hi171_4⟩ := att52 HR0_1.out x3_2 p171 q171
       cases e171
       replace hx171 := ox5 HB hx171
       have HR171_2 := Aside0.mk hi171_2
       have HC171_2 := Aside0.mk hl171_2
       clear hi171_2 hl171_2
       have HR171_4 := Aside0.mk hi171_4
       have HC171_4 := Aside0.mk hl171_4
       clear hi171_4 hl171_4
       replace p171 := eq_true p171
       replace q171 := eq_true q171
       go_wp2_with (first | (go_at_call 125; (with_reducible refine (spec_DescOk.calls k2 ((rd_T52 l0_1 x3_2).f0) ((rd_T52 l0_1 x3_2).f1) _ _ ((rd_T52 l0_1 x3_2).f2) ((rd_T52 l0_1 x3_2).f3.f0) _ _ ((rd_T52 l0_1 x3_2).f3.f1) false _ (kc HR171_2 HB) HC171_2.out (kc HR171_4 HB) HC171_4.out A11.out).mono ?_); rintro e w16 ⟨rfl, hb⟩; replace BK169 := bb BK169 hb; replace HB := bs HB hb; (try clear hb)))
       repeat (go_quiet (first | (go_at_call 125; (with_reducible refine (spec_DescOk.calls k2 ((rd_T52 l0_1 x3_2).f0) ((rd_T52 l0_1 x3_2).f1) _ _ ((rd_T52 l0_1 x3_2).f2) ((rd_T52 l0_1 x3_2).f3.f0) _ _ ((rd_T52 l0_1 x3_2).f3.f1) false _ (kc HR171_2 HB) HC171_2.out (kc HR171_4 HB) HC171_4.out A11.out).mono ?_); rintro e w16 ⟨rfl, hb⟩; replace BK169 := bb BK169 hb; replace HB := bs HB hb; (try clear hb))); try go_wp2_with (first | (go_at_call 125; (with_reducible refine (spec_DescOk.calls k2 ((rd_T52 l0_1 x3_2).f0) ((rd_T52 l0_1 x3_2).f1) _ _ ((rd_T52 l0_1 x3_2).f2) ((rd_T52 l0_1 x3_2).f3.f0) _ _ ((rd_T52 l0_1 x3_2).f3.f1) false _ (kc HR171_2 HB) HC171_2.out (kc HR171_4 HB) HC171_4.out A11.out).mono ?_); rintro e w16 ⟨rfl, hb⟩; replace BK169 := bb BK169 hb; replace HB := bs HB hb; (try clear hb))))
       go_ret
       exact ⟨er, tb HB⟩
      replace H := ipt H
      have H' := Aside0.mk H
      clear H
      have hz13 := cs2_ BK169
      have p171 : 0 ≤ (x3_2 : Int) := od
      have q171 : x3_2 < (l0_1.length : Int) := od
      obtain ⟨ad171, A171_2, c171_2, A171_4, c171_4, e171, hx171_0, hx171_1, hx171_2, hx171_3, hx171_4, hl171_2, hi171_2, hl171_4, hi171_4⟩ := at_T52 HR0_1.out x3_2 p171 q171
      cases e171
      replace hx171_0 := ox HB hx171_0
      replace hx171_1 := ox HB hx171_1
      replace hx171_2 := ox HB hx171_2
      replace hx171_3 := ox HB hx171_3
      replace hx171_4 := ox HB hx171_4
      have HR171_2 := Aside0.mk hi171_2
      have HC171_2 := Aside0.mk hl171_2
      clear hi171_2 hl171_2
      have HR171_4 := Aside0.mk hi171_4
      have HC171_4 := Aside0.mk hl171_4
      clear hi171_4 hl171_4
      replace p171 := eq_true p171
      replace q171 := eq_true q171
      go_wp2_with (first | (go_at_call 125; (with_reducible refine (spec_DescOk.calls k2 ((rd_T52 l0_1 x3_2).f0) ((rd_T52 l0_1 x3_2).f1) _ _ ((rd_T52 l0_1 x3_2).f2) ((rd_T52 l0_1 x3_2).f3.f0) _ _ ((rd_T52 l0_1 x3_2).f3.f1) true _ (kc HR171_2 HB) HC171_2.out (kc HR171_4 HB) HC171_4.out A11.out).mono ?_); rintro e w14 ⟨rfl, hb⟩; replace BK169 := bb BK169 hb; replace HB := bs HB hb; (try clear hb)))
      repeat (go_quiet (first | (go_at_call 125; (with_reducible refine (spec_DescOk.calls k2 ((rd_T52 l0_1 x3_2).f0) ((rd_T52 l0_1 x3_2).f1) _ _ ((rd_T52 l0_1 x3_2).f2) ((rd_T52 l0_1 x3_2).f3.f0) _ _ ((rd_T52 l0_1 x3_2).f3.f1) true _ (kc HR171_2 HB) HC171_2.out (kc HR171_4 HB) HC171_4.out A11.out).mono ?_); rintro e w14 ⟨rfl, hb⟩; replace BK169 := bb BK169 hb; replace HB := bs HB hb; (try clear hb))); try go_wp2_with (first | (go_at_call 125; (with_reducible refine (spec_DescOk.calls k2 ((rd_T52 l0_1 x3_2).f0) ((rd_T52 l0_1 x3_2).f1) _ _ ((rd_T52 l0_1 x3_2).f2) ((rd_T52 l0_1 x3_2).f3.f0) _ _ ((rd_T52 l0_1 x3_2).f3.f1) true _ (kc HR171_2 HB) HC171_2.out (kc HR171_4 HB) HC171_4.out A11.out).mono ?_); rintro e w14 ⟨rfl, hb⟩; replace BK169 := bb BK169 hb; replace HB := bs HB hb; (try clear hb))))
      go_roundg k2
      case measure => have := HJ1.out; have := HK2.out; omega
      case rel => exact ⟨(wrap64 (x3_2 + 1)), rsd, H', ⟨by have := HJ1.out; have := HK2.out; omega⟩, ⟨by (with_reducible repeat (first | refine blk_drewN ?_ _ | refine blk_drew ?_ | refine blk_alloc ?_ _)); exact BK169.out⟩, ⟨tb HB⟩⟩
     have H' := Aside0.mk H
     clear H
     have hz17 := cs2_ BK169
     go_wp2
     repeat (go_quiet (fail); try go_wp2)
     go_loopg [4] k2 (fun kq v4 w' => ∃ (x4_3 : Int), v4 = .int .i64 x4_3 ∧ Aside0 (spec_MemOk.l1 kq x4_3 l0_0 l0_1 = some r) ∧ Aside0 (kq ≤ k2) ∧ Aside0 (w'.heap[gb169]? = some (.cells #[(.slice A0_0 l0_0.length c0_0), (.slice A0_1 l0_1.length c0_1)] 27 (0, 0))) ∧ Aside0 (Below w.heap.size w w'))
     case atStart => exact ⟨(0), rsd, H', ⟨Nat.le_refl _⟩, ⟨by (with_reducible repeat (first | refine blk_drewN ?_ _ | refine blk_drew ?_ | refine blk_alloc ?_ _)); exact BK169.out⟩, ⟨tb HB⟩⟩
     case round =>
      clear H'
      try clear c1
      try clear p1
      try clear q1
      try clear hx1
      try clear p2
      try clear c4
      try clear c4b0
      try clear c4b1
      try clear c5
      try clear p6
      try clear c8
      try clear c9
      try clear c9b0
      try clear c10
      try clear c10b0
      try clear c12
      try clear c17
      try clear p17
      try clear q17
      try clear hx17
      try clear hz13
      try clear hz15
      try clear hz17
      try clear hz6
      try clear hz7
      try clear hz13
      try clear hz15
      try clear hz17
      try clear hz6
      try clear hz7
      try clear hx171_0
      try clear hx171_1
      try clear hx171_2
      try clear hx171_3
      try clear hx171_4
      try clear p171
      try clear p2
      try clear q171
      obtain ⟨x4_3, rfl, HA, HK3, BK169, HB⟩ := hrel
      cases gk with
      | zero => exact absurd HA.out (by simp [spec_MemOk.l1])
      | succ k3 =>
       have H := HA.out
       clear HA
       simp only [spec_MemOk.l1] at H
       revert H; refine icd (fun c18b0 H => ?_) fun c18b0 H => ?neg
       case neg =>
        obtain rfl := oin H
        have hz85 := cs2_ BK169
        go_wp2
        repeat (go_quiet (fail); try go_wp2)
        go_ret
        exact ⟨er, tb HB⟩
       obtain ⟨c19b0, H⟩ := itd H
       obtain ⟨t175, A20, H⟩ := bn H
       try dsimp only at H
       cases t175
       case false =>
        replace H := ipf H
        obtain rfl := oin H
        have hz79 := cs2_ BK169
        have p173 : 0 ≤ (x4_3 : Int) := od
        have q173 : x4_3 < (l0_0.length : Int) := od
        obtain ⟨ad173, e173, hx173⟩ := att39 HR0_0.out x4_3 p173 q173
        cases e173
        replace hx173 := ox3 HB hx173
        replace p173 := eq_true p173
        replace q173 := eq_true q173
        go_wp2_with (first | ((with_reducible refine gq 5 rfl ?_); (try (refine gate_guard (by rfl) ?_; dsimp only)); refine bx1 HB BK169 (N := 5) (cs := #[.int .i64 0, .int .i64 0, .int .i64 0]) (t := 39) ?_; clear HB BK169; intro gb174 w80 BK174 GE174 HB NB169_174 NB174_169 BK169; have hnb81 := NB174_169.out; have hnc81 := NB169_174.out; have hz82 := cs3_ BK174; have hz83 := cs2_ BK169) | (go_at_call 126; (with_reducible refine (spec_WordOk.calls ((rd_T39 l0_0 x4_3).f0) ((rd_T39 l0_0 x4_3).f1) ((rd_T39 l0_0 x4_3).f2) (l0_1.length : Int) false _ A20.out).mono ?_); rintro e w84 ⟨rfl, hb⟩; replace BK169 := bbf BK169 hb; replace BK174 := bbp3 BK174 hb; replace HB := bs HB hb; (try clear hb)))
        repeat (go_quiet (first | ((with_reducible refine gq 5 rfl ?_); (try (refine gate_guard (by rfl) ?_; dsimp only)); refine bx1 HB BK169 (N := 5) (cs := #[.int .i64 0, .int .i64 0, .int .i64 0]) (t := 39) ?_; clear HB BK169; intro gb174 w80 BK174 GE174 HB NB169_174 NB174_169 BK169; have hnb81 := NB174_169.out; have hnc81 := NB169_174.out; have hz82 := cs3_ BK174; have hz83 := cs2_ BK169) | (go_at_call 126; (with_reducible refine (spec_WordOk.calls ((rd_T39 l0_0 x4_3).f0) ((rd_T39 l0_0 x4_3).f1) ((rd_T39 l0_0 x4_3).f2) (l0_1.length : Int) false _ A20.out).mono ?_); rintro e w84 ⟨rfl, hb⟩; replace BK169 := bbf BK169 hb; replace BK174 := bbp3 BK174 hb; replace HB := bs HB hb; (try clear hb))); try go_wp2_with (first | ((with_reducible refine gq 5 rfl ?_); (try (refine gate_guard (by rfl) ?_; dsimp only)); refine bx1 HB BK169 (N := 5) (cs := #[.int .i64 0, .int .i64 0, .int .i64 0]) (t := 39) ?_; clear HB BK169; intro gb174 w80 BK174 GE174 HB NB169_174 NB174_169 BK169; have hnb81 := NB174_169.out; have hnc81 := NB169_174.out; have hz82 := cs3_ BK174; have hz83 := cs2_ BK169) | (go_at_call 126; (with_reducible refine (spec_WordOk.calls ((rd_T39 l0_0 x4_3).f0) ((rd_T39 l0_0 x4_3).f1) ((rd_T39 l0_0 x4_3).f2) (l0_1.length : Int) false _ A20.out).mono ?_); rintro e w84 ⟨rfl, hb⟩; replace BK169 := bbf BK169 hb; replace BK174 := bbp3 BK174 hb; replace HB := bs HB hb; (try clear hb))))
        go_ret
        exact ⟨er, tb HB⟩
       replace H := ipt H
       revert H; refine icd (fun c22b0 H => ?_) fun c22b0 H => ?neg
       case neg =>
        have H' := Aside0.mk H
        clear H
        have hz72 := cs2_ BK169
        have p173 : 0 ≤ (x4_3 : Int) := od
        have q173 : x4_3 < (l0_0.length : Int) := od
        obtain ⟨ad173, e173, hx173_0, hx173_1, hx173_2⟩ := at_T39 HR0_0.out x4_3 p173 q173
        cases e173
        replace hx173_0 := ox HB hx173_0
        replace hx173_1 := ox HB hx173_1
        replace hx173_2 := ox HB hx173_2
        replace p173 := eq_true p173
        replace q173 := eq_true q173
        go_wp2_with (first | ((with_reducible refine gq 5 rfl ?_); (try (refine gate_guard (by rfl) ?_; dsimp only)); refine bx1 HB BK169 (N := 5) (cs := #[.int .i64 0, .int .i64 0, .int .i64 0]) (t := 39) ?_; clear HB BK169; intro gb174 w73 BK174 GE174 HB NB169_174 NB174_169 BK169; have hnb74 := NB174_169.out; have hnc74 := NB169_174.out; have hz75 := cs3_ BK174; have hz76 := cs2_ BK169) | (go_at_call 126; (with_reducible refine (spec_WordOk.calls ((rd_T39 l0_0 x4_3).f0) ((rd_T39 l0_0 x4_3).f1) ((rd_T39 l0_0 x4_3).f2) (l0_1.length : Int) true _ A20.out).mono ?_); rintro e w77 ⟨rfl, hb⟩; replace BK169 := bbf BK169 hb; replace BK174 := bbp3 BK174 hb; replace HB := bs HB hb; (try clear hb); have hz78 := cs3_ BK174))
        repeat (go_quiet (first | ((with_reducible refine gq 5 rfl ?_); (try (refine gate_guard (by rfl) ?_; dsimp only)); refine bx1 HB BK169 (N := 5) (cs := #[.int .i64 0, .int .i64 0, .int .i64 0]) (t := 39) ?_; clear HB BK169; intro gb174 w73 BK174 GE174 HB NB169_174 NB174_169 BK169; have hnb74 := NB174_169.out; have hnc74 := NB169_174.out; have hz75 := cs3_ BK174; have hz76 := cs2_ BK169) | (go_at_call 126; (with_reducible refine (spec_WordOk.calls ((rd_T39 l0_0 x4_3).f0) ((rd_T39 l0_0 x4_3).f1) ((rd_T39 l0_0 x4_3).f2) (l0_1.length : Int) true _ A20.out).mono ?_); rintro e w77 ⟨rfl, hb⟩; replace BK169 := bbf BK169 hb; replace BK174 := bbp3 BK174 hb; replace HB := bs HB hb; (try clear hb); have hz78 := cs3_ BK174)); try go_wp2_with (first | ((with_reducible refine gq 5 rfl ?_); (try (refine gate_guard (by rfl) ?_; dsimp only)); refine bx1 HB BK169 (N := 5) (cs := #[.int .i64 0, .int .i64 0, .int .i64 0]) (t := 39) ?_; clear HB BK169; intro gb174 w73 BK174 GE174 HB NB169_174 NB174_169 BK169; have hnb74 := NB174_169.out; have hnc74 := NB169_174.out; have hz75 := cs3_ BK174; have hz76 := cs2_ BK169) | (go_at_call 126; (with_reducible refine (spec_WordOk.calls ((rd_T39 l0_0 x4_3).f0) ((rd_T39 l0_0 x4_3).f1) ((rd_T39 l0_0 x4_3).f2) (l0_1.length : Int) true _ A20.out).mono ?_); rintro e w77 ⟨rfl, hb⟩; replace BK169 := bbf BK169 hb; replace BK174 := bbp3 BK174 hb; replace HB := bs HB hb; (try clear hb); have hz78 := cs3_ BK174)))
        go_roundg k3
        case measure => have := HJ1.out; have := HK2.out; have := HK3.out; omega
        case rel => exact ⟨(wrap64 (x4_3 + 1)), rsd, H', ⟨by have := HJ1.out; have := HK2.out; have := HK3.out; omega⟩, ⟨by (with_reducible repeat (first | refine blk_drewN ?_ _ | refine blk_drew ?_ | refine blk_alloc ?_ _)); exact BK169.out⟩, ⟨tb HB⟩⟩
       obtain ⟨ji23, hji23⟩ : ∃ j_ : Int, (wrap64 (((rd_T39 l0_0 x4_3).f1) - 1)) = j_ := ⟨_, rfl⟩
       replace H : (if 0 ≤ (ji23) then (if (ji23) < (l0_1.length : Int) then ((spec_Entries.f k3 ((rd_T52 l0_1 (ji23)).f0) ((rd_T52 l0_1 (ji23)).f1) ((rd_T52 l0_1 (ji23)).f2) ((rd_T52 l0_1 (ji23)).f3.f0) ((rd_T52 l0_1 (ji23)).f3.f1) x4_3).bind fun bt177 => (if bt177.2.2.2 = true then (if ((rd_T52 l0_1 (ji23)).f0) = ((rd_T39 l0_0 x4_3).f2) then (spec_MemOk.l1 k3 (wrap64 (x4_3 + 1)) l0_0 l0_1) else (some false)) else (some false))) else (none)) else (none)) = some r := by first | (rw [hji23] at H; exact H) | (simp only [hji23] at H ⊢; exact H)
       (try rw [hji23] at A20)
       have hji23w : (IntKind.i64.wrap (((rd_T39 l0_0 x4_3).f1) - 1)) = ji23 := (i64_w _).trans hji23
       obtain ⟨c24b0, H⟩ := itd H
       obtain ⟨c25b0, H⟩ := itd H
       obtain ⟨⟨t177, t178, t179, t180⟩, A26, H⟩ := bn H
       try dsimp only at H
       cases t180
       case false =>
        replace H := ipf H
        obtain rfl := oin H
        have hz59 := cs2_ BK169
        have p173 : 0 ≤ (x4_3 : Int) := od
        have q173 : x4_3 < (l0_0.length : Int) := od
        obtain ⟨ad173, e173, hx173_0, hx173_1, hx173_2⟩ := at_T39 HR0_0.out x4_3 p173 q173
        cases e173
        replace hx173_0 := ox HB hx173_0
        replace hx173_1 := ox HB hx173_1
        replace hx173_2 := ox HB hx173_2
        replace p173 := eq_true p173
        replace q173 := eq_true q173
        go_wp2_with (first | ((with_reducible refine gq 5 rfl ?_); (try (refine gate_guard (by rfl) ?_; dsimp only)); refine bx1 HB BK169 (N := 5) (cs := #[.int .i64 0, .int .i64 0, .int .i64 0]) (t := 39) ?_; clear HB BK169; intro gb174 w60 BK174 GE174 HB NB169_174 NB174_169 BK169; have hnb61 := NB174_169.out; have hnc61 := NB169_174.out; have hz62 := cs3_ BK174; have hz63 := cs2_ BK169) | (go_at_call 126; (with_reducible refine (spec_WordOk.calls ((rd_T39 l0_0 x4_3).f0) ((rd_T39 l0_0 x4_3).f1) ((rd_T39 l0_0 x4_3).f2) (l0_1.length : Int) true _ A20.out).mono ?_); rintro e w64 ⟨rfl, hb⟩; replace BK169 := bbf BK169 hb; replace BK174 := bbp3 BK174 hb; replace HB := bs HB hb; (try clear hb); have hz65 := cs3_ BK174; have hz66 := cs2_ BK169; have p176 : 0 ≤ ((ji23) : Int) := od; have q176 : (ji23) < (l0_1.length : Int) := od; obtain ⟨ad176, A176_2, c176_2, A176_4, c176_4, e176, hx176_0, hx176_1, hx176_2, hx176_3, hx176_4, hl176_2, hi176_2, hl176_4, hi176_4⟩ := at_T52 HR0_1.out (ji23) p176 q176; cases e176; replace hx176_0 := ox HB hx176_0; replace hx176_1 := ox HB hx176_1; replace hx176_2 := ox HB hx176_2; replace hx176_3 := ox HB hx176_3; replace hx176_4 := ox HB hx176_4; have HR176_2 := Aside0.mk hi176_2; have HC176_2 := Aside0.mk hl176_2; clear hi176_2 hl176_2; have HR176_4 := Aside0.mk hi176_4; have HC176_4 := Aside0.mk hl176_4; clear hi176_4 hl176_4; replace p176 := eq_true p176; replace q176 := eq_true q176) | (go_at_call 127; (with_reducible refine (spec_Entries.calls k3 ((rd_T52 l0_1 (ji23)).f0) ((rd_T52 l0_1 (ji23)).f1) _ _ ((rd_T52 l0_1 (ji23)).f2) ((rd_T52 l0_1 (ji23)).f3.f0) _ _ ((rd_T52 l0_1 (ji23)).f3.f1) x4_3 t177 t178 t179 false _ (kc HR176_2 HB) HC176_2.out (kc HR176_4 HB) HC176_4.out A26.out).mono ?_); rintro e w67 ⟨rfl, hb⟩; replace BK169 := bb BK169 hb; replace BK174 := bb BK174 hb; replace HB := bs HB hb; (try clear hb)) | ((with_reducible refine gq 6 rfl ?_); (try (refine gate_guard (by rfl) ?_; dsimp only)); refine bx (N := 6) (cs := #[.int .i64 0, .int .i64 0, .int .i64 0]) (t := 37) ?_; intro gb181 hg w68 hbox hb; have BK181 := Aside0.mk (hbox); have GW181 := Aside0.mk (ge_ hg HB); have GE181 := Aside0.mk (ge_ hg HB); replace HB := bs HB hb; have NB169_181 := Aside0.mk (nl_ hg BK169); have NB181_169 := Aside0.mk (ng_ hg BK169); replace BK169 := bb BK169 hb; have NB174_181 := Aside0.mk (nl_ hg BK174); have NB181_174 := Aside0.mk (ng_ hg BK174); replace BK174 := bb BK174 hb; clear hb hbox hg; have hnb69 := NB181_169.out; have hnc69 := NB169_181.out; have hnb70 := NB181_174.out; have hnc70 := NB174_181.out; have hz71 := cs3_ BK181))
        repeat (go_quiet (first | ((with_reducible refine gq 5 rfl ?_); (try (refine gate_guard (by rfl) ?_; dsimp only)); refine bx1 HB BK169 (N := 5) (cs := #[.int .i64 0, .int .i64 0, .int .i64 0]) (t := 39) ?_; clear HB BK169; intro gb174 w60 BK174 GE174 HB NB169_174 NB174_169 BK169; have hnb61 := NB174_169.out; have hnc61 := NB169_174.out; have hz62 := cs3_ BK174; have hz63 := cs2_ BK169) | (go_at_call 126; (with_reducible refine (spec_WordOk.calls ((rd_T39 l0_0 x4_3).f0) ((rd_T39 l0_0 x4_3).f1) ((rd_T39 l0_0 x4_3).f2) (l0_1.length : Int) true _ A20.out).mono ?_); rintro e w64 ⟨rfl, hb⟩; replace BK169 := bbf BK169 hb; replace BK174 := bbp3 BK174 hb; replace HB := bs HB hb; (try clear hb); have hz65 := cs3_ BK174; have hz66 := cs2_ BK169; have p176 : 0 ≤ ((ji23) : Int) := od; have q176 : (ji23) < (l0_1.length : Int) := od; obtain ⟨ad176, A176_2, c176_2, A176_4, c176_4, e176, hx176_0, hx176_1, hx176_2, hx176_3, hx176_4, hl176_2, hi176_2, hl176_4, hi176_4⟩ := at_T52 HR0_1.out (ji23) p176 q176; cases e176; replace hx176_0 := ox HB hx176_0; replace hx176_1 := ox HB hx176_1; replace hx176_2 := ox HB hx176_2; replace hx176_3 := ox HB hx176_3; replace hx176_4 := ox HB hx176_4; have HR176_2 := Aside0.mk hi176_2; have HC176_2 := Aside0.mk hl176_2; clear hi176_2 hl176_2; have HR176_4 := Aside0.mk hi176_4; have HC176_4 := Aside0.mk hl176_4; clear hi176_4 hl176_4; replace p176 := eq_true p176; replace q176 := eq_true q176) | (go_at_call 127; (with_reducible refine (spec_Entries.calls k3 ((rd_T52 l0_1 (ji23)).f0) ((rd_T52 l0_1 (ji23)).f1) _ _ ((rd_T52 l0_1 (ji23)).f2) ((rd_T52 l0_1 (ji23)).f3.f0) _ _ ((rd_T52 l0_1 (ji23)).f3.f1) x4_3 t177 t178 t179 false _ (kc HR176_2 HB) HC176_2.out (kc HR176_4 HB) HC176_4.out A26.out).mono ?_); rintro e w67 ⟨rfl, hb⟩; replace BK169 := bb BK169 hb; replace BK174 := bb BK174 hb; replace HB := bs HB hb; (try clear hb)) | ((with_reducible refine gq 6 rfl ?_); (try (refine gate_guard (by rfl) ?_; dsimp only)); refine bx1 HB BK169 (N := 6) (cs := #[.int .i64 0, .int .i64 0, .int .i64 0]) (t := 37) ?_; intro gb181 hg w68 hbox hb; have BK181 := Aside0.mk (hbox); have GW181 := Aside0.mk (ge_ hg HB); have GE181 := Aside0.mk (ge_ hg HB); replace HB := bs HB hb; have NB169_181 := Aside0.mk (nl_ hg BK169); have NB181_169 := Aside0.mk (ng_ hg BK169); replace BK169 := bb BK169 hb; have NB174_181 := Aside0.mk (nl_ hg BK174); have NB181_174 := Aside0.mk (ng_ hg BK174); replace BK174 := bb BK174 hb; clear hb hbox hg; have hnb69 := NB181_169.out; have hnc69 := NB169_181.out; have hnb70 := NB181_174.out; have hnc70 := NB174_181.out; have hz71 := cs3_ BK181)); try go_wp2_with (first | ((with_reducible refine gq 5 rfl ?_); (try (refine gate_guard (by rfl) ?_; dsimp only)); refine bx (N := 5) (cs := #[.int .i64 0, .int .i64 0, .int .i64 0]) (t := 39) ?_; clear HB BK169; intro gb174 w60 BK174 GE174 HB NB169_174 NB174_169 BK169; have hnb61 := NB174_169.out; have hnc61 := NB169_174.out; have hz62 := cs3_ BK174; have hz63 := cs2_ BK169) | (go_at_call 126; (with_reducible refine (spec_WordOk.calls ((rd_T39 l0_0 x4_3).f0) ((rd_T39 l0_0 x4_3).f1) ((rd_T39 l0_0 x4_3).f2) (l0_1.length : Int) true _ A20.out).mono ?_); rintro e w64 ⟨rfl, hb⟩; replace BK169 := bbf BK169 hb; replace BK174 := bbp3 BK174 hb; replace HB := bs HB hb; (try clear hb); have hz65 := cs3_ BK174; have hz66 := cs2_ BK169; have p176 : 0 ≤ ((ji23) : Int) := od; have q176 : (ji23) < (l0_1.length : Int) := od; obtain ⟨ad176, A176_2, c176_2, A176_4, c176_4, e176, hx176_0, hx176_1, hx176_2, hx176_3, hx176_4, hl176_2, hi176_2, hl176_4, hi176_4⟩ := at_T52 HR0_1.out (ji23) p176 q176; cases e176; replace hx176_0 := ox HB hx176_0; replace hx176_1 := ox HB hx176_1; replace hx176_2 := ox HB hx176_2; replace hx176_3 := ox HB hx176_3; replace hx176_4 := ox HB hx176_4; have HR176_2 := Aside0.mk hi176_2; have HC176_2 := Aside0.mk hl176_2; clear hi176_2 hl176_2; have HR176_4 := Aside0.mk hi176_4; have HC176_4 := Aside0.mk hl176_4; clear hi176_4 hl176_4; replace p176 := eq_true p176; replace q176 := eq_true q176) | (go_at_call 127; (with_reducible refine (spec_Entries.calls k3 ((rd_T52 l0_1 (ji23)).f0) ((rd_T52 l0_1 (ji23)).f1) _ _ ((rd_T52 l0_1 (ji23)).f2) ((rd_T52 l0_1 (ji23)).f3.f0) _ _ ((rd_T52 l0_1 (ji23)).f3.f1) x4_3 t177 t178 t179 false _ (kc HR176_2 HB) HC176_2.out (kc HR176_4 HB) HC176_4.out A26.out).mono ?_); rintro e w67 ⟨rfl, hb⟩; replace BK169 := bb BK169 hb; replace BK174 := bb BK174 hb; replace HB := bs HB hb; (try clear hb)) | ((with_reducible refine gq 6 rfl ?_); (try (refine gate_guard (by rfl) ?_; dsimp only)); refine bx (N := 6) (cs := #[.int .i64 0, .int .i64 0, .int .i64 0]) (t := 37) ?_; intro gb181 hg w68 hbox hb; have BK181 := Aside0.mk (hbox); have GW181 := Aside0.mk (ge_ hg HB); have GE181 := Aside0.mk (ge_ hg HB); replace HB := bs HB hb; have NB169_181 := Aside0.mk (nl_ hg BK169); have NB181_169 := Aside0.mk (ng_ hg BK169); replace BK169 := bb BK169 hb; have NB174_181 := Aside0.mk (nl_ hg BK174); have NB181_174 := Aside0.mk (ng_ hg BK174); replace BK174 := bb BK174 hb; clear hb hbox hg; have hnb69 := NB181_169.out; have hnc69 := NB169_181.out; have hnb70 := NB181_174.out; have hnc70 := NB174_181.out; have hz71 := cs3_ BK181)))
        go_ret
        exact ⟨by first | rfl | (simp [errW_none, errW_some] <;> rfl) | (simp only [← hji23]; first | rfl | (simp [errW_none, errW_some] <;> rfl)) | (simp [*, errW_none, errW_some] <;> rfl), tb HB⟩
       replace H := ipt H
       by_cases c28 : ((rd_T52 l0_1 (ji23)).f0) = ((rd_T39 l0_0 x4_3).f2)
       case neg =>
        rw [if_neg c28] at H
        have c28b0 : (((rd_T52 l0_1 (ji23)).f0) == ((rd_T39 l0_0 x4_3).f2)) = false := beq_eq_false_iff_ne.mpr c28
        have c28b1 : (((rd_T52 l0_1 (ji23)).f0) != ((rd_T39 l0_0 x4_3).f2)) = true := bne_iff_ne.mpr c28
        obtain rfl := oin H
        have hz44 := cs2_ BK169
        have p173 : 0 ≤ (x4_3 : Int) := od
        have q173 : x4_3 < (l0_0.length : Int) := od
        obtain ⟨ad173, e173, hx173_0, hx173_1, hx173_2⟩ := at_T39 HR0_0.out x4_3 p173 q173
        cases e173
        replace hx173_0 := ox HB hx173_0
        replace hx173_1 := ox HB hx173_1
        replace hx173_2 := ox HB hx173_2
        replace p173 := eq_true p173
        replace q173 := eq_true q173
        go_wp2_with (first | ((with_reducible refine gq 5 rfl ?_); (try (refine gate_guard (by rfl) ?_; dsimp only)); refine bx1 HB BK169 (N := 5) (cs := #[.int .i64 0, .int .i64 0, .int .i64 0]) (t := 39) ?_; clear HB BK169; intro gb174 w45 BK174 GE174 HB NB169_174 NB174_169 BK169; have hnb46 := NB174_169.out; have hnc46 := NB169_174.out; have hz47 := cs3_ BK174; have hz48 := cs2_ BK169) | (go_at_call 126; (with_reducible refine (spec_WordOk.calls ((rd_T39 l0_0 x4_3).f0) ((rd_T39 l0_0 x4_3).f1) ((rd_T39 l0_0 x4_3).f2) (l0_1.length : Int) true _ A20.out).mono ?_); rintro e w49 ⟨rfl, hb⟩; replace BK169 := bbf BK169 hb; replace BK174 := bbp3 BK174 hb; replace HB := bs HB hb; (try clear hb); have hz50 := cs3_ BK174; have hz51 := cs2_ BK169; have p176 : 0 ≤ ((ji23) : Int) := od; have q176 : (ji23) < (l0_1.length : Int) := od; obtain ⟨ad176, A176_2, c176_2, A176_4, c176_4, e176, hx176_0, hx176_1, hx176_2, hx176_3, hx176_4, hl176_2, hi176_2, hl176_4, hi176_4⟩ := at_T52 HR0_1.out (ji23) p176 q176; cases e176; replace hx176_0 := ox HB hx176_0; replace hx176_1 := ox HB hx176_1; replace hx176_2 := ox HB hx176_2; replace hx176_3 := ox HB hx176_3; replace hx176_4 := ox HB hx176_4; have HR176_2 := Aside0.mk hi176_2; have HC176_2 := Aside0.mk hl176_2; clear hi176_2 hl176_2; have HR176_4 := Aside0.mk hi176_4; have HC176_4 := Aside0.mk hl176_4; clear hi176_4 hl176_4; replace p176 := eq_true p176; replace q176 := eq_true q176) | (go_at_call 127; (with_reducible refine (spec_Entries.calls k3 ((rd_T52 l0_1 (ji23)).f0) ((rd_T52 l0_1 (ji23)).f1) _ _ ((rd_T52 l0_1 (ji23)).f2) ((rd_T52 l0_1 (ji23)).f3.f0) _ _ ((rd_T52 l0_1 (ji23)).f3.f1) x4_3 t177 t178 t179 true _ (kc HR176_2 HB) HC176_2.out (kc HR176_4 HB) HC176_4.out A26.out).mono ?_); rintro e w52 ⟨rfl, hb⟩; replace BK169 := bb BK169 hb; replace BK174 := bb BK174 hb; replace HB := bs HB hb; (try clear hb)) | ((with_reducible refine gq 6 rfl ?_); (try (refine gate_guard (by rfl) ?_; dsimp only)); refine bx (N := 6) (cs := #[.int .i64 0, .int .i64 0, .int .i64 0]) (t := 37) ?_; intro gb181 hg w53 hbox hb; have BK181 := Aside0.mk (hbox); have GW181 := Aside0.mk (ge_ hg HB); have GE181 := Aside0.mk (ge_ hg HB); replace HB := bs HB hb; have NB169_181 := Aside0.mk (nl_ hg BK169); have NB181_169 := Aside0.mk (ng_ hg BK169); replace BK169 := bb BK169 hb; have NB174_181 := Aside0.mk (nl_ hg BK174); have NB181_174 := Aside0.mk (ng_ hg BK174); replace BK174 := bb BK174 hb; clear hb hbox hg; have hnb54 := NB181_169.out; have hnc54 := NB169_181.out; have hnb55 := NB181_174.out; have hnc55 := NB174_181.out; have hz56 := cs3_ BK181; have hz57 := cs2_ BK169; have hz58 := cs3_ BK174; have p182 : 0 ≤ ((ji23) : Int) := od; have q182 : (ji23) < (l0_1.length : Int) := od; obtain ⟨ad182, A182_2, c182_2, A182_4, c182_4, e182, hx182_0, hx182_1, hx182_2, hx182_3, hx182_4, hl182_2, hi182_2, hl182_4, hi182_4⟩ := at_T52 HR0_1.out (ji23) p182 q182; obtain rfl : ad176 = ad182 := (by injection e182); have hn182_0 : ad176.block ≠ gb181 := Nat.ne_of_lt (Nat.lt_of_lt_of_le (by have := World.block_lt_of_cell? _ _ hx182_0; first | rwa [add_block] at this | exact this) GW181.out); have hn182_1 : ad176.block ≠ gb181 := Nat.ne_of_lt (Nat.lt_of_lt_of_le (by have := World.block_lt_of_cell? _ _ hx182_0; first | rwa [add_block] at this | exact this) GW181.out); have hn182_2 : ad176.block ≠ gb181 := Nat.ne_of_lt (Nat.lt_of_lt_of_le (by have := World.block_lt_of_cell? _ _ hx182_0; first | rwa [add_block] at this | exact this) GW181.out); replace hx182_0 := ox HB hx182_0; replace hx182_1 := ox HB hx182_1; replace hx182_2 := ox HB hx182_2; replace hx182_3 := ox HB hx182_3; replace hx182_4 := ox HB hx182_4; have HR182_2 := Aside0.mk hi182_2; have HC182_2 := Aside0.mk hl182_2; clear hi182_2 hl182_2; have HR182_4 := Aside0.mk hi182_4; have HC182_4 := Aside0.mk hl182_4; clear hi182_4 hl182_4; replace hx182_0 := (cell_far (p := ⟨gb181, 0, none⟩) (by first | (rw [add_block]; exact hn182_0) | (show (Addr.add _ _).block ≠ _; rw [add_block]; exact hn182_0) | exact hn182_0) (.int .i64 t177)).trans hx182_0; replace hx182_1 := (cell_far (p := ⟨gb181, 0, none⟩) (by first | (rw [add_block]; exact hn182_0) | (show (Addr.add _ _).block ≠ _; rw [add_block]; exact hn182_0) | exact hn182_0) (.int .i64 t177)).trans hx182_1; replace hx182_2 := (cell_far (p := ⟨gb181, 0, none⟩) (by first | (rw [add_block]; exact hn182_0) | (show (Addr.add _ _).block ≠ _; rw [add_block]; exact hn182_0) | exact hn182_0) (.int .i64 t177)).trans hx182_2; replace hx182_3 := (cell_far (p := ⟨gb181, 0, none⟩) (by first | (rw [add_block]; exact hn182_0) | (show (Addr.add _ _).block ≠ _; rw [add_block]; exact hn182_0) | exact hn182_0) (.int .i64 t177)).trans hx182_3; replace hx182_4 := (cell_far (p := ⟨gb181, 0, none⟩) (by first | (rw [add_block]; exact hn182_0) | (show (Addr.add _ _).block ≠ _; rw [add_block]; exact hn182_0) | exact hn182_0) (.int .i64 t177)).trans hx182_4; replace hx182_0 := (cell_far (p := ⟨gb181, 1, none⟩) (by first | (rw [add_block]; exact hn182_1) | (show (Addr.add _ _).block ≠ _; rw [add_block]; exact hn182_1) | exact hn182_1) (.int .i64 t178)).trans hx182_0; replace hx182_1 := (cell_far (p := ⟨gb181, 1, none⟩) (by first | (rw [add_block]; exact hn182_1) | (show (Addr.add _ _).block ≠ _; rw [add_block]; exact hn182_1) | exact hn182_1) (.int .i64 t178)).trans hx182_1; replace hx182_2 := (cell_far (p := ⟨gb181, 1, none⟩) (by first | (rw [add_block]; exact hn182_1) | (show (Addr.add _ _).block ≠ _; rw [add_block]; exact hn182_1) | exact hn182_1) (.int .i64 t178)).trans hx182_2; replace hx182_3 := (cell_far (p := ⟨gb181, 1, none⟩) (by first | (rw [add_block]; exact hn182_1) | (show (Addr.add _ _).block ≠ _; rw [add_block]; exact hn182_1) | exact hn182_1) (.int .i64 t178)).trans hx182_3; replace hx182_4 := (cell_far (p := ⟨gb181, 1, none⟩) (by first | (rw [add_block]; exact hn182_1) | (show (Addr.add _ _).block ≠ _; rw [add_block]; exact hn182_1) | exact hn182_1) (.int .i64 t178)).trans hx182_4; replace hx182_0 := (cell_far (p := ⟨gb181, 2, none⟩) (by first | (rw [add_block]; exact hn182_2) | (show (Addr.add _ _).block ≠ _; rw [add_block]; exact hn182_2) | exact hn182_2) (.int .i64 t179)).trans hx182_0; replace hx182_1 := (cell_far (p := ⟨gb181, 2, none⟩) (by first | (rw [add_block]; exact hn182_2) | (show (Addr.add _ _).block ≠ _; rw [add_block]; exact hn182_2) | exact hn182_2) (.int .i64 t179)).trans hx182_1; replace hx182_2 := (cell_far (p := ⟨gb181, 2, none⟩) (by first | (rw [add_block]; exact hn182_2) | (show (Addr.add _ _).block ≠ _; rw [add_block]; exact hn182_2) | exact hn182_2) (.int .i64 t179)).trans hx182_2; replace hx182_3 := (cell_far (p := ⟨gb181, 2, none⟩) (by first | (rw [add_block]; exact hn182_2) | (show (Addr.add _ _).block ≠ _; rw [add_block]; exact hn182_2) | exact hn182_2) (.int .i64 t179)).trans hx182_3; replace hx182_4 := (cell_far (p := ⟨gb181, 2, none⟩) (by first | (rw [add_block]; exact hn182_2) | (show (Addr.add _ _).block ≠ _; rw [add_block]; exact hn182_2) | exact hn182_2) (.int .i64 t179)).trans hx182_4; (try have hy182_0 := fun (n_ : Nat) => (show (((((w53.drewN n_).setCell ⟨gb181, 0, none⟩ (.int .i64 t177)).setCell ⟨gb181, 1, none⟩ (.int .i64 t178)).setCell ⟨gb181, 2, none⟩ (.int .i64 t179))).cell? _ = some _ from hx182_0)); (try have hy182_1 := fun (n_ : Nat) => (show (((((w53.drewN n_).setCell ⟨gb181, 0, none⟩ (.int .i64 t177)).setCell ⟨gb181, 1, none⟩ (.int .i64 t178)).setCell ⟨gb181, 2, none⟩ (.int .i64 t179))).cell? _ = some _ from hx182_1)); (try have hy182_2 := fun (n_ : Nat) => (show (((((w53.drewN n_).setCell ⟨gb181, 0, none⟩ (.int .i64 t177)).setCell ⟨gb181, 1, none⟩ (.int .i64 t178)).setCell ⟨gb181, 2, none⟩ (.int .i64 t179))).cell? _ = some _ from hx182_2)); (try have hy182_3 := fun (n_ : Nat) => (show (((((w53.drewN n_).setCell ⟨gb181, 0, none⟩ (.int .i64 t177)).setCell ⟨gb181, 1, none⟩ (.int .i64 t178)).setCell ⟨gb181, 2, none⟩ (.int .i64 t179))).cell? _ = some _ from hx182_3)); (try have hy182_4 := fun (n_ : Nat) => (show (((((w53.drewN n_).setCell ⟨gb181, 0, none⟩ (.int .i64 t177)).setCell ⟨gb181, 1, none⟩ (.int .i64 t178)).setCell ⟨gb181, 2, none⟩ (.int .i64 t179))).cell? _ = some _ from hx182_4)); clear hn182_0; clear hn182_1; clear hn182_2; replace p182 := eq_true p182; replace q182 := eq_true q182))
        repeat (go_quiet (first | ((with_reducible refine gq 5 rfl ?_); (try (refine gate_guard (by rfl) ?_; dsimp only)); refine bx1 HB BK169 (N := 5) (cs := #[.int .i64 0, .int .i64 0, .int .i64 0]) (t := 39) ?_; clear HB BK169; intro gb174 w45 BK174 GE174 HB NB169_174 NB174_169 BK169; have hnb46 := NB174_169.out; have hnc46 := NB169_174.out; have hz47 := cs3_ BK174; have hz48 := cs2_ BK169) | (go_at_call 126; (with_reducible refine (spec_WordOk.calls ((rd_T39 l0_0 x4_3).f0) ((rd_T39 l0_0 x4_3).f1) ((rd_T39 l0_0 x4_3).f2) (l0_1.length : Int) true _ A20.out).mono ?_); rintro e w49 ⟨rfl, hb⟩; replace BK169 := bbf BK169 hb; replace BK174 := bbp3 BK174 hb; replace HB := bs HB hb; (try clear hb); have hz50 := cs3_ BK174; have hz51 := cs2_ BK169; have p176 : 0 ≤ ((ji23) : Int) := od; have q176 : (ji23) < (l0_1.length : Int) := od; obtain ⟨ad176, A176_2, c176_2, A176_4, c176_4, e176, hx176_0, hx176_1, hx176_2, hx176_3, hx176_4, hl176_2, hi176_2, hl176_4, hi176_4⟩ := at_T52 HR0_1.out (ji23) p176 q176; cases e176; replace hx176_0 := ox HB hx176_0; replace hx176_1 := ox HB hx176_1; replace hx176_2 := ox HB hx176_2; replace hx176_3 := ox HB hx176_3; replace hx176_4 := ox HB hx176_4; have HR176_2 := Aside0.mk hi176_2; have HC176_2 := Aside0.mk hl176_2; clear hi176_2 hl176_2; have HR176_4 := Aside0.mk hi176_4; have HC176_4 := Aside0.mk hl176_4; clear hi176_4 hl176_4; replace p176 := eq_true p176; replace q176 := eq_true q176) | (go_at_call 127; (with_reducible refine (spec_Entries.calls k3 ((rd_T52 l0_1 (ji23)).f0) ((rd_T52 l0_1 (ji23)).f1) _ _ ((rd_T52 l0_1 (ji23)).f2) ((rd_T52 l0_1 (ji23)).f3.f0) _ _ ((rd_T52 l0_1 (ji23)).f3.f1) x4_3 t177 t178 t179 true _ (kc HR176_2 HB) HC176_2.out (kc HR176_4 HB) HC176_4.out A26.out).mono ?_); rintro e w52 ⟨rfl, hb⟩; replace BK169 := bb BK169 hb; replace BK174 := bb BK174 hb; replace HB := bs HB hb; (try clear hb)) | ((with_reducible refine gq 6 rfl ?_); (try (refine gate_guard (by rfl) ?_; dsimp only)); refine bx1 HB BK169 (N := 6) (cs := #[.int .i64 0, .int .i64 0, .int .i64 0]) (t := 37) ?_; intro gb181 hg w53 hbox hb; have BK181 := Aside0.mk (hbox); have GW181 := Aside0.mk (ge_ hg HB); have GE181 := Aside0.mk (ge_ hg HB); replace HB := bs HB hb; have NB169_181 := Aside0.mk (nl_ hg BK169); have NB181_169 := Aside0.mk (ng_ hg BK169); replace BK169 := bb BK169 hb; have NB174_181 := Aside0.mk (nl_ hg BK174); have NB181_174 := Aside0.mk (ng_ hg BK174); replace BK174 := bb BK174 hb; clear hb hbox hg; have hnb54 := NB181_169.out; have hnc54 := NB169_181.out; have hnb55 := NB181_174.out; have hnc55 := NB174_181.out; have hz56 := cs3_ BK181; have hz57 := cs2_ BK169; have hz58 := cs3_ BK174; have p182 : 0 ≤ ((ji23) : Int) := od; have q182 : (ji23) < (l0_1.length : Int) := od; obtain ⟨ad182, A182_2, c182_2, A182_4, c182_4, e182, hx182_0, hx182_1, hx182_2, hx182_3, hx182_4, hl182_2, hi182_2, hl182_4, hi182_4⟩ := at_T52 HR0_1.out (ji23) p182 q182; obtain rfl : ad176 = ad182 := (by injection e182); have hn182_0 : ad176.block ≠ gb181 := Nat.ne_of_lt (Nat.lt_of_lt_of_le (by have := World.block_lt_of_cell? _ _ hx182_0; first | rwa [add_block] at this | exact this) GW181.out); have hn182_1 : ad176.block ≠ gb181 := Nat.ne_of_lt (Nat.lt_of_lt_of_le (by have := World.block_lt_of_cell? _ _ hx182_0; first | rwa [add_block] at this | exact this) GW181.out); have hn182_2 : ad176.block ≠ gb181 := Nat.ne_of_lt (Nat.lt_of_lt_of_le (by have := World.block_lt_of_cell? _ _ hx182_0; first | rwa [add_block] at this | exact this) GW181.out); replace hx182_0 := ox HB hx182_0; replace hx182_1 := ox HB hx182_1; replace hx182_2 := ox HB hx182_2; replace hx182_3 := ox HB hx182_3; replace hx182_4 := ox HB hx182_4; have HR182_2 := Aside0.mk hi182_2; have HC182_2 := Aside0.mk hl182_2; clear hi182_2 hl182_2; have HR182_4 := Aside0.mk hi182_4; have HC182_4 := Aside0.mk hl182_4; clear hi182_4 hl182_4; replace hx182_0 := (cell_far (p := ⟨gb181, 0, none⟩) (by first | (rw [add_block]; exact hn182_0) | (show (Addr.add _ _).block ≠ _; rw [add_block]; exact hn182_0) | exact hn182_0) (.int .i64 t177)).trans hx182_0; replace hx182_1 := (cell_far (p := ⟨gb181, 0, none⟩) (by first | (rw [add_block]; exact hn182_0) | (show (Addr.add _ _).block ≠ _; rw [add_block]; exact hn182_0) | exact hn182_0) (.int .i64 t177)).trans hx182_1; replace hx182_2 := (cell_far (p := ⟨gb181, 0, none⟩) (by first | (rw [add_block]; exact hn182_0) | (show (Addr.add _ _).block ≠ _; rw [add_block]; exact hn182_0) | exact hn182_0) (.int .i64 t177)).trans hx182_2; replace hx182_3 := (cell_far (p := ⟨gb181, 0, none⟩) (by first | (rw [add_block]; exact hn182_0) | (show (Addr.add _ _).block ≠ _; rw [add_block]; exact hn182_0) | exact hn182_0) (.int .i64 t177)).trans hx182_3; replace hx182_4 := (cell_far (p := ⟨gb181, 0, none⟩) (by first | (rw [add_block]; exact hn182_0) | (show (Addr.add _ _).block ≠ _; rw [add_block]; exact hn182_0) | exact hn182_0) (.int .i64 t177)).trans hx182_4; replace hx182_0 := (cell_far (p := ⟨gb181, 1, none⟩) (by first | (rw [add_block]; exact hn182_1) | (show (Addr.add _ _).block ≠ _; rw [add_block]; exact hn182_1) | exact hn182_1) (.int .i64 t178)).trans hx182_0; replace hx182_1 := (cell_far (p := ⟨gb181, 1, none⟩) (by first | (rw [add_block]; exact hn182_1) | (show (Addr.add _ _).block ≠ _; rw [add_block]; exact hn182_1) | exact hn182_1) (.int .i64 t178)).trans hx182_1; replace hx182_2 := (cell_far (p := ⟨gb181, 1, none⟩) (by first | (rw [add_block]; exact hn182_1) | (show (Addr.add _ _).block ≠ _; rw [add_block]; exact hn182_1) | exact hn182_1) (.int .i64 t178)).trans hx182_2; replace hx182_3 := (cell_far (p := ⟨gb181, 1, none⟩) (by first | (rw [add_block]; exact hn182_1) | (show (Addr.add _ _).block ≠ _; rw [add_block]; exact hn182_1) | exact hn182_1) (.int .i64 t178)).trans hx182_3; replace hx182_4 := (cell_far (p := ⟨gb181, 1, none⟩) (by first | (rw [add_block]; exact hn182_1) | (show (Addr.add _ _).block ≠ _; rw [add_block]; exact hn182_1) | exact hn182_1) (.int .i64 t178)).trans hx182_4; replace hx182_0 := (cell_far (p := ⟨gb181, 2, none⟩) (by first | (rw [add_block]; exact hn182_2) | (show (Addr.add _ _).block ≠ _; rw [add_block]; exact hn182_2) | exact hn182_2) (.int .i64 t179)).trans hx182_0; replace hx182_1 := (cell_far (p := ⟨gb181, 2, none⟩) (by first | (rw [add_block]; exact hn182_2) | (show (Addr.add _ _).block ≠ _; rw [add_block]; exact hn182_2) | exact hn182_2) (.int .i64 t179)).trans hx182_1; replace hx182_2 := (cell_far (p := ⟨gb181, 2, none⟩) (by first | (rw [add_block]; exact hn182_2) | (show (Addr.add _ _).block ≠ _; rw [add_block]; exact hn182_2) | exact hn182_2) (.int .i64 t179)).trans hx182_2; replace hx182_3 := (cell_far (p := ⟨gb181, 2, none⟩) (by first | (rw [add_block]; exact hn182_2) | (show (Addr.add _ _).block ≠ _; rw [add_block]; exact hn182_2) | exact hn182_2) (.int .i64 t179)).trans hx182_3; replace hx182_4 := (cell_far (p := ⟨gb181, 2, none⟩) (by first | (rw [add_block]; exact hn182_2) | (show (Addr.add _ _).block ≠ _; rw [add_block]; exact hn182_2) | exact hn182_2) (.int .i64 t179)).trans hx182_4; (try have hy182_0 := fun (n_ : Nat) => (show (((((w53.drewN n_).setCell ⟨gb181, 0, none⟩ (.int .i64 t177)).setCell ⟨gb181, 1, none⟩ (.int .i64 t178)).setCell ⟨gb181, 2, none⟩ (.int .i64 t179))).cell? _ = some _ from hx182_0)); (try have hy182_1 := fun (n_ : Nat) => (show (((((w53.drewN n_).setCell ⟨gb181, 0, none⟩ (.int .i64 t177)).setCell ⟨gb181, 1, none⟩ (.int .i64 t178)).setCell ⟨gb181, 2, none⟩ (.int .i64 t179))).cell? _ = some _ from hx182_1)); (try have hy182_2 := fun (n_ : Nat) => (show (((((w53.drewN n_).setCell ⟨gb181, 0, none⟩ (.int .i64 t177)).setCell ⟨gb181, 1, none⟩ (.int .i64 t178)).setCell ⟨gb181, 2, none⟩ (.int .i64 t179))).cell? _ = some _ from hx182_2)); (try have hy182_3 := fun (n_ : Nat) => (show (((((w53.drewN n_).setCell ⟨gb181, 0, none⟩ (.int .i64 t177)).setCell ⟨gb181, 1, none⟩ (.int .i64 t178)).setCell ⟨gb181, 2, none⟩ (.int .i64 t179))).cell? _ = some _ from hx182_3)); (try have hy182_4 := fun (n_ : Nat) => (show (((((w53.drewN n_).setCell ⟨gb181, 0, none⟩ (.int .i64 t177)).setCell ⟨gb181, 1, none⟩ (.int .i64 t178)).setCell ⟨gb181, 2, none⟩ (.int .i64 t179))).cell? _ = some _ from hx182_4)); clear hn182_0; clear hn182_1; clear hn182_2; replace p182 := eq_true p182; replace q182 := eq_true q182)); try go_wp2_with (first | ((with_reducible refine gq 5 rfl ?_); (try (refine gate_guard (by rfl) ?_; dsimp only)); refine bx (N := 5) (cs := #[.int .i64 0, .int .i64 0, .int .i64 0]) (t := 39) ?_; clear HB BK169; intro gb174 w45 BK174 GE174 HB NB169_174 NB174_169 BK169; have hnb46 := NB174_169.out; have hnc46 := NB169_174.out; have hz47 := cs3_ BK174; have hz48 := cs2_ BK169) | (go_at_call 126; (with_reducible refine (spec_WordOk.calls ((rd_T39 l0_0 x4_3).f0) ((rd_T39 l0_0 x4_3).f1) ((rd_T39 l0_0 x4_3).f2) (l0_1.length : Int) true _ A20.out).mono ?_); rintro e w49 ⟨rfl, hb⟩; replace BK169 := bbf BK169 hb; replace BK174 := bbp3 BK174 hb; replace HB := bs HB hb; (try clear hb); have hz50 := cs3_ BK174; have hz51 := cs2_ BK169; have p176 : 0 ≤ ((ji23) : Int) := od; have q176 : (ji23) < (l0_1.length : Int) := od; obtain ⟨ad176, A176_2, c176_2, A176_4, c176_4, e176, hx176_0, hx176_1, hx176_2, hx176_3, hx176_4, hl176_2, hi176_2, hl176_4, hi176_4⟩ := at_T52 HR0_1.out (ji23) p176 q176; cases e176; replace hx176_0 := ox HB hx176_0; replace hx176_1 := ox HB hx176_1; replace hx176_2 := ox HB hx176_2; replace hx176_3 := ox HB hx176_3; replace hx176_4 := ox HB hx176_4; have HR176_2 := Aside0.mk hi176_2; have HC176_2 := Aside0.mk hl176_2; clear hi176_2 hl176_2; have HR176_4 := Aside0.mk hi176_4; have HC176_4 := Aside0.mk hl176_4; clear hi176_4 hl176_4; replace p176 := eq_true p176; replace q176 := eq_true q176) | (go_at_call 127; (with_reducible refine (spec_Entries.calls k3 ((rd_T52 l0_1 (ji23)).f0) ((rd_T52 l0_1 (ji23)).f1) _ _ ((rd_T52 l0_1 (ji23)).f2) ((rd_T52 l0_1 (ji23)).f3.f0) _ _ ((rd_T52 l0_1 (ji23)).f3.f1) x4_3 t177 t178 t179 true _ (kc HR176_2 HB) HC176_2.out (kc HR176_4 HB) HC176_4.out A26.out).mono ?_); rintro e w52 ⟨rfl, hb⟩; replace BK169 := bb BK169 hb; replace BK174 := bb BK174 hb; replace HB := bs HB hb; (try clear hb)) | ((with_reducible refine gq 6 rfl ?_); (try (refine gate_guard (by rfl) ?_; dsimp only)); refine bx (N := 6) (cs := #[.int .i64 0, .int .i64 0, .int .i64 0]) (t := 37) ?_; intro gb181 hg w53 hbox hb; have BK181 := Aside0.mk (hbox); have GW181 := Aside0.mk (ge_ hg HB); have GE181 := Aside0.mk (ge_ hg HB); replace HB := bs HB hb; have NB169_181 := Aside0.mk (nl_ hg BK169); have NB181_169 := Aside0.mk (ng_ hg BK169); replace BK169 := bb BK169 hb; have NB174_181 := Aside0.mk (nl_ hg BK174); have NB181_174 := Aside0.mk (ng_ hg BK174); replace BK174 := bb BK174 hb; clear hb hbox hg; have hnb54 := NB181_169.out; have hnc54 := NB169_181.out; have hnb55 := NB181_174.out; have hnc55 := NB174_181.out; have hz56 := cs3_ BK181; have hz57 := cs2_ BK169; have hz58 := cs3_ BK174; have p182 : 0 ≤ ((ji23) : Int) := od; have q182 : (ji23) < (l0_1.length : Int) := od; obtain ⟨ad182, A182_2, c182_2, A182_4, c182_4, e182, hx182_0, hx182_1, hx182_2, hx182_3, hx182_4, hl182_2, hi182_2, hl182_4, hi182_4⟩ := at_T52 HR0_1.out (ji23) p182 q182; obtain rfl : ad176 = ad182 := (by injection e182); have hn182_0 : ad176.block ≠ gb181 := Nat.ne_of_lt (Nat.lt_of_lt_of_le (by have := World.block_lt_of_cell? _ _ hx182_0; first | rwa [add_block] at this | exact this) GW181.out); have hn182_1 : ad176.block ≠ gb181 := Nat.ne_of_lt (Nat.lt_of_lt_of_le (by have := World.block_lt_of_cell? _ _ hx182_0; first | rwa [add_block] at this | exact this) GW181.out); have hn182_2 : ad176.block ≠ gb181 := Nat.ne_of_lt (Nat.lt_of_lt_of_le (by have := World.block_lt_of_cell? _ _ hx182_0; first | rwa [add_block] at this | exact this) GW181.out); replace hx182_0 := ox HB hx182_0; replace hx182_1 := ox HB hx182_1; replace hx182_2 := ox HB hx182_2; replace hx182_3 := ox HB hx182_3; replace hx182_4 := ox HB hx182_4; have HR182_2 := Aside0.mk hi182_2; have HC182_2 := Aside0.mk hl182_2; clear hi182_2 hl182_2; have HR182_4 := Aside0.mk hi182_4; have HC182_4 := Aside0.mk hl182_4; clear hi182_4 hl182_4; replace hx182_0 := (cell_far (p := ⟨gb181, 0, none⟩) (by first | (rw [add_block]; exact hn182_0) | (show (Addr.add _ _).block ≠ _; rw [add_block]; exact hn182_0) | exact hn182_0) (.int .i64 t177)).trans hx182_0; replace hx182_1 := (cell_far (p := ⟨gb181, 0, none⟩) (by first | (rw [add_block]; exact hn182_0) | (show (Addr.add _ _).block ≠ _; rw [add_block]; exact hn182_0) | exact hn182_0) (.int .i64 t177)).trans hx182_1; replace hx182_2 := (cell_far (p := ⟨gb181, 0, none⟩) (by first | (rw [add_block]; exact hn182_0) | (show (Addr.add _ _).block ≠ _; rw [add_block]; exact hn182_0) | exact hn182_0) (.int .i64 t177)).trans hx182_2; replace hx182_3 := (cell_far (p := ⟨gb181, 0, none⟩) (by first | (rw [add_block]; exact hn182_0) | (show (Addr.add _ _).block ≠ _; rw [add_block]; exact hn182_0) | exact hn182_0) (.int .i64 t177)).trans hx182_3; replace hx182_4 := (cell_far (p := ⟨gb181, 0, none⟩) (by first | (rw [add_block]; exact hn182_0) | (show (Addr.add _ _).block ≠ _; rw [add_block]; exact hn182_0) | exact hn182_0) (.int .i64 t177)).trans hx182_4; replace hx182_0 := (cell_far (p := ⟨gb181, 1, none⟩) (by first | (rw [add_block]; exact hn182_1) | (show (Addr.add _ _).block ≠ _; rw [add_block]; exact hn182_1) | exact hn182_1) (.int .i64 t178)).trans hx182_0; replace hx182_1 := (cell_far (p := ⟨gb181, 1, none⟩) (by first | (rw [add_block]; exact hn182_1) | (show (Addr.add _ _).block ≠ _; rw [add_block]; exact hn182_1) | exact hn182_1) (.int .i64 t178)).trans hx182_1; replace hx182_2 := (cell_far (p := ⟨gb181, 1, none⟩) (by first | (rw [add_block]; exact hn182_1) | (show (Addr.add _ _).block ≠ _; rw [add_block]; exact hn182_1) | exact hn182_1) (.int .i64 t178)).trans hx182_2; replace hx182_3 := (cell_far (p := ⟨gb181, 1, none⟩) (by first | (rw [add_block]; exact hn182_1) | (show (Addr.add _ _).block ≠ _; rw [add_block]; exact hn182_1) | exact hn182_1) (.int .i64 t178)).trans hx182_3; replace hx182_4 := (cell_far (p := ⟨gb181, 1, none⟩) (by first | (rw [add_block]; exact hn182_1) | (show (Addr.add _ _).block ≠ _; rw [add_block]; exact hn182_1) | exact hn182_1) (.int .i64 t178)).trans hx182_4; replace hx182_0 := (cell_far (p := ⟨gb181, 2, none⟩) (by first | (rw [add_block]; exact hn182_2) | (show (Addr.add _ _).block ≠ _; rw [add_block]; exact hn182_2) | exact hn182_2) (.int .i64 t179)).trans hx182_0; replace hx182_1 := (cell_far (p := ⟨gb181, 2, none⟩) (by first | (rw [add_block]; exact hn182_2) | (show (Addr.add _ _).block ≠ _; rw [add_block]; exact hn182_2) | exact hn182_2) (.int .i64 t179)).trans hx182_1; replace hx182_2 := (cell_far (p := ⟨gb181, 2, none⟩) (by first | (rw [add_block]; exact hn182_2) | (show (Addr.add _ _).block ≠ _; rw [add_block]; exact hn182_2) | exact hn182_2) (.int .i64 t179)).trans hx182_2; replace hx182_3 := (cell_far (p := ⟨gb181, 2, none⟩) (by first | (rw [add_block]; exact hn182_2) | (show (Addr.add _ _).block ≠ _; rw [add_block]; exact hn182_2) | exact hn182_2) (.int .i64 t179)).trans hx182_3; replace hx182_4 := (cell_far (p := ⟨gb181, 2, none⟩) (by first | (rw [add_block]; exact hn182_2) | (show (Addr.add _ _).block ≠ _; rw [add_block]; exact hn182_2) | exact hn182_2) (.int .i64 t179)).trans hx182_4; (try have hy182_0 := fun (n_ : Nat) => (show (((((w53.drewN n_).setCell ⟨gb181, 0, none⟩ (.int .i64 t177)).setCell ⟨gb181, 1, none⟩ (.int .i64 t178)).setCell ⟨gb181, 2, none⟩ (.int .i64 t179))).cell? _ = some _ from hx182_0)); (try have hy182_1 := fun (n_ : Nat) => (show (((((w53.drewN n_).setCell ⟨gb181, 0, none⟩ (.int .i64 t177)).setCell ⟨gb181, 1, none⟩ (.int .i64 t178)).setCell ⟨gb181, 2, none⟩ (.int .i64 t179))).cell? _ = some _ from hx182_1)); (try have hy182_2 := fun (n_ : Nat) => (show (((((w53.drewN n_).setCell ⟨gb181, 0, none⟩ (.int .i64 t177)).setCell ⟨gb181, 1, none⟩ (.int .i64 t178)).setCell ⟨gb181, 2, none⟩ (.int .i64 t179))).cell? _ = some _ from hx182_2)); (try have hy182_3 := fun (n_ : Nat) => (show (((((w53.drewN n_).setCell ⟨gb181, 0, none⟩ (.int .i64 t177)).setCell ⟨gb181, 1, none⟩ (.int .i64 t178)).setCell ⟨gb181, 2, none⟩ (.int .i64 t179))).cell? _ = some _ from hx182_3)); (try have hy182_4 := fun (n_ : Nat) => (show (((((w53.drewN n_).setCell ⟨gb181, 0, none⟩ (.int .i64 t177)).setCell ⟨gb181, 1, none⟩ (.int .i64 t178)).setCell ⟨gb181, 2, none⟩ (.int .i64 t179))).cell? _ = some _ from hx182_4)); clear hn182_0; clear hn182_1; clear hn182_2; replace p182 := eq_true p182; replace q182 := eq_true q182)))
        go_ret
        exact ⟨by first | rfl | (simp [errW_none, errW_some] <;> rfl) | (simp only [← hji23]; first | rfl | (simp [errW_none, errW_some] <;> rfl)) | (simp [*, errW_none, errW_some] <;> rfl), tb HB⟩
       rw [if_pos c28] at H
       have c28b0 : (((rd_T52 l0_1 (ji23)).f0) == ((rd_T39 l0_0 x4_3).f2)) = true := beq_iff_eq.mpr c28
       have c28b1 : (((rd_T52 l0_1 (ji23)).f0) != ((rd_T39 l0_0 x4_3).f2)) = false := bne_eq_false_iff_eq.mpr c28
       clear c28
       have H' := Aside0.mk H
       clear H
       have hz29 := cs2_ BK169
       have p173 : 0 ≤ (x4_3 : Int) := od
       have q173 : x4_3 < (l0_0.length : Int) := od
       obtain ⟨ad173, e173, hx173_0, hx173_1, hx173_2⟩ := at_T39 HR0_0.out x4_3 p173 q173
       cases e173
       replace hx173_0 := ox HB hx173_0
       replace hx173_1 := ox HB hx173_1
       replace hx173_2 := ox HB hx173_2
       replace p173 := eq_true p173
       replace q173 := eq_true q173
       go_wp2_with (first | ((with_reducible refine gq 5 rfl ?_); (try (refine gate_guard (by rfl) ?_; dsimp only)); refine bx1 HB BK169 (N := 5) (cs := #[.int .i64 0, .int .i64 0, .int .i64 0]) (t := 39) ?_; clear HB BK169; intro gb174 w30 BK174 GE174 HB NB169_174 NB174_169 BK169; have hnb31 := NB174_169.out; have hnc31 := NB169_174.out; have hz32 := cs3_ BK174; have hz33 := cs2_ BK169) | (go_at_call 126; (with_reducible refine (spec_WordOk.calls ((rd_T39 l0_0 x4_3).f0) ((rd_T39 l0_0 x4_3).f1) ((rd_T39 l0_0 x4_3).f2) (l0_1.length : Int) true _ A20.out).mono ?_); rintro e w34 ⟨rfl, hb⟩; replace BK169 := bbf BK169 hb; replace BK174 := bbp3 BK174 hb; replace HB := bs HB hb; (try clear hb); have hz35 := cs3_ BK174; have hz36 := cs2_ BK169; have p176 : 0 ≤ ((ji23) : Int) := od; have q176 : (ji23) < (l0_1.length : Int) := od; obtain ⟨ad176, A176_2, c176_2, A176_4, c176_4, e176, hx176_0, hx176_1, hx176_2, hx176_3, hx176_4, hl176_2, hi176_2, hl176_4, hi176_4⟩ := at_T52 HR0_1.out (ji23) p176 q176; cases e176; replace hx176_0 := ox HB hx176_0; replace hx176_1 := ox HB hx176_1; replace hx176_2 := ox HB hx176_2; replace hx176_3 := ox HB hx176_3; replace hx176_4 := ox HB hx176_4; have HR176_2 := Aside0.mk hi176_2; have HC176_2 := Aside0.mk hl176_2; clear hi176_2 hl176_2; have HR176_4 := Aside0.mk hi176_4; have HC176_4 := Aside0.mk hl176_4; clear hi176_4 hl176_4; replace p176 := eq_true p176; replace q176 := eq_true q176) | (go_at_call 127; (with_reducible refine (spec_Entries.calls k3 ((rd_T52 l0_1 (ji23)).f0) ((rd_T52 l0_1 (ji23)).f1) _ _ ((rd_T52 l0_1 (ji23)).f2) ((rd_T52 l0_1 (ji23)).f3.f0) _ _ ((rd_T52 l0_1 (ji23)).f3.f1) x4_3 t177 t178 t179 true _ (kc HR176_2 HB) HC176_2.out (kc HR176_4 HB) HC176_4.out A26.out).mono ?_); rintro e w37 ⟨rfl, hb⟩; replace BK169 := bb BK169 hb; replace BK174 := bb BK174 hb; replace HB := bs HB hb; (try clear hb)) | ((with_reducible refine gq 6 rfl ?_); (try (refine gate_guard (by rfl) ?_; dsimp only)); refine bx (N := 6) (cs := #[.int .i64 0, .int .i64 0, .int .i64 0]) (t := 37) ?_; intro gb181 hg w38 hbox hb; have BK181 := Aside0.mk (hbox); have GW181 := Aside0.mk (ge_ hg HB); have GE181 := Aside0.mk (ge_ hg HB); replace HB := bs HB hb; have NB169_181 := Aside0.mk (nl_ hg BK169); have NB181_169 := Aside0.mk (ng_ hg BK169); replace BK169 := bb BK169 hb; have NB174_181 := Aside0.mk (nl_ hg BK174); have NB181_174 := Aside0.mk (ng_ hg BK174); replace BK174 := bb BK174 hb; clear hb hbox hg; have hnb39 := NB181_169.out; have hnc39 := NB169_181.out; have hnb40 := NB181_174.out; have hnc40 := NB174_181.out; have hz41 := cs3_ BK181; have hz42 := cs2_ BK169; have hz43 := cs3_ BK174; have p182 : 0 ≤ ((ji23) : Int) := od; have q182 : (ji23) < (l0_1.length : Int) := od; obtain ⟨ad182, A182_2, c182_2, A182_4, c182_4, e182, hx182_0, hx182_1, hx182_2, hx182_3, hx182_4, hl182_2, hi182_2, hl182_4, hi182_4⟩ := at_T52 HR0_1.out (ji23) p182 q182; obtain rfl : ad176 = ad182 := (by injection e182); have hn182_0 : ad176.block ≠ gb181 := Nat.ne_of_lt (Nat.lt_of_lt_of_le (by have := World.block_lt_of_cell? _ _ hx182_0; first | rwa [add_block] at this | exact this) GW181.out); have hn182_1 : ad176.block ≠ gb181 := Nat.ne_of_lt (Nat.lt_of_lt_of_le (by have := World.block_lt_of_cell? _ _ hx182_0; first | rwa [add_block] at this | exact this) GW181.out); have hn182_2 : ad176.block ≠ gb181 := Nat.ne_of_lt (Nat.lt_of_lt_of_le (by have := World.block_lt_of_cell? _ _ hx182_0; first | rwa [add_block] at this | exact this) GW181.out); replace hx182_0 := ox HB hx182_0; replace hx182_1 := ox HB hx182_1; replace hx182_2 := ox HB hx182_2; replace hx182_3 := ox HB hx182_3; replace hx182_4 := ox HB hx182_4; have HR182_2 := Aside0.mk hi182_2; have HC182_2 := Aside0.mk hl182_2; clear hi182_2 hl182_2; have HR182_4 := Aside0.mk hi182_4; have HC182_4 := Aside0.mk hl182_4; clear hi182_4 hl182_4; replace hx182_0 := (cell_far (p := ⟨gb181, 0, none⟩) (by first | (rw [add_block]; exact hn182_0) | (show (Addr.add _ _).block ≠ _; rw [add_block]; exact hn182_0) | exact hn182_0) (.int .i64 t177)).trans hx182_0; replace hx182_1 := (cell_far (p := ⟨gb181, 0, none⟩) (by first | (rw [add_block]; exact hn182_0) | (show (Addr.add _ _).block ≠ _; rw [add_block]; exact hn182_0) | exact hn182_0) (.int .i64 t177)).trans hx182_1; replace hx182_2 := (cell_far (p := ⟨gb181, 0, none⟩) (by first | (rw [add_block]; exact hn182_0) | (show (Addr.add _ _).block ≠ _; rw [add_block]; exact hn182_0) | exact hn182_0) (.int .i64 t177)).trans hx182_2; replace hx182_3 := (cell_far (p := ⟨gb181, 0, none⟩) (by first | (rw [add_block]; exact hn182_0) | (show (Addr.add _ _).block ≠ _; rw [add_block]; exact hn182_0) | exact hn182_0) (.int .i64 t177)).trans hx182_3; replace hx182_4 := (cell_far (p := ⟨gb181, 0, none⟩) (by first | (rw [add_block]; exact hn182_0) | (show (Addr.add _ _).block ≠ _; rw [add_block]; exact hn182_0) | exact hn182_0) (.int .i64 t177)).trans hx182_4; replace hx182_0 := (cell_far (p := ⟨gb181, 1, none⟩) (by first | (rw [add_block]; exact hn182_1) | (show (Addr.add _ _).block ≠ _; rw [add_block]; exact hn182_1) | exact hn182_1) (.int .i64 t178)).trans hx182_0; replace hx182_1 := (cell_far (p := ⟨gb181, 1, none⟩) (by first | (rw [add_block]; exact hn182_1) | (show (Addr.add _ _).block ≠ _; rw [add_block]; exact hn182_1) | exact hn182_1) (.int .i64 t178)).trans hx182_1; replace hx182_2 := (cell_far (p := ⟨gb181, 1, none⟩) (by first | (rw [add_block]; exact hn182_1) | (show (Addr.add _ _).block ≠ _; rw [add_block]; exact hn182_1) | exact hn182_1) (.int .i64 t178)).trans hx182_2; replace hx182_3 := (cell_far (p := ⟨gb181, 1, none⟩) (by first | (rw [add_block]; exact hn182_1) | (show (Addr.add _ _).block ≠ _; rw [add_block]; exact hn182_1) | exact hn182_1) (.int .i64 t178)).trans hx182_3; replace hx182_4 := (cell_far (p := ⟨gb181, 1, none⟩) (by first | (rw [add_block]; exact hn182_1) | (show (Addr.add _ _).block ≠ _; rw [add_block]; exact hn182_1) | exact hn182_1) (.int .i64 t178)).trans hx182_4; replace hx182_0 := (cell_far (p := ⟨gb181, 2, none⟩) (by first | (rw [add_block]; exact hn182_2) | (show (Addr.add _ _).block ≠ _; rw [add_block]; exact hn182_2) | exact hn182_2) (.int .i64 t179)).trans hx182_0; replace hx182_1 := (cell_far (p := ⟨gb181, 2, none⟩) (by first | (rw [add_block]; exact hn182_2) | (show (Addr.add _ _).block ≠ _; rw [add_block]; exact hn182_2) | exact hn182_2) (.int .i64 t179)).trans hx182_1; replace hx182_2 := (cell_far (p := ⟨gb181, 2, none⟩) (by first | (rw [add_block]; exact hn182_2) | (show (Addr.add _ _).block ≠ _; rw [add_block]; exact hn182_2) | exact hn182_2) (.int .i64 t179)).trans hx182_2; replace hx182_3 := (cell_far (p := ⟨gb181, 2, none⟩) (by first | (rw [add_block]; exact hn182_2) | (show (Addr.add _ _).block ≠ _; rw [add_block]; exact hn182_2) | exact hn182_2) (.int .i64 t179)).trans hx182_3; replace hx182_4 := (cell_far (p := ⟨gb181, 2, none⟩) (by first | (rw [add_block]; exact hn182_2) | (show (Addr.add _ _).block ≠ _; rw [add_block]; exact hn182_2) | exact hn182_2) (.int .i64 t179)).trans hx182_4; (try have hy182_0 := fun (n_ : Nat) => (show (((((w38.drewN n_).setCell ⟨gb181, 0, none⟩ (.int .i64 t177)).setCell ⟨gb181, 1, none⟩ (.int .i64 t178)).setCell ⟨gb181, 2, none⟩ (.int .i64 t179))).cell? _ = some _ from hx182_0)); (try have hy182_1 := fun (n_ : Nat) => (show (((((w38.drewN n_).setCell ⟨gb181, 0, none⟩ (.int .i64 t177)).setCell ⟨gb181, 1, none⟩ (.int .i64 t178)).setCell ⟨gb181, 2, none⟩ (.int .i64 t179))).cell? _ = some _ from hx182_1)); (try have hy182_2 := fun (n_ : Nat) => (show (((((w38.drewN n_).setCell ⟨gb181, 0, none⟩ (.int .i64 t177)).setCell ⟨gb181, 1, none⟩ (.int .i64 t178)).setCell ⟨gb181, 2, none⟩ (.int .i64 t179))).cell? _ = some _ from hx182_2)); (try have hy182_3 := fun (n_ : Nat) => (show (((((w38.drewN n_).setCell ⟨gb181, 0, none⟩ (.int .i64 t177)).setCell ⟨gb181, 1, none⟩ (.int .i64 t178)).setCell ⟨gb181, 2, none⟩ (.int .i64 t179))).cell? _ = some _ from hx182_3)); (try have hy182_4 := fun (n_ : Nat) => (show (((((w38.drewN n_).setCell ⟨gb181, 0, none⟩ (.int .i64 t177)).setCell ⟨gb181, 1, none⟩ (.int .i64 t178)).setCell ⟨gb181, 2, none⟩ (.int .i64 t179))).cell? _ = some _ from hx182_4)); clear hn182_0; clear hn182_1; clear hn182_2; replace p182 := eq_true p182; replace q182 := eq_true q182))
       repeat (go_quiet (first | ((with_reducible refine gq 5 rfl ?_); (try (refine gate_guard (by rfl) ?_; dsimp only)); refine bx1 HB BK169 (N := 5) (cs := #[.int .i64 0, .int .i64 0, .int .i64 0]) (t := 39) ?_; clear HB BK169; intro gb174 w30 BK174 GE174 HB NB169_174 NB174_169 BK169; have hnb31 := NB174_169.out; have hnc31 := NB169_174.out; have hz32 := cs3_ BK174; have hz33 := cs2_ BK169) | (go_at_call 126; (with_reducible refine (spec_WordOk.calls ((rd_T39 l0_0 x4_3).f0) ((rd_T39 l0_0 x4_3).f1) ((rd_T39 l0_0 x4_3).f2) (l0_1.length : Int) true _ A20.out).mono ?_); rintro e w34 ⟨rfl, hb⟩; replace BK169 := bbf BK169 hb; replace BK174 := bbp3 BK174 hb; replace HB := bs HB hb; (try clear hb); have hz35 := cs3_ BK174; have hz36 := cs2_ BK169; have p176 : 0 ≤ ((ji23) : Int) := od; have q176 : (ji23) < (l0_1.length : Int) := od; obtain ⟨ad176, A176_2, c176_2, A176_4, c176_4, e176, hx176_0, hx176_1, hx176_2, hx176_3, hx176_4, hl176_2, hi176_2, hl176_4, hi176_4⟩ := at_T52 HR0_1.out (ji23) p176 q176; cases e176; replace hx176_0 := ox HB hx176_0; replace hx176_1 := ox HB hx176_1; replace hx176_2 := ox HB hx176_2; replace hx176_3 := ox HB hx176_3; replace hx176_4 := ox HB hx176_4; have HR176_2 := Aside0.mk hi176_2; have HC176_2 := Aside0.mk hl176_2; clear hi176_2 hl176_2; have HR176_4 := Aside0.mk hi176_4; have HC176_4 := Aside0.mk hl176_4; clear hi176_4 hl176_4; replace p176 := eq_true p176; replace q176 := eq_true q176) | (go_at_call 127; (with_reducible refine (spec_Entries.calls k3 ((rd_T52 l0_1 (ji23)).f0) ((rd_T52 l0_1 (ji23)).f1) _ _ ((rd_T52 l0_1 (ji23)).f2) ((rd_T52 l0_1 (ji23)).f3.f0) _ _ ((rd_T52 l0_1 (ji23)).f3.f1) x4_3 t177 t178 t179 true _ (kc HR176_2 HB) HC176_2.out (kc HR176_4 HB) HC176_4.out A26.out).mono ?_); rintro e w37 ⟨rfl, hb⟩; replace BK169 := bb BK169 hb; replace BK174 := bb BK174 hb; replace HB := bs HB hb; (try clear hb)) | ((with_reducible refine gq 6 rfl ?_); (try (refine gate_guard (by rfl) ?_; dsimp only)); refine bx1 HB BK169 (N := 6) (cs := #[.int .i64 0, .int .i64 0, .int .i64 0]) (t := 37) ?_; intro gb181 hg w38 hbox hb; have BK181 := Aside0.mk (hbox); have GW181 := Aside0.mk (ge_ hg HB); have GE181 := Aside0.mk (ge_ hg HB); replace HB := bs HB hb; have NB169_181 := Aside0.mk (nl_ hg BK169); have NB181_169 := Aside0.mk (ng_ hg BK169); replace BK169 := bb BK169 hb; have NB174_181 := Aside0.mk (nl_ hg BK174); have NB181_174 := Aside0.mk (ng_ hg BK174); replace BK174 := bb BK174 hb; clear hb hbox hg; have hnb39 := NB181_169.out; have hnc39 := NB169_181.out; have hnb40 := NB181_174.out; have hnc40 := NB174_181.out; have hz41 := cs3_ BK181; have hz42 := cs2_ BK169; have hz43 := cs3_ BK174; have p182 : 0 ≤ ((ji23) : Int) := od; have q182 : (ji23) < (l0_1.length : Int) := od; obtain ⟨ad182, A182_2, c182_2, A182_4, c182_4, e182, hx182_0, hx182_1, hx182_2, hx182_3, hx182_4, hl182_2, hi182_2, hl182_4, hi182_4⟩ := at_T52 HR0_1.out (ji23) p182 q182; obtain rfl : ad176 = ad182 := (by injection e182); have hn182_0 : ad176.block ≠ gb181 := Nat.ne_of_lt (Nat.lt_of_lt_of_le (by have := World.block_lt_of_cell? _ _ hx182_0; first | rwa [add_block] at this | exact this) GW181.out); have hn182_1 : ad176.block ≠ gb181 := Nat.ne_of_lt (Nat.lt_of_lt_of_le (by have := World.block_lt_of_cell? _ _ hx182_0; first | rwa [add_block] at this | exact this) GW181.out); have hn182_2 : ad176.block ≠ gb181 := Nat.ne_of_lt (Nat.lt_of_lt_of_le (by have := World.block_lt_of_cell? _ _ hx182_0; first | rwa [add_block] at this | exact this) GW181.out); replace hx182_0 := ox HB hx182_0; replace hx182_1 := ox HB hx182_1; replace hx182_2 := ox HB hx182_2; replace hx182_3 := ox HB hx182_3; replace hx182_4 := ox HB hx182_4; have HR182_2 := Aside0.mk hi182_2; have HC182_2 := Aside0.mk hl182_2; clear hi182_2 hl182_2; have HR182_4 := Aside0.mk hi182_4; have HC182_4 := Aside0.mk hl182_4; clear hi182_4 hl182_4; replace hx182_0 := (cell_far (p := ⟨gb181, 0, none⟩) (by first | (rw [add_block]; exact hn182_0) | (show (Addr.add _ _).block ≠ _; rw [add_block]; exact hn182_0) | exact hn182_0) (.int .i64 t177)).trans hx182_0; replace hx182_1 := (cell_far (p := ⟨gb181, 0, none⟩) (by first | (rw [add_block]; exact hn182_0) | (show (Addr.add _ _).block ≠ _; rw [add_block]; exact hn182_0) | exact hn182_0) (.int .i64 t177)).trans hx182_1; replace hx182_2 := (cell_far (p := ⟨gb181, 0, none⟩) (by first | (rw [add_block]; exact hn182_0) | (show (Addr.add _ _).block ≠ _; rw [add_block]; exact hn182_0) | exact hn182_0) (.int .i64 t177)).trans hx182_2; replace hx182_3 := (cell_far (p := ⟨gb181, 0, none⟩) (by first | (rw [add_block]; exact hn182_0) | (show (Addr.add _ _).block ≠ _; rw [add_block]; exact hn182_0) | exact hn182_0) (.int .i64 t177)).trans hx182_3; replace hx182_4 := (cell_far (p := ⟨gb181, 0, none⟩) (by first | (rw [add_block]; exact hn182_0) | (show (Addr.add _ _).block ≠ _; rw [add_block]; exact hn182_0) | exact hn182_0) (.int .i64 t177)).trans hx182_4; replace hx182_0 := (cell_far (p := ⟨gb181, 1, none⟩) (by first | (rw [add_block]; exact hn182_1) | (show (Addr.add _ _).block ≠ _; rw [add_block]; exact hn182_1) | exact hn182_1) (.int .i64 t178)).trans hx182_0; replace hx182_1 := (cell_far (p := ⟨gb181, 1, none⟩) (by first | (rw [add_block]; exact hn182_1) | (show (Addr.add _ _).block ≠ _; rw [add_block]; exact hn182_1) | exact hn182_1) (.int .i64 t178)).trans hx182_1; replace hx182_2 := (cell_far (p := ⟨gb181, 1, none⟩) (by first | (rw [add_block]; exact hn182_1) | (show (Addr.add _ _).block ≠ _; rw [add_block]; exact hn182_1) | exact hn182_1) (.int .i64 t178)).trans hx182_2; replace hx182_3 := (cell_far (p := ⟨gb181, 1, none⟩) (by first | (rw [add_block]; exact hn182_1) | (show (Addr.add _ _).block ≠ _; rw [add_block]; exact hn182_1) | exact hn182_1) (.int .i64 t178)).trans hx182_3; replace hx182_4 := (cell_far (p := ⟨gb181, 1, none⟩) (by first | (rw [add_block]; exact hn182_1) | (show (Addr.add _ _).block ≠ _; rw [add_block]; exact hn182_1) | exact hn182_1) (.int .i64 t178)).trans hx182_4; replace hx182_0 := (cell_far (p := ⟨gb181, 2, none⟩) (by first | (rw [add_block]; exact hn182_2) | (show (Addr.add _ _).block ≠ _; rw [add_block]; exact hn182_2) | exact hn182_2) (.int .i64 t179)).trans hx182_0; replace hx182_1 := (cell_far (p := ⟨gb181, 2, none⟩) (by first | (rw [add_block]; exact hn182_2) | (show (Addr.add _ _).block ≠ _; rw [add_block]; exact hn182_2) | exact hn182_2) (.int .i64 t179)).trans hx182_1; replace hx182_2 := (cell_far (p := ⟨gb181, 2, none⟩) (by first | (rw [add_block]; exact hn182_2) | (show (Addr.add _ _).block ≠ _; rw [add_block]; exact hn182_2) | exact hn182_2) (.int .i64 t179)).trans hx182_2; replace hx182_3 := (cell_far (p := ⟨gb181, 2, none⟩) (by first | (rw [add_block]; exact hn182_2) | (show (Addr.add _ _).block ≠ _; rw [add_block]; exact hn182_2) | exact hn182_2) (.int .i64 t179)).trans hx182_3; replace hx182_4 := (cell_far (p := ⟨gb181, 2, none⟩) (by first | (rw [add_block]; exact hn182_2) | (show (Addr.add _ _).block ≠ _; rw [add_block]; exact hn182_2) | exact hn182_2) (.int .i64 t179)).trans hx182_4; (try have hy182_0 := fun (n_ : Nat) => (show (((((w38.drewN n_).setCell ⟨gb181, 0, none⟩ (.int .i64 t177)).setCell ⟨gb181, 1, none⟩ (.int .i64 t178)).setCell ⟨gb181, 2, none⟩ (.int .i64 t179))).cell? _ = some _ from hx182_0)); (try have hy182_1 := fun (n_ : Nat) => (show (((((w38.drewN n_).setCell ⟨gb181, 0, none⟩ (.int .i64 t177)).setCell ⟨gb181, 1, none⟩ (.int .i64 t178)).setCell ⟨gb181, 2, none⟩ (.int .i64 t179))).cell? _ = some _ from hx182_1)); (try have hy182_2 := fun (n_ : Nat) => (show (((((w38.drewN n_).setCell ⟨gb181, 0, none⟩ (.int .i64 t177)).setCell ⟨gb181, 1, none⟩ (.int .i64 t178)).setCell ⟨gb181, 2, none⟩ (.int .i64 t179))).cell? _ = some _ from hx182_2)); (try have hy182_3 := fun (n_ : Nat) => (show (((((w38.drewN n_).setCell ⟨gb181, 0, none⟩ (.int .i64 t177)).setCell ⟨gb181, 1, none⟩ (.int .i64 t178)).setCell ⟨gb181, 2, none⟩ (.int .i64 t179))).cell? _ = some _ from hx182_3)); (try have hy182_4 := fun (n_ : Nat) => (show (((((w38.drewN n_).setCell ⟨gb181, 0, none⟩ (.int .i64 t177)).setCell ⟨gb181, 1, none⟩ (.int .i64 t178)).setCell ⟨gb181, 2, none⟩ (.int .i64 t179))).cell? _ = some _ from hx182_4)); clear hn182_0; clear hn182_1; clear hn182_2; replace p182 := eq_true p182; replace q182 := eq_true q182)); try go_wp2_with (first | ((with_reducible refine gq 5 rfl ?_); (try (refine gate_guard (by rfl) ?_; dsimp only)); refine bx (N := 5) (cs := #[.int .i64 0, .int .i64 0, .int .i64 0]) (t := 39) ?_; clear HB BK169; intro gb174 w30 BK174 GE174 HB NB169_174 NB174_169 BK169; have hnb31 := NB174_169.out; have hnc31 := NB169_174.out; have hz32 := cs3_ BK174; have hz33 := cs2_ BK169) | (go_at_call 126; (with_reducible refine (spec_WordOk.calls ((rd_T39 l0_0 x4_3).f0) ((rd_T39 l0_0 x4_3).f1) ((rd_T39 l0_0 x4_3).f2) (l0_1.length : Int) true _ A20.out).mono ?_); rintro e w34 ⟨rfl, hb⟩; replace BK169 := bbf BK169 hb; replace BK174 := bbp3 BK174 hb; replace HB := bs HB hb; (try clear hb); have hz35 := cs3_ BK174; have hz36 := cs2_ BK169; have p176 : 0 ≤ ((ji23) : Int) := od; have q176 : (ji23) < (l0_1.length : Int) := od; obtain ⟨ad176, A176_2, c176_2, A176_4, c176_4, e176, hx176_0, hx176_1, hx176_2, hx176_3, hx176_4, hl176_2, hi176_2, hl176_4, hi176_4⟩ := at_T52 HR0_1.out (ji23) p176 q176; cases e176; replace hx176_0 := ox HB hx176_0; replace hx176_1 := ox HB hx176_1; replace hx176_2 := ox HB hx176_2; replace hx176_3 := ox HB hx176_3; replace hx176_4 := ox HB hx176_4; have HR176_2 := Aside0.mk hi176_2; have HC176_2 := Aside0.mk hl176_2; clear hi176_2 hl176_2; have HR176_4 := Aside0.mk hi176_4; have HC176_4 := Aside0.mk hl176_4; clear hi176_4 hl176_4; replace p176 := eq_true p176; replace q176 := eq_true q176) | (go_at_call 127; (with_reducible refine (spec_Entries.calls k3 ((rd_T52 l0_1 (ji23)).f0) ((rd_T52 l0_1 (ji23)).f1) _ _ ((rd_T52 l0_1 (ji23)).f2) ((rd_T52 l0_1 (ji23)).f3.f0) _ _ ((rd_T52 l0_1 (ji23)).f3.f1) x4_3 t177 t178 t179 true _ (kc HR176_2 HB) HC176_2.out (kc HR176_4 HB) HC176_4.out A26.out).mono ?_); rintro e w37 ⟨rfl, hb⟩; replace BK169 := bb BK169 hb; replace BK174 := bb BK174 hb; replace HB := bs HB hb; (try clear hb)) | ((with_reducible refine gq 6 rfl ?_); (try (refine gate_guard (by rfl) ?_; dsimp only)); refine bx (N := 6) (cs := #[.int .i64 0, .int .i64 0, .int .i64 0]) (t := 37) ?_; intro gb181 hg w38 hbox hb; have BK181 := Aside0.mk (hbox); have GW181 := Aside0.mk (ge_ hg HB); have GE181 := Aside0.mk (ge_ hg HB); replace HB := bs HB hb; have NB169_181 := Aside0.mk (nl_ hg BK169); have NB181_169 := Aside0.mk (ng_ hg BK169); replace BK169 := bb BK169 hb; have NB174_181 := Aside0.mk (nl_ hg BK174); have NB181_174 := Aside0.mk (ng_ hg BK174); replace BK174 := bb BK174 hb; clear hb hbox hg; have hnb39 := NB181_169.out; have hnc39 := NB169_181.out; have hnb40 := NB181_174.out; have hnc40 := NB174_181.out; have hz41 := cs3_ BK181; have hz42 := cs2_ BK169; have hz43 := cs3_ BK174; have p182 : 0 ≤ ((ji23) : Int) := od; have q182 : (ji23) < (l0_1.length : Int) := od; obtain ⟨ad182, A182_2, c182_2, A182_4, c182_4, e182, hx182_0, hx182_1, hx182_2, hx182_3, hx182_4, hl182_2, hi182_2, hl182_4, hi182_4⟩ := at_T52 HR0_1.out (ji23) p182 q182; obtain rfl : ad176 = ad182 := (by injection e182); have hn182_0 : ad176.block ≠ gb181 := Nat.ne_of_lt (Nat.lt_of_lt_of_le (by have := World.block_lt_of_cell? _ _ hx182_0; first | rwa [add_block] at this | exact this) GW181.out); have hn182_1 : ad176.block ≠ gb181 := Nat.ne_of_lt (Nat.lt_of_lt_of_le (by have := World.block_lt_of_cell? _ _ hx182_0; first | rwa [add_block] at this | exact this) GW181.out); have hn182_2 : ad176.block ≠ gb181 := Nat.ne_of_lt (Nat.lt_of_lt_of_le (by have := World.block_lt_of_cell? _ _ hx182_0; first | rwa [add_block] at this | exact this) GW181.out); replace hx182_0 := ox HB hx182_0; replace hx182_1 := ox HB hx182_1; replace hx182_2 := ox HB hx182_2; replace hx182_3 := ox HB hx182_3; replace hx182_4 := ox HB hx182_4; have HR182_2 := Aside0.mk hi182_2; have HC182_2 := Aside0.mk hl182_2; clear hi182_2 hl182_2; have HR182_4 := Aside0.mk hi182_4; have HC182_4 := Aside0.mk hl182_4; clear hi182_4 hl182_4; replace hx182_0 := (cell_far (p := ⟨gb181, 0, none⟩) (by first | (rw [add_block]; exact hn182_0) | (show (Addr.add _ _).block ≠ _; rw [add_block]; exact hn182_0) | exact hn182_0) (.int .i64 t177)).trans hx182_0; replace hx182_1 := (cell_far (p := ⟨gb181, 0, none⟩) (by first | (rw [add_block]; exact hn182_0) | (show (Addr.add _ _).block ≠ _; rw [add_block]; exact hn182_0) | exact hn182_0) (.int .i64 t177)).trans hx182_1; replace hx182_2 := (cell_far (p := ⟨gb181, 0, none⟩) (by first | (rw [add_block]; exact hn182_0) | (show (Addr.add _ _).block ≠ _; rw [add_block]; exact hn182_0) | exact hn182_0) (.int .i64 t177)).trans hx182_2; replace hx182_3 := (cell_far (p := ⟨gb181, 0, none⟩) (by first | (rw [add_block]; exact hn182_0) | (show (Addr.add _ _).block ≠ _; rw [add_block]; exact hn182_0) | exact hn182_0) (.int .i64 t177)).trans hx182_3; replace hx182_4 := (cell_far (p := ⟨gb181, 0, none⟩) (by first | (rw [add_block]; exact hn182_0) | (show (Addr.add _ _).block ≠ _; rw [add_block]; exact hn182_0) | exact hn182_0) (.int .i64 t177)).trans hx182_4; replace hx182_0 := (cell_far (p := ⟨gb181, 1, none⟩) (by first | (rw [add_block]; exact hn182_1) | (show (Addr.add _ _).block ≠ _; rw [add_block]; exact hn182_1) | exact hn182_1) (.int .i64 t178)).trans hx182_0; replace hx182_1 := (cell_far (p := ⟨gb181, 1, none⟩) (by first | (rw [add_block]; exact hn182_1) | (show (Addr.add _ _).block ≠ _; rw [add_block]; exact hn182_1) | exact hn182_1) (.int .i64 t178)).trans hx182_1; replace hx182_2 := (cell_far (p := ⟨gb181, 1, none⟩) (by first | (rw [add_block]; exact hn182_1) | (show (Addr.add _ _).block ≠ _; rw [add_block]; exact hn182_1) | exact hn182_1) (.int .i64 t178)).trans hx182_2; replace hx182_3 := (cell_far (p := ⟨gb181, 1, none⟩) (by first | (rw [add_block]; exact hn182_1) | (show (Addr.add _ _).block ≠ _; rw [add_block]; exact hn182_1) | exact hn182_1) (.int .i64 t178)).trans hx182_3; replace hx182_4 := (cell_far (p := ⟨gb181, 1, none⟩) (by first | (rw [add_block]; exact hn182_1) | (show (Addr.add _ _).block ≠ _; rw [add_block]; exact hn182_1) | exact hn182_1) (.int .i64 t178)).trans hx182_4; replace hx182_0 := (cell_far (p := ⟨gb181, 2, none⟩) (by first | (rw [add_block]; exact hn182_2) | (show (Addr.add _ _).block ≠ _; rw [add_block]; exact hn182_2) | exact hn182_2) (.int .i64 t179)).trans hx182_0; replace hx182_1 := (cell_far (p := ⟨gb181, 2, none⟩) (by first | (rw [add_block]; exact hn182_2) | (show (Addr.add _ _).block ≠ _; rw [add_block]; exact hn182_2) | exact hn182_2) (.int .i64 t179)).trans hx182_1; replace hx182_2 := (cell_far (p := ⟨gb181, 2, none⟩) (by first | (rw [add_block]; exact hn182_2) | (show (Addr.add _ _).block ≠ _; rw [add_block]; exact hn182_2) | exact hn182_2) (.int .i64 t179)).trans hx182_2; replace hx182_3 := (cell_far (p := ⟨gb181, 2, none⟩) (by first | (rw [add_block]; exact hn182_2) | (show (Addr.add _ _).block ≠ _; rw [add_block]; exact hn182_2) | exact hn182_2) (.int .i64 t179)).trans hx182_3; replace hx182_4 := (cell_far (p := ⟨gb181, 2, none⟩) (by first | (rw [add_block]; exact hn182_2) | (show (Addr.add _ _).block ≠ _; rw [add_block]; exact hn182_2) | exact hn182_2) (.int .i64 t179)).trans hx182_4; (try have hy182_0 := fun (n_ : Nat) => (show (((((w38.drewN n_).setCell ⟨gb181, 0, none⟩ (.int .i64 t177)).setCell ⟨gb181, 1, none⟩ (.int .i64 t178)).setCell ⟨gb181, 2, none⟩ (.int .i64 t179))).cell? _ = some _ from hx182_0)); (try have hy182_1 := fun (n_ : Nat) => (show (((((w38.drewN n_).setCell ⟨gb181, 0, none⟩ (.int .i64 t177)).setCell ⟨gb181, 1, none⟩ (.int .i64 t178)).setCell ⟨gb181, 2, none⟩ (.int .i64 t179))).cell? _ = some _ from hx182_1)); (try have hy182_2 := fun (n_ : Nat) => (show (((((w38.drewN n_).setCell ⟨gb181, 0, none⟩ (.int .i64 t177)).setCell ⟨gb181, 1, none⟩ (.int .i64 t178)).setCell ⟨gb181, 2, none⟩ (.int .i64 t179))).cell? _ = some _ from hx182_2)); (try have hy182_3 := fun (n_ : Nat) => (show (((((w38.drewN n_).setCell ⟨gb181, 0, none⟩ (.int .i64 t177)).setCell ⟨gb181, 1, none⟩ (.int .i64 t178)).setCell ⟨gb181, 2, none⟩ (.int .i64 t179))).cell? _ = some _ from hx182_3)); (try have hy182_4 := fun (n_ : Nat) => (show (((((w38.drewN n_).setCell ⟨gb181, 0, none⟩ (.int .i64 t177)).setCell ⟨gb181, 1, none⟩ (.int .i64 t178)).setCell ⟨gb181, 2, none⟩ (.int .i64 t179))).cell? _ = some _ from hx182_4)); clear hn182_0; clear hn182_1; clear hn182_2; replace p182 := eq_true p182; replace q182 := eq_true q182)))
       go_roundg k3
       case measure => have := HJ1.out; have := HK2.out; have := HK3.out; omega
       case rel => exact ⟨(wrap64 (x4_3 + 1)), rsd, H', ⟨by have := HJ1.out; have := HK2.out; have := HK3.out; omega⟩, ⟨bf BK169⟩, ⟨tb HB⟩⟩
def spec_KeyOf.l0 : Nat → Int → Int → List Int → Int → Option (Int)
 | 0, _, _, _, _ => none
 | k + 1, x1, x5, x184000, x184001 => if x5 < (x184000.length : Int) then (if 0 ≤ x5 then (if (rd x184000 x5) = x1 then (some x5) else (spec_KeyOf.l0 k x1 (wrap64 (x5 + 1)) x184000 x184001)) else (none)) else (some (-1))
def spec_KeyOf.f (k : Nat) (l0_0 : List Int) (a0_1 : Int) (a1 : Int) : Option (Int) := spec_KeyOf.l0 k a1 0 l0_0 a0_1
set_option maxHeartbeats 8000000 in
set_option maxRecDepth 100000 in
theorem spec_KeyOf.calls (k : Nat) (A0_0 : Option Addr) (c0_0 : Nat) (l0_0 : List Int) (a0_1 : Int) (a1 : Int) (r : Int) (w : World) (hr0_0 : Kd.C (Kd.int .i64) w A0_0 l0_0.length l0_0) (hc0_0 : l0_0.length ≤ c0_0) (h : spec_KeyOf.f k l0_0 a0_1 a1 = some r) :
  Calls Tryz.prog 140 #[.agg #[.slice A0_0 l0_0.length c0_0, .int .i64 a0_1], .int .i64 a1] w fun e w' => e = .returned (.int .i64 r) ∧ Below w.heap.size w w' := by
 have hu73 := Tryz.underlying73
 have HR0_0 := Aside0.mk hr0_0
 have HC0_0 := Aside0.mk hc0_0
 clear hr0_0 hc0_0
 have HB := Aside0.mk (Below.refl w.heap.size w)
 have H := h
 clear h
 unfold spec_KeyOf.f at H
 have H' := Aside0.mk H
 clear H
 go_enter Tryz.func140, Tryz.ntmps140
 go_wp2_with (first | ((with_reducible refine gq 2 rfl ?_); refine bx0 HB (N := 2) (t := 73) ?_; clear HB; intro gb183 w3 BK183 GE183 HB))
 go_loopg [5] k (fun kq v5 w' => ∃ (x5_1 : Int), v5 = .int .i64 x5_1 ∧ Aside0 (spec_KeyOf.l0 kq a1 x5_1 l0_0 a0_1 = some r) ∧ Aside0 (kq ≤ k) ∧ Aside0 (w'.heap[gb183]? = some (.cells #[(.slice A0_0 l0_0.length c0_0), .int .i64 a0_1] 73 (0, 0))) ∧ Aside0 (Below w.heap.size w w'))
 case atStart => exact ⟨(0), rsd, H', ⟨Nat.le_refl _⟩, ⟨by (with_reducible repeat (first | refine blk_drewN ?_ _ | refine blk_drew ?_ | refine blk_alloc ?_ _)); exact BK183.out⟩, ⟨tb HB⟩⟩
 case round =>
  clear H'
  try clear c1
  try clear p2
  obtain ⟨x5_1, rfl, HA, HK1, BK183, HB⟩ := hrel
  cases gk with
  | zero => exact absurd HA.out (by simp [spec_KeyOf.l0])
  | succ k1 =>
   have H := HA.out
   clear HA
   simp only [spec_KeyOf.l0] at H
   revert H; refine icd (fun c4b0 H => ?_) fun c4b0 H => ?neg
   case neg =>
    obtain rfl := oin H
    have hz9 := cs2_ BK183
    go_wp2
    go_ret
    exact ⟨er, tb HB⟩
   obtain ⟨c5b0, H⟩ := itd H
   by_cases c6 : (rd l0_0 x5_1) = a1
   case pos =>
    rw [if_pos c6] at H
    have c6b0 : ((rd l0_0 x5_1) == a1) = true := beq_iff_eq.mpr c6
    have c6b1 : ((rd l0_0 x5_1) != a1) = false := bne_eq_false_iff_eq.mpr c6
    clear c6
    obtain rfl := oin H
    have hz7 := cs2_ BK183
    have p184 : 0 ≤ (x5_1 : Int) := od
    have q184 : x5_1 < (l0_0.length : Int) := od
    obtain ⟨ad184, e184, hx184_0⟩ := Kd.at_int HR0_0.out x5_1 p184 q184
    cases e184
    replace hx184_0 := ox HB hx184_0
    replace p184 := eq_true p184
    replace q184 := eq_true q184
    go_wp2
    go_ret
    exact ⟨er, tb HB⟩
   rw [if_neg c6] at H
   have c6b0 : ((rd l0_0 x5_1) == a1) = false := beq_eq_false_iff_ne.mpr c6
   have c6b1 : ((rd l0_0 x5_1) != a1) = true := bne_iff_ne.mpr c6
   have H' := Aside0.mk H
   clear H
   have hz8 := cs2_ BK183
   have p184 : 0 ≤ (x5_1 : Int) := od
   have q184 : x5_1 < (l0_0.length : Int) := od
   obtain ⟨ad184, e184, hx184_0⟩ := Kd.at_int HR0_0.out x5_1 p184 q184
   cases e184
   replace hx184_0 := ox HB hx184_0
   replace p184 := eq_true p184
   replace q184 := eq_true q184
   go_wp2
   go_roundg k1
   case measure => have := HK1.out; omega
   case rel => exact ⟨(wrap64 (x5_1 + 1)), rsd, H', ⟨by have := HK1.out; omega⟩, ⟨by (with_reducible repeat (first | refine blk_drewN ?_ _ | refine blk_drew ?_ | refine blk_alloc ?_ _)); exact BK183.out⟩, ⟨tb HB⟩⟩
def spec_RowsOk.l0 : Nat → Int → List Int → Int → Option (Bool)
 | 0, _, _, _ => none
 | k + 1, x3, x186000, x186001 => if x3 < (x186000.length : Int) then (if 0 ≤ x3 then (if (rd x186000 x3) = 0 then (spec_RowsOk.l0 k (wrap64 (x3 + 1)) x186000 x186001) else ((spec_ValOk.f (rd x186000 x3)).bind fun t189 => (if t189 = true then ((spec_KeyOf.f k x186000 x186001 (rd x186000 x3)).bind fun t191 => (if t191 = x3 then (spec_RowsOk.l0 k (wrap64 (x3 + 1)) x186000 x186001) else (some false))) else (some false)))) else (none)) else (if (x186000.length : Int) = 4 then ((spec_l1In.f x186001 0 5).bind fun t186 => (some t186)) else (some false))
def spec_RowsOk.f (k : Nat) (l0_0 : List Int) (a0_1 : Int) : Option (Bool) := spec_RowsOk.l0 k 0 l0_0 a0_1
def spec_RowsOk.T4 : Bool × List (List Nat × List Nat) := (true, [([], []), ([0], [0]), ([], []), ([1, 2], [1, 2]), ([3], [3]), ([4], [4]), ([5], [5]), ([6], [6]), ([7, 6], [6, 7]), ([6], [6]), ([8, 9, 6], [6, 8, 9]), ([10, 6], [6, 10]), ([11, 6, 6], [6, 11]), ([12, 6], [6, 12]), ([13, 12, 6], [6, 13]), ([14], [14]), ([14], [14]), ([16, 14], [14, 16]), ([14], [14]), ([17, 18, 14], [14, 17, 18]), ([19, 14], [14, 19]), ([15, 20, 14, 14], [14, 15, 20]), ([14], [14]), ([21, 22, 14], [14, 21, 22]), ([14, 23, 6], [6, 14, 23]), ([6, 24], [6, 24])])
def spec_RowsOk.B4 : List Nat := [0, 1, 0, 7, 15, 31, 63, 127, 255, 127, 1023, 2047, 4095, 8191, 16383, 32767, 32767, 98303, 32767, 491519, 1015807, 2097151, 32767, 8388607, 16777215, 33554431]
theorem spec_RowsOk.tab4 : rtab .any (opsOf Tryz.f85 4) = spec_RowsOk.T4 := by kernel_rfl
theorem spec_RowsOk.bits4 : waitsOk spec_RowsOk.T4.2 spec_RowsOk.B4 = true := by kernel_rfl
set_option maxHeartbeats 8000000 in
set_option maxRecDepth 100000 in
theorem spec_RowsOk.calls (k : Nat) (A0_0 : Option Addr) (c0_0 : Nat) (l0_0 : List Int) (a0_1 : Int) (r : Bool) (w : World) (hr0_0 : Kd.C (Kd.int .i64) w A0_0 l0_0.length l0_0) (hc0_0 : l0_0.length ≤ c0_0) (h : spec_RowsOk.f k l0_0 a0_1 = some r) :
  Calls Tryz.prog 85 #[.agg #[.slice A0_0 l0_0.length c0_0, .int .i64 a0_1]] w fun e w' => e = .returned (.bool r) ∧ Below w.heap.size w w' := by
 have hu73 := Tryz.underlying73
 have HR0_0 := Aside0.mk hr0_0
 have HC0_0 := Aside0.mk hc0_0
 clear hr0_0 hc0_0
 have HB := Aside0.mk (Below.refl w.heap.size w)
 have H := h
 clear h
 unfold spec_RowsOk.f at H
 have H' := Aside0.mk H
 clear H
 go_enter Tryz.func85, Tryz.ntmps85
 go_wp2_with (first | ((with_reducible refine gq 1 rfl ?_); refine bx0 HB (N := 1) (t := 73) ?_; clear HB; intro gb185 w2 BK185 GE185 HB))
 go_loopg [3] k (fun kq v3 w' => ∃ (x3_1 : Int), v3 = .int .i64 x3_1 ∧ Aside0 (spec_RowsOk.l0 kq x3_1 l0_0 a0_1 = some r) ∧ Aside0 (kq ≤ k) ∧ Aside0 (w'.heap[gb185]? = some (.cells #[(.slice A0_0 l0_0.length c0_0), .int .i64 a0_1] 73 (0, 0))) ∧ Aside0 (Below w.heap.size w w'))
 case atStart => exact ⟨(0), rsd, H', ⟨Nat.le_refl _⟩, ⟨by (with_reducible repeat (first | refine blk_drewN ?_ _ | refine blk_drew ?_ | refine blk_alloc ?_ _)); exact BK185.out⟩, ⟨tb HB⟩⟩
 case round =>
  clear H'
  try clear p2
  obtain ⟨x3_1, rfl, HA, HK1, BK185, HB⟩ := hrel
  cases gk with
  | zero => exact absurd HA.out (by simp [spec_RowsOk.l0])
  | succ k1 =>
   have H := HA.out
   clear HA
   simp only [spec_RowsOk.l0] at H
   revert H; refine icd (fun c3b0 H => ?_) fun c3b0 H => ?neg
   case neg =>
    by_cases c20 : (l0_0.length : Int) = 4
    case neg =>
     rw [if_neg c20] at H
     have c20b0 : ((l0_0.length : Int) == 4) = false := beq_eq_false_iff_ne.mpr c20
     have c20b1 : ((l0_0.length : Int) != 4) = true := bne_iff_ne.mpr c20
     obtain rfl := oin H
     have hz23 := cs2_ BK185
     go_wp2
     go_ret
     exact ⟨er, tb HB⟩
    rw [if_pos c20] at H
    have c20b0 : ((l0_0.length : Int) == 4) = true := beq_iff_eq.mpr c20
    have c20b1 : ((l0_0.length : Int) != 4) = false := bne_eq_false_iff_eq.mpr c20
    clear c20
    obtain ⟨t186, A21, H⟩ := bn H
    try dsimp only at H
    obtain rfl := oin H
    have hz22 := cs2_ BK185
    go_wp2_with (first | (go_at_call 70; (with_reducible refine (spec_l1In.calls a0_1 0 5 t186 _ A21.out).mono ?_); rintro e w' ⟨rfl, ⟨nd, rfl⟩⟩))
    go_ret
    exact ⟨er, tb HB⟩
   obtain ⟨c4b0, H⟩ := itd H
   by_cases c5 : (rd l0_0 x3_1) = 0
   case pos =>
    rw [if_pos c5] at H
    have c5b0 : ((rd l0_0 x3_1) == 0) = true := beq_iff_eq.mpr c5
    have c5b1 : ((rd l0_0 x3_1) != 0) = false := bne_eq_false_iff_eq.mpr c5
    clear c5
    have H' := Aside0.mk H
    clear H
    have hz6 := cs2_ BK185
    try go_wp2
    replace BK185 := bd BK185
    replace HB := Aside0.mk (below_drew1 HB.out)
    have p187 : 0 ≤ (x3_1 : Int) := od
    have q187 : x3_1 < (l0_0.length : Int) := od
    obtain ⟨ad187, e187, hx187_0⟩ := Kd.at_int HR0_0.out x3_1 p187 q187
    have hw187_0 := hx187_0
    cases e187
    replace hx187_0 := ox HB hx187_0
    replace p187 := eq_true p187
    replace q187 := eq_true q187
    refine start_ (n := 26) (S := fun w' => cS2 gb185 (.slice (some ad187) l0_0.length c0_0) (.int .i64 a0_1) w' ∧ w'.cell? (ad187.add (x3_1).toNat) = some (.int .i64 (rd l0_0 x3_1))) (ds := []) #[false, false, false, false, false, false, false, false, false, false, false, false, false, false, false, false, false, false, false, false, false, false, false, false, false, false] (by kernel_rfl) rfl rfl ⟨ds2_ BK185, ((HB.out.cell (World.block_lt_of_cell? w _ hw187_0)).trans hw187_0)⟩ (fun hHeld => ?_); refine with_tabW spec_RowsOk.tab4 spec_RowsOk.bits4 (fun HT_ HW_ => ?_)
    generalize wr.drew = w7 at BK185 HB hx187_0 hHeld ⊢
    refine pu 0 11 ?_; refine pu 2 13 ?_; refine ta 1 12 ?_; refine pu 3 14 ?_; refine ta 4 15 ?_; refine pu 5 16 ?_; refine pu 6 17 ?_; refine pn 7 18 ?_; refine pn 8 19 ?_; refine pn 9 20 ?_; refine pn 10 21 ?_; refine pn 11 22 ?_
    refine pn 12 23 ?_; refine pn 13 24 ?_; refine pn 14 25 ?_; refine pn 15 26 ?_; refine pn 16 27 ?_; refine pn 17 28 ?_; refine pn 18 29 ?_; refine pn 19 30 ?_; refine pn 20 31 ?_; refine pn 21 32 ?_; refine pn 22 33 ?_; refine pn 23 34 ?_
    refine pn 24 35 ?_; refine pu 25 36 ?_
    refine done_ (done_of HT_.out (by kernel_rfl)) ?_
    try go_wp2
    go_roundg k1
    case measure => have := HK1.out; omega
    case rel => exact ⟨(wrap64 (x3_1 + 1)), rsd, H', ⟨by have := HK1.out; omega⟩, ⟨by (with_reducible repeat (first | refine blk_drewN ?_ _ | refine blk_drew ?_ | refine blk_alloc ?_ _)); exact BK185.out⟩, ⟨tb HB⟩⟩
   rw [if_neg c5] at H
   have c5b0 : ((rd l0_0 x3_1) == 0) = false := beq_eq_false_iff_ne.mpr c5
   have c5b1 : ((rd l0_0 x3_1) != 0) = true := bne_iff_ne.mpr c5
   obtain ⟨t189, A8, H⟩ := bn H
   try dsimp only at H
   cases t189
   case false =>
    replace H := ipf H
    obtain rfl := oin H
    have hz18 := cs2_ BK185
    try go_wp2
    replace BK185 := bd BK185
    replace HB := Aside0.mk (below_drew1 HB.out)
    have p187 : 0 ≤ (x3_1 : Int) := od
    have q187 : x3_1 < (l0_0.length : Int) := od
    obtain ⟨ad187, e187, hx187_0⟩ := Kd.at_int HR0_0.out x3_1 p187 q187
    have hw187_0 := hx187_0
    cases e187
    replace hx187_0 := ox HB hx187_0
    replace p187 := eq_true p187
    replace q187 := eq_true q187
    have p188 : 0 ≤ (x3_1 : Int) := od
    have q188 : x3_1 < (l0_0.length : Int) := od
    obtain ⟨ad188, e188, hx188_0⟩ := Kd.at_int HR0_0.out x3_1 p188 q188
    have hw188_0 := hx188_0
    obtain rfl : ad187 = ad188 := (by injection e188)
    replace hx188_0 := ox HB hx188_0
    replace p188 := eq_true p188
    replace q188 := eq_true q188
    refine start_ (n := 26) (S := fun w' => cS2 gb185 (.slice (some ad187) l0_0.length c0_0) (.int .i64 a0_1) w' ∧ w'.cell? (ad187.add (x3_1).toNat) = some (.int .i64 (rd l0_0 x3_1)) ∧ w'.cell? (ad187.add (x3_1).toNat) = some (.int .i64 (rd l0_0 x3_1))) (ds := []) #[false, false, false, false, false, false, false, false, false, false, false, false, false, false, false, false, false, false, false, false, false, false, false, false, false, false] (by kernel_rfl) rfl rfl ⟨ds2_ BK185, ((HB.out.cell (World.block_lt_of_cell? w _ hw187_0)).trans hw187_0), ((HB.out.cell (World.block_lt_of_cell? w _ hw188_0)).trans hw188_0)⟩ (fun hHeld => ?_); refine with_tabW spec_RowsOk.tab4 spec_RowsOk.bits4 (fun HT_ HW_ => ?_)
    generalize wr.drew = w19 at BK185 HB hx187_0 hx188_0 hHeld ⊢
    refine pu 0 11 ?_; refine pu 2 13 ?_; refine ta 1 12 ?_; refine pu 3 14 ?_; refine ta 4 15 ?_; refine pu 5 16 ?_; refine pu 6 17 ?_; refine pu 7 18 ?_; refine pu 9 20 ?_; refine ta 8 19 ?_; refine pu 10 21 ?_; refine ta 11 22 ?_
    refine on1 12 (some 23) (fun K hK => ?_)
    refine gS Tryz.func139 #[.int .i64 (rd l0_0 x3_1)] ?_
    with_reducible refine (spec_ValOk.calls (rd l0_0 x3_1) false _ A8.out).mono ?_
    rintro e w' ⟨rfl, ⟨nd, rfl⟩⟩
    refine ⟨_, rfl, ?_⟩
    refine hK.out _ _ ⟨ds2_ BK185, ((HB.out.cell (World.block_lt_of_cell? w _ hw187_0)).trans hw187_0), ((HB.out.cell (World.block_lt_of_cell? w _ hw188_0)).trans hw188_0)⟩ (fun hHeld => ?_)
    clear hK K
    refine nm 23 ?_
    refine pu 13 24 ?_; refine pu 14 25 ?_; refine pn 15 26 ?_; refine pn 16 27 ?_; refine pn 17 28 ?_; refine pn 18 29 ?_; refine pn 19 30 ?_; refine pn 20 31 ?_; refine pn 21 32 ?_; refine pn 22 33 ?_; refine pn 23 34 ?_; refine pu 24 35 ?_
    refine pu 25 36 ?_
    refine done_ (done_of HT_.out (by kernel_rfl)) ?_
    try go_wp2
    go_ret
    exact ⟨er, tb HB⟩
   replace H := ipt H
   obtain ⟨t191, A10, H⟩ := bn H
   try dsimp only at H
   by_cases c11 : t191 = x3_1
   case neg =>
    rw [if_neg c11] at H
    have c11b0 : (t191 == x3_1) = false := beq_eq_false_iff_ne.mpr c11
    have c11b1 : (t191 != x3_1) = true := bne_iff_ne.mpr c11
    obtain rfl := oin H
    have hz15 := cs2_ BK185
    try go_wp2
    replace BK185 := bd BK185
    replace HB := Aside0.mk (below_drew1 HB.out)
    have p187 : 0 ≤ (x3_1 : Int) := od
    have q187 : x3_1 < (l0_0.length : Int) := od
    obtain ⟨ad187, e187, hx187_0⟩ := Kd.at_int HR0_0.out x3_1 p187 q187
    have hw187_0 := hx187_0
    cases e187
    replace hx187_0 := ox HB hx187_0
    replace p187 := eq_true p187
    replace q187 := eq_true q187
    have p188 : 0 ≤ (x3_1 : Int) := od
    have q188 : x3_1 < (l0_0.length : Int) := od
    obtain ⟨ad188, e188, hx188_0⟩ := Kd.at_int HR0_0.out x3_1 p188 q188
    have hw188_0 := hx188_0
    obtain rfl : ad187 = ad188 := (by injection e188)
    replace hx188_0 := ox HB hx188_0
    replace p188 := eq_true p188
    replace q188 := eq_true q188
    have p190 : 0 ≤ (x3_1 : Int) := od
    have q190 : x3_1 < (l0_0.length : Int) := od
    obtain ⟨ad190, e190, hx190_0⟩ := Kd.at_int HR0_0.out x3_1 p190 q190
    have hw190_0 := hx190_0
    obtain rfl : ad187 = ad190 := (by injection e190)
    replace hx190_0 := ox HB hx190_0
    replace p190 := eq_true p190
    replace q190 := eq_true q190
    refine start_ (n := 26) (S := fun w' => cS2 gb185 (.slice (some ad187) l0_0.length c0_0) (.int .i64 a0_1) w' ∧ w'.cell? (ad187.add (x3_1).toNat) = some (.int .i64 (rd l0_0 x3_1)) ∧ w'.cell? (ad187.add (x3_1).toNat) = some (.int .i64 (rd l0_0 x3_1)) ∧ w'.cell? (ad187.add (x3_1).toNat) = some (.int .i64 (rd l0_0 x3_1))) (ds := []) #[false, false, false, false, false, false, false, false, false, false, false, false, false, false, false, false, false, false, false, false, false, false, false, false, false, false] (by kernel_rfl) rfl rfl ⟨ds2_ BK185, ((HB.out.cell (World.block_lt_of_cell? w _ hw187_0)).trans hw187_0), ((HB.out.cell (World.block_lt_of_cell? w _ hw188_0)).trans hw188_0), ((HB.out.cell (World.block_lt_of_cell? w _ hw190_0)).trans hw190_0)⟩ (fun hHeld => ?_); refine with_tabW spec_RowsOk.tab4 spec_RowsOk.bits4 (fun HT_ HW_ => ?_)
    generalize wr.drew = w16 at BK185 HB hx187_0 hx188_0 hx190_0 hHeld ⊢
    refine pu 0 11 ?_; refine pu 2 13 ?_; refine ta 1 12 ?_; refine pu 3 14 ?_; refine ta 4 15 ?_; refine pu 5 16 ?_; refine pu 6 17 ?_; refine pu 7 18 ?_; refine pu 9 20 ?_; refine ta 8 19 ?_; refine pu 10 21 ?_; refine ta 11 22 ?_
    refine on1 12 (some 23) (fun K hK => ?_)
    refine gS Tryz.func139 #[.int .i64 (rd l0_0 x3_1)] ?_
    with_reducible refine (spec_ValOk.calls (rd l0_0 x3_1) true _ A8.out).mono ?_
    rintro e w' ⟨rfl, ⟨nd, rfl⟩⟩
    refine ⟨_, rfl, ?_⟩
    refine hK.out _ _ ⟨ds2_ BK185, ((HB.out.cell (World.block_lt_of_cell? w _ hw187_0)).trans hw187_0), ((HB.out.cell (World.block_lt_of_cell? w _ hw188_0)).trans hw188_0), ((HB.out.cell (World.block_lt_of_cell? w _ hw190_0)).trans hw190_0)⟩ (fun hHeld => ?_)
    clear hK K
    refine nm 23 ?_
    refine pu 13 24 ?_; refine pu 14 25 ?_; refine pu 16 27 ?_; refine pu 18 29 ?_; refine pu 22 33 ?_; refine ta 15 26 ?_; refine ta 17 28 ?_; refine pu 19 30 ?_; refine ta 20 31 ?_
    refine on1 21 (some 32) (fun K hK => ?_)
    refine gS Tryz.func140 #[.agg #[.slice (some ad187) l0_0.length c0_0, .int .i64 a0_1], .int .i64 (rd l0_0 x3_1)] ?_
    with_reducible refine (spec_KeyOf.calls k1 _ _ l0_0 a0_1 (rd l0_0 x3_1) t191 _ ?side1 ?side2 A10.out).mono ?_
    (case side1 => repeat (first | exact (Kd.C_below HR0_0.out (tb HB)) | (with_reducible refine Kd.C_alloc ?_ _) | (with_reducible refine Kd.C_drewN ?_ _) | (with_reducible refine Kd.C_drew ?_)))
    (case side2 => exact HC0_0.out)
    rintro e w17 ⟨rfl, hb⟩
    refine ⟨_, rfl, ?_⟩
    replace BK185 := bb BK185 hb
    replace HB := bs HB hb
    (try clear hb)
    (try clear hb2)
    (try clear hk)
    (try clear hi)
    refine hK.out _ _ ⟨ds2_ BK185, ((HB.out.cell (World.block_lt_of_cell? w _ hw187_0)).trans hw187_0), ((HB.out.cell (World.block_lt_of_cell? w _ hw188_0)).trans hw188_0), ((HB.out.cell (World.block_lt_of_cell? w _ hw190_0)).trans hw190_0)⟩ (fun hHeld => ?_)
    clear hK K
    refine nm 32 ?_
    refine pu 23 34 ?_; refine pu 24 35 ?_; refine pu 25 36 ?_
    refine done_ (done_of HT_.out (by kernel_rfl)) ?_
    try go_wp2
    go_ret
    exact ⟨er, tb HB⟩
   rw [if_pos c11] at H
   have c11b0 : (t191 == x3_1) = true := beq_iff_eq.mpr c11
   have c11b1 : (t191 != x3_1) = false := bne_eq_false_iff_eq.mpr c11
   clear c11
   have H' := Aside0.mk H
   clear H
   have hz12 := cs2_ BK185
   try go_wp2
   replace BK185 := bd BK185
   replace HB := Aside0.mk (below_drew1 HB.out)
   have p187 : 0 ≤ (x3_1 : Int) := od
   have q187 : x3_1 < (l0_0.length : Int) := od
   obtain ⟨ad187, e187, hx187_0⟩ := Kd.at_int HR0_0.out x3_1 p187 q187
   have hw187_0 := hx187_0
   cases e187
   replace hx187_0 := ox HB hx187_0
   replace p187 := eq_true p187
   replace q187 := eq_true q187
   have p188 : 0 ≤ (x3_1 : Int) := od
   have q188 : x3_1 < (l0_0.length : Int) := od
   obtain ⟨ad188, e188, hx188_0⟩ := Kd.at_int HR0_0.out x3_1 p188 q188
   have hw188_0 := hx188_0
   obtain rfl : ad187 = ad188 := (by injection e188)
   replace hx188_0 := ox HB hx188_0
   replace p188 := eq_true p188
   replace q188 := eq_true q188
   have p190 : 0 ≤ (x3_1 : Int) := od
   have q190 : x3_1 < (l0_0.length : Int) := od
   obtain ⟨ad190, e190, hx190_0⟩ := Kd.at_int HR0_0.out x3_1 p190 q190
   have hw190_0 := hx190_0
   obtain rfl : ad187 = ad190 := (by injection e190)
   replace hx190_0 := ox HB hx190_0
   replace p190 := eq_true p190
   replace q190 := eq_true q190
   refine start_ (n := 26) (S := fun w' => cS2 gb185 (.slice (some ad187) l0_0.length c0_0) (.int .i64 a0_1) w' ∧ w'.cell? (ad187.add (x3_1).toNat) = some (.int .i64 (rd l0_0 x3_1)) ∧ w'.cell? (ad187.add (x3_1).toNat) = some (.int .i64 (rd l0_0 x3_1)) ∧ w'.cell? (ad187.add (x3_1).toNat) = some (.int .i64 (rd l0_0 x3_1))) (ds := []) #[false, false, false, false, false, false, false, false, false, false, false, false, false, false, false, false, false, false, false, false, false, false, false, false, false, false] (by kernel_rfl) rfl rfl ⟨ds2_ BK185, ((HB.out.cell (World.block_lt_of_cell? w _ hw187_0)).trans hw187_0), ((HB.out.cell (World.block_lt_of_cell? w _ hw188_0)).trans hw188_0), ((HB.out.cell (World.block_lt_of_cell? w _ hw190_0)).trans hw190_0)⟩ (fun hHeld => ?_); refine with_tabW spec_RowsOk.tab4 spec_RowsOk.bits4 (fun HT_ HW_ => ?_)
   generalize wr.drew = w13 at BK185 HB hx187_0 hx188_0 hx190_0 hHeld ⊢
   refine pu 0 11 ?_; refine pu 2 13 ?_; refine ta 1 12 ?_; refine pu 3 14 ?_; refine ta 4 15 ?_; refine pu 5 16 ?_; refine pu 6 17 ?_; refine pu 7 18 ?_; refine pu 9 20 ?_; refine ta 8 19 ?_; refine pu 10 21 ?_; refine ta 11 22 ?_
   refine on1 12 (some 23) (fun K hK => ?_)
   refine gS Tryz.func139 #[.int .i64 (rd l0_0 x3_1)] ?_
   with_reducible refine (spec_ValOk.calls (rd l0_0 x3_1) true _ A8.out).mono ?_
   rintro e w' ⟨rfl, ⟨nd, rfl⟩⟩
   refine ⟨_, rfl, ?_⟩
   refine hK.out _ _ ⟨ds2_ BK185, ((HB.out.cell (World.block_lt_of_cell? w _ hw187_0)).trans hw187_0), ((HB.out.cell (World.block_lt_of_cell? w _ hw188_0)).trans hw188_0), ((HB.out.cell (World.block_lt_of_cell? w _ hw190_0)).trans hw190_0)⟩ (fun hHeld => ?_)
   clear hK K
   refine nm 23 ?_
   refine pu 13 24 ?_; refine pu 14 25 ?_; refine pu 16 27 ?_; refine pu 18 29 ?_; refine pu 22 33 ?_; refine ta 15 26 ?_; refine ta 17 28 ?_; refine pu 19 30 ?_; refine ta 20 31 ?_
   refine on1 21 (some 32) (fun K hK => ?_)
   refine gS Tryz.func140 #[.agg #[.slice (some ad187) l0_0.length c0_0, .int .i64 a0_1], .int .i64 (rd l0_0 x3_1)] ?_
   with_reducible refine (spec_KeyOf.calls k1 _ _ l0_0 a0_1 (rd l0_0 x3_1) t191 _ ?side1 ?side2 A10.out).mono ?_
   (case side1 => repeat (first | exact (Kd.C_below HR0_0.out (tb HB)) | (with_reducible refine Kd.C_alloc ?_ _) | (with_reducible refine Kd.C_drewN ?_ _) | (with_reducible refine Kd.C_drew ?_)))
   (case side2 => exact HC0_0.out)
   rintro e w14 ⟨rfl, hb⟩
   refine ⟨_, rfl, ?_⟩
   replace BK185 := bb BK185 hb
   replace HB := bs HB hb
   (try clear hb)
   (try clear hb2)
   (try clear hk)
   (try clear hi)
   refine hK.out _ _ ⟨ds2_ BK185, ((HB.out.cell (World.block_lt_of_cell? w _ hw187_0)).trans hw187_0), ((HB.out.cell (World.block_lt_of_cell? w _ hw188_0)).trans hw188_0), ((HB.out.cell (World.block_lt_of_cell? w _ hw190_0)).trans hw190_0)⟩ (fun hHeld => ?_)
   clear hK K
   refine nm 32 ?_
   refine pu 23 34 ?_; refine pu 24 35 ?_; refine pu 25 36 ?_
   refine done_ (done_of HT_.out (by kernel_rfl)) ?_
   try go_wp2
   go_roundg k1
   case measure => have := HK1.out; omega
   case rel => exact ⟨(wrap64 (x3_1 + 1)), rsd, H', ⟨by have := HK1.out; omega⟩, ⟨by (with_reducible repeat (first | refine blk_drewN ?_ _ | refine blk_drew ?_ | refine blk_alloc ?_ _)); exact BK185.out⟩, ⟨tb HB⟩⟩
def spec_l9Call.f (k : Nat) (l0_0 : List (S39)) (l0_1 : List (S52)) (l0_2 : List (S82)) (a0_3 : Int) (l0_4 : List (S134)) (l0_5 : List Int) (l0_6 : List Int) (a0_7 : Int) (a1_0 : Int) (a1_1 : Int) (a1_2 : Int) (a1_3 : Int) (a1_4 : Int) (a1_5 : Int) (a1_6 : Int) (a1_7 : Int) (l1_8 : List Int) : Option (Bool) := (spec_l1In.f a1_0 0 (wrap64 ((l0_2.length : Int) - 1))).bind fun t194 => (if t194 = true then ((spec_OpOk.f k a1_1 a1_2 a1_3).bind fun t195 => (if t195 = true then ((spec_l1In.f a1_4 0 a0_3).bind fun t196 => (if t196 = true then (if a1_5 = (-1) then (if a1_6 = (-1) then (some true) else ((spec_l1In.f a1_6 a1_4 a0_3).bind fun t197 => (some t197))) else ((spec_l1In.f a1_5 a1_4 a0_3).bind fun t198 => (if t198 = true then (if a1_6 = (-1) then (some true) else ((spec_l1In.f a1_6 a1_4 a0_3).bind fun t199 => (some t199))) else (some false)))) else (some false))) else (some false))) else (some false))
set_option maxHeartbeats 8000000 in
set_option maxRecDepth 100000 in
theorem spec_l9Call.calls (k : Nat) (A0_0 : Option Addr) (c0_0 : Nat) (l0_0 : List (S39)) (A0_1 : Option Addr) (c0_1 : Nat) (l0_1 : List (S52)) (A0_2 : Option Addr) (c0_2 : Nat) (l0_2 : List (S82)) (a0_3 : Int) (A0_4 : Option Addr) (c0_4 : Nat) (l0_4 : List (S134)) (A0_5 : Option Addr) (c0_5 : Nat) (l0_5 : List Int) (A0_6 : Option Addr) (c0_6 : Nat) (l0_6 : List Int) (a0_7 : Int) (a1_0 : Int) (a1_1 : Int) (a1_2 : Int) (a1_3 : Int) (a1_4 : Int) (a1_5 : Int) (a1_6 : Int) (a1_7 : Int) (A1_8 : Option Addr) (c1_8 : Nat) (l1_8 : List Int) (r : Bool) (w : World) (hr0_0 : Kd.C k39 w A0_0 l0_0.length l0_0) (hc0_0 : l0_0.length ≤ c0_0) (hr0_1 : Kd.C k52 w A0_1 l0_1.length l0_1) (hc0_1 : l0_1.length ≤ c0_1) (hr0_2 : Kd.C k82 w A0_2 l0_2.length l0_2) (hc0_2 : l0_2.length ≤ c0_2) (hr0_4 : Kd.C k134 w A0_4 l0_4.length l0_4) (hc0_4 : l0_4.length ≤ c0_4) (hr0_5 : Kd.C (Kd.int .i64) w A0_5 l0_5.length l0_5) (hc0_5 : l0_5.length ≤ c0_5) (hr0_6 : Kd.C (Kd.int .i64) w A0_6 l0_6.length l0_6) (hc0_6 : l0_6.length ≤ c0_6) (hr1_8 : Kd.C (Kd.int .i64) w A1_8 l1_8.length l1_8) (hc1_8 : l1_8.length ≤ c1_8) (h : spec_l9Call.f k l0_0 l0_1 l0_2 a0_3 l0_4 l0_5 l0_6 a0_7 a1_0 a1_1 a1_2 a1_3 a1_4 a1_5 a1_6 a1_7 l1_8 = some r) :
  Calls Tryz.prog 141 #[.agg #[.slice A0_0 l0_0.length c0_0, .slice A0_1 l0_1.length c0_1, .slice A0_2 l0_2.length c0_2, .int .i64 a0_3, .slice A0_4 l0_4.length c0_4, .slice A0_5 l0_5.length c0_5, .slice A0_6 l0_6.length c0_6, .int .i64 a0_7], .agg #[.int .i64 a1_0, .int .i64 a1_1, .int .i64 a1_2, .int .i64 a1_3, .int .i64 a1_4, .int .i64 a1_5, .int .i64 a1_6, .int .i64 a1_7, .slice A1_8 l1_8.length c1_8]] w fun e w' => e = .returned (.bool r) ∧ Below w.heap.size w w' := by
 have hu75 := Tryz.underlying75
 have hu134 := Tryz.underlying134
 have hu132 := Tryz.underlying132
 have HR0_0 := Aside0.mk hr0_0
 have HC0_0 := Aside0.mk hc0_0
 clear hr0_0 hc0_0
 have HR0_1 := Aside0.mk hr0_1
 have HC0_1 := Aside0.mk hc0_1
 clear hr0_1 hc0_1
 have HR0_2 := Aside0.mk hr0_2
 have HC0_2 := Aside0.mk hc0_2
 clear hr0_2 hc0_2
 have HR0_4 := Aside0.mk hr0_4
 have HC0_4 := Aside0.mk hc0_4
 clear hr0_4 hc0_4
 have HR0_5 := Aside0.mk hr0_5
 have HC0_5 := Aside0.mk hc0_5
 clear hr0_5 hc0_5
 have HR0_6 := Aside0.mk hr0_6
 have HC0_6 := Aside0.mk hc0_6
 clear hr0_6 hc0_6
 have HR1_8 := Aside0.mk hr1_8
 have HC1_8 := Aside0.mk hc1_8
 clear hr1_8 hc1_8
 have HB := Aside0.mk (Below.refl w.heap.size w)
 have H := h
 clear h
 unfold spec_l9Call.f at H
 obtain ⟨t194, A3, H⟩ := bn H
 try dsimp only at H
 cases t194
 case false =>
  replace H := ipf H
  obtain rfl := oin H
  go_enter Tryz.func141, Tryz.ntmps141
  go_wp2_with (first | ((with_reducible refine gq 2 rfl ?_); refine bx0 HB (N := 2) (t := 75) ?_; clear HB; intro gb192 w70 BK192 GE192 HB) | ((with_reducible refine gq 3 rfl ?_); refine bx1 HB BK192 (N := 3) (t := 134) ?_; clear HB BK192; intro gb193 w71 BK193 GE193 HB NB192_193 NB193_192 BK192; have hnb72 := NB193_192.out; have hnc72 := NB192_193.out; have hz73 := cs9_ BK193; have hz74 := cs8_ BK192) | ((with_reducible refine gf 70 rfl ?_); refine gL 11 Tryz.func70 #[.int .i64 a1_0, .int .i64 0, .int .i64 (wrap64 ((l0_2.length : Int) - 1))] ?_; (with_reducible refine (spec_l1In.calls a1_0 0 (wrap64 ((l0_2.length : Int) - 1)) false _ A3.out).mono ?_); rintro e w' ⟨rfl, ⟨nd, rfl⟩⟩; refine ⟨_, rfl, ?_⟩))
  go_ret
  exact ⟨er, tb HB⟩
 replace H := ipt H
 obtain ⟨t195, A5, H⟩ := bn H
 try dsimp only at H
 cases t195
 case false =>
  replace H := ipf H
  obtain rfl := oin H
  go_enter Tryz.func141, Tryz.ntmps141
  go_wp2_with (first | ((with_reducible refine gq 2 rfl ?_); refine bx0 HB (N := 2) (t := 75) ?_; clear HB; intro gb192 w64 BK192 GE192 HB) | ((with_reducible refine gq 3 rfl ?_); refine bx1 HB BK192 (N := 3) (t := 134) ?_; clear HB BK192; intro gb193 w65 BK193 GE193 HB NB192_193 NB193_192 BK192; have hnb66 := NB193_192.out; have hnc66 := NB192_193.out; have hz67 := cs9_ BK193; have hz68 := cs8_ BK192) | ((with_reducible refine gf 70 rfl ?_); refine gL 11 Tryz.func70 #[.int .i64 a1_0, .int .i64 0, .int .i64 (wrap64 ((l0_2.length : Int) - 1))] ?_; (with_reducible refine (spec_l1In.calls a1_0 0 (wrap64 ((l0_2.length : Int) - 1)) true _ A3.out).mono ?_); rintro e w' ⟨rfl, ⟨nd, rfl⟩⟩; refine ⟨_, rfl, ?_⟩) | (go_at_call 118; (with_reducible refine (spec_OpOk.calls k a1_1 a1_2 a1_3 false _ A5.out).mono ?_); rintro e w69 ⟨rfl, hb⟩; replace BK192 := bb BK192 hb; replace BK193 := bb BK193 hb; replace HB := bs HB hb; (try clear hb)))
  go_ret
  exact ⟨er, tb HB⟩
 replace H := ipt H
 obtain ⟨t196, A7, H⟩ := bn H
 try dsimp only at H
 cases t196
 case false =>
  replace H := ipf H
  obtain rfl := oin H
  go_enter Tryz.func141, Tryz.ntmps141
  go_wp2_with (first | ((with_reducible refine gq 2 rfl ?_); refine bx0 HB (N := 2) (t := 75) ?_; clear HB; intro gb192 w56 BK192 GE192 HB) | ((with_reducible refine gq 3 rfl ?_); refine bx1 HB BK192 (N := 3) (t := 134) ?_; clear HB BK192; intro gb193 w57 BK193 GE193 HB NB192_193 NB193_192 BK192; have hnb58 := NB193_192.out; have hnc58 := NB192_193.out; have hz59 := cs9_ BK193; have hz60 := cs8_ BK192) | ((with_reducible refine gf 70 rfl ?_); refine gL 11 Tryz.func70 #[.int .i64 a1_0, .int .i64 0, .int .i64 (wrap64 ((l0_2.length : Int) - 1))] ?_; (with_reducible refine (spec_l1In.calls a1_0 0 (wrap64 ((l0_2.length : Int) - 1)) true _ A3.out).mono ?_); rintro e w' ⟨rfl, ⟨nd, rfl⟩⟩; refine ⟨_, rfl, ?_⟩) | (go_at_call 118; (with_reducible refine (spec_OpOk.calls k a1_1 a1_2 a1_3 true _ A5.out).mono ?_); rintro e w61 ⟨rfl, hb⟩; replace BK192 := bb BK192 hb; replace BK193 := bb BK193 hb; replace HB := bs HB hb; (try clear hb); have hz62 := cs9_ BK193; have hz63 := cs8_ BK192) | (go_at_call 70; (with_reducible refine (spec_l1In.calls a1_4 0 a0_3 false _ A7.out).mono ?_); rintro e w' ⟨rfl, ⟨nd, rfl⟩⟩))
  go_ret
  exact ⟨er, tb HB⟩
 replace H := ipt H
 by_cases c9 : a1_5 = (-1)
 case pos =>
  rw [if_pos c9] at H
  have c9b0 : (a1_5 == (-1)) = true := beq_iff_eq.mpr c9
  have c9b1 : (a1_5 != (-1)) = false := bne_eq_false_iff_eq.mpr c9
  clear c9
  by_cases c10 : a1_6 = (-1)
  case pos =>
   rw [if_pos c10] at H
   have c10b0 : (a1_6 == (-1)) = true := beq_iff_eq.mpr c10
   have c10b1 : (a1_6 != (-1)) = false := bne_eq_false_iff_eq.mpr c10
   clear c10
   obtain rfl := oin H
   go_enter Tryz.func141, Tryz.ntmps141
   go_wp2_with (first | ((with_reducible refine gq 2 rfl ?_); refine bx0 HB (N := 2) (t := 75) ?_; clear HB; intro gb192 w11 BK192 GE192 HB) | ((with_reducible refine gq 3 rfl ?_); refine bx1 HB BK192 (N := 3) (t := 134) ?_; clear HB BK192; intro gb193 w12 BK193 GE193 HB NB192_193 NB193_192 BK192; have hnb13 := NB193_192.out; have hnc13 := NB192_193.out; have hz14 := cs9_ BK193; have hz15 := cs8_ BK192) | ((with_reducible refine gf 70 rfl ?_); refine gL 11 Tryz.func70 #[.int .i64 a1_0, .int .i64 0, .int .i64 (wrap64 ((l0_2.length : Int) - 1))] ?_; (with_reducible refine (spec_l1In.calls a1_0 0 (wrap64 ((l0_2.length : Int) - 1)) true _ A3.out).mono ?_); rintro e w' ⟨rfl, ⟨nd, rfl⟩⟩; refine ⟨_, rfl, ?_⟩) | (go_at_call 118; (with_reducible refine (spec_OpOk.calls k a1_1 a1_2 a1_3 true _ A5.out).mono ?_); rintro e w16 ⟨rfl, hb⟩; replace BK192 := bb BK192 hb; replace BK193 := bb BK193 hb; replace HB := bs HB hb; (try clear hb); have hz17 := cs9_ BK193; have hz18 := cs8_ BK192) | (go_at_call 70; (with_reducible refine (spec_l1In.calls a1_4 0 a0_3 true _ A7.out).mono ?_); rintro e w' ⟨rfl, ⟨nd, rfl⟩⟩))
   go_ret
   exact ⟨er, tb HB⟩
  rw [if_neg c10] at H
  have c10b0 : (a1_6 == (-1)) = false := beq_eq_false_iff_ne.mpr c10
  have c10b1 : (a1_6 != (-1)) = true := bne_iff_ne.mpr c10
  obtain ⟨t197, A19, H⟩ := bn H
  try dsimp only at H
  obtain rfl := oin H
  go_enter Tryz.func141, Tryz.ntmps141
  go_wp2_with (first | ((with_reducible refine gq 2 rfl ?_); refine bx0 HB (N := 2) (t := 75) ?_; clear HB; intro gb192 w20 BK192 GE192 HB) | ((with_reducible refine gq 3 rfl ?_); refine bx1 HB BK192 (N := 3) (t := 134) ?_; clear HB BK192; intro gb193 w21 BK193 GE193 HB NB192_193 NB193_192 BK192; have hnb22 := NB193_192.out; have hnc22 := NB192_193.out; have hz23 := cs9_ BK193; have hz24 := cs8_ BK192) | ((with_reducible refine gf 70 rfl ?_); refine gL 11 Tryz.func70 #[.int .i64 a1_0, .int .i64 0, .int .i64 (wrap64 ((l0_2.length : Int) - 1))] ?_; (with_reducible refine (spec_l1In.calls a1_0 0 (wrap64 ((l0_2.length : Int) - 1)) true _ A3.out).mono ?_); rintro e w' ⟨rfl, ⟨nd, rfl⟩⟩; refine ⟨_, rfl, ?_⟩) | (go_at_call 118; (with_reducible refine (spec_OpOk.calls k a1_1 a1_2 a1_3 true _ A5.out).mono ?_); rintro e w25 ⟨rfl, hb⟩; replace BK192 := bb BK192 hb; replace BK193 := bb BK193 hb; replace HB := bs HB hb; (try clear hb); have hz26 := cs9_ BK193; have hz27 := cs8_ BK192) | (go_at_call 70; (with_reducible refine (spec_l1In.calls a1_4 0 a0_3 true _ A7.out).mono ?_); rintro e w' ⟨rfl, ⟨nd, rfl⟩⟩) | (go_at_call 70; (with_reducible refine (spec_l1In.calls a1_6 a1_4 a0_3 t197 _ A19.out).mono ?_); rintro e w' ⟨rfl, ⟨nd, rfl⟩⟩))
  go_ret
  exact ⟨er, tb HB⟩
 rw [if_neg c9] at H
 have c9b0 : (a1_5 == (-1)) = false := beq_eq_false_iff_ne.mpr c9
 have c9b1 : (a1_5 != (-1)) = true := bne_iff_ne.mpr c9
 obtain ⟨t198, A28, H⟩ := bn H
 try dsimp only at H
 cases t198
 case false =>
  replace H := ipf H
  obtain rfl := oin H
  go_enter Tryz.func141, Tryz.ntmps141
  go_wp2_with (first | ((with_reducible refine gq 2 rfl ?_); refine bx0 HB (N := 2) (t := 75) ?_; clear HB; intro gb192 w48 BK192 GE192 HB) | ((with_reducible refine gq 3 rfl ?_); refine bx1 HB BK192 (N := 3) (t := 134) ?_; clear HB BK192; intro gb193 w49 BK193 GE193 HB NB192_193 NB193_192 BK192; have hnb50 := NB193_192.out; have hnc50 := NB192_193.out; have hz51 := cs9_ BK193; have hz52 := cs8_ BK192) | ((with_reducible refine gf 70 rfl ?_); refine gL 11 Tryz.func70 #[.int .i64 a1_0, .int .i64 0, .int .i64 (wrap64 ((l0_2.length : Int) - 1))] ?_; (with_reducible refine (spec_l1In.calls a1_0 0 (wrap64 ((l0_2.length : Int) - 1)) true _ A3.out).mono ?_); rintro e w' ⟨rfl, ⟨nd, rfl⟩⟩; refine ⟨_, rfl, ?_⟩) | (go_at_call 118; (with_reducible refine (spec_OpOk.calls k a1_1 a1_2 a1_3 true _ A5.out).mono ?_); rintro e w53 ⟨rfl, hb⟩; replace BK192 := bb BK192 hb; replace BK193 := bb BK193 hb; replace HB := bs HB hb; (try clear hb); have hz54 := cs9_ BK193; have hz55 := cs8_ BK192) | (go_at_call 70; (with_reducible refine (spec_l1In.calls a1_4 0 a0_3 true _ A7.out).mono ?_); rintro e w' ⟨rfl, ⟨nd, rfl⟩⟩) | (go_at_call 70; (with_reducible refine (spec_l1In.calls a1_5 a1_4 a0_3 false _ A28.out).mono ?_); rintro e w' ⟨rfl, ⟨nd, rfl⟩⟩))
  go_ret
  exact ⟨er, tb HB⟩
 replace H := ipt H
 by_cases c30 : a1_6 = (-1)
 case pos =>
  rw [if_pos c30] at H
  have c30b0 : (a1_6 == (-1)) = true := beq_iff_eq.mpr c30
  have c30b1 : (a1_6 != (-1)) = false := bne_eq_false_iff_eq.mpr c30
  clear c30
  obtain rfl := oin H
  go_enter Tryz.func141, Tryz.ntmps141
  go_wp2_with (first | ((with_reducible refine gq 2 rfl ?_); refine bx0 HB (N := 2) (t := 75) ?_; clear HB; intro gb192 w31 BK192 GE192 HB) | ((with_reducible refine gq 3 rfl ?_); refine bx1 HB BK192 (N := 3) (t := 134) ?_; clear HB BK192; intro gb193 w32 BK193 GE193 HB NB192_193 NB193_192 BK192; have hnb33 := NB193_192.out; have hnc33 := NB192_193.out; have hz34 := cs9_ BK193; have hz35 := cs8_ BK192) | ((with_reducible refine gf 70 rfl ?_); refine gL 11 Tryz.func70 #[.int .i64 a1_0, .int .i64 0, .int .i64 (wrap64 ((l0_2.length : Int) - 1))] ?_; (with_reducible refine (spec_l1In.calls a1_0 0 (wrap64 ((l0_2.length : Int) - 1)) true _ A3.out).mono ?_); rintro e w' ⟨rfl, ⟨nd, rfl⟩⟩; refine ⟨_, rfl, ?_⟩) | (go_at_call 118; (with_reducible refine (spec_OpOk.calls k a1_1 a1_2 a1_3 true _ A5.out).mono ?_); rintro e w36 ⟨rfl, hb⟩; replace BK192 := bb BK192 hb; replace BK193 := bb BK193 hb; replace HB := bs HB hb; (try clear hb); have hz37 := cs9_ BK193; have hz38 := cs8_ BK192) | (go_at_call 70; (with_reducible refine (spec_l1In.calls a1_4 0 a0_3 true _ A7.out).mono ?_); rintro e w' ⟨rfl, ⟨nd, rfl⟩⟩) | (go_at_call 70; (with_reducible refine (spec_l1In.calls a1_5 a1_4 a0_3 true _ A28.out).mono ?_); rintro e w' ⟨rfl, ⟨nd, rfl⟩⟩))
  go_ret
  exact ⟨er, tb HB⟩
 rw [if_neg c30] at H
 have c30b0 : (a1_6 == (-1)) = false := beq_eq_false_iff_ne.mpr c30
 have c30b1 : (a1_6 != (-1)) = true := bne_iff_ne.mpr c30
 obtain ⟨t199, A39, H⟩ := bn H
 try dsimp only at H
 obtain rfl := oin H
 go_enter Tryz.func141, Tryz.ntmps141
 go_wp2_with (first | ((with_reducible refine gq 2 rfl ?_); refine bx0 HB (N := 2) (t := 75) ?_; clear HB; intro gb192 w40 BK192 GE192 HB) | ((with_reducible refine gq 3 rfl ?_); refine bx1 HB BK192 (N := 3) (t := 134) ?_; clear HB BK192; intro gb193 w41 BK193 GE193 HB NB192_193 NB193_192 BK192; have hnb42 := NB193_192.out; have hnc42 := NB192_193.out; have hz43 := cs9_ BK193; have hz44 := cs8_ BK192) | ((with_reducible refine gf 70 rfl ?_); refine gL 11 Tryz.func70 #[.int .i64 a1_0, .int .i64 0, .int .i64 (wrap64 ((l0_2.length : Int) - 1))] ?_; (with_reducible refine (spec_l1In.calls a1_0 0 (wrap64 ((l0_2.length : Int) - 1)) true _ A3.out).mono ?_); rintro e w' ⟨rfl, ⟨nd, rfl⟩⟩; refine ⟨_, rfl, ?_⟩) | (go_at_call 118; (with_reducible refine (spec_OpOk.calls k a1_1 a1_2 a1_3 true _ A5.out).mono ?_); rintro e w45 ⟨rfl, hb⟩; replace BK192 := bb BK192 hb; replace BK193 := bb BK193 hb; replace HB := bs HB hb; (try clear hb); have hz46 := cs9_ BK193; have hz47 := cs8_ BK192) | (go_at_call 70; (with_reducible refine (spec_l1In.calls a1_4 0 a0_3 true _ A7.out).mono ?_); rintro e w' ⟨rfl, ⟨nd, rfl⟩⟩) | (go_at_call 70; (with_reducible refine (spec_l1In.calls a1_5 a1_4 a0_3 true _ A28.out).mono ?_); rintro e w' ⟨rfl, ⟨nd, rfl⟩⟩) | (go_at_call 70; (with_reducible refine (spec_l1In.calls a1_6 a1_4 a0_3 t199 _ A39.out).mono ?_); rintro e w' ⟨rfl, ⟨nd, rfl⟩⟩))
 go_ret
 exact ⟨er, tb HB⟩
def spec_l1Bit.f (a0 : Bool) : Option (Int) := if a0 = true then (some 1) else (some 0)
set_option maxHeartbeats 8000000 in
set_option maxRecDepth 100000 in
theorem spec_l1Bit.calls (a0 : Bool) (r : Int) (w : World) (h : spec_l1Bit.f a0 = some r) :
  Calls Tryz.prog 142 #[.bool a0] w fun e w' => e = .returned (.int .i64 r) ∧ Drawn0 w w' := by
 have H := h
 clear h
 unfold spec_l1Bit.f at H
 cases a0
 case true =>
  replace H := ipt H
  obtain rfl := oin H
  go_enter Tryz.func142, Tryz.ntmps142
  go_wp2
  go_ret
  exact ⟨rsd, by repeat (first | exact Drawn0.refl _ | apply Drawn0.step)⟩
 replace H := ipf H
 obtain rfl := oin H
 go_enter Tryz.func142, Tryz.ntmps142
 go_wp2
 go_ret
 exact ⟨rsd, by repeat (first | exact Drawn0.refl _ | apply Drawn0.step)⟩
mutual
def spec_l9Calls.l0 : Nat → Int → Int → List (S39) → List (S52) → List (S82) → Int → List (S134) → List Int → List Int → Int → Option (Bool)
 | 0, _, _, _, _, _, _, _, _, _, _ => none
 | k + 1, x3, x4, x201000, x201001, x201002, x201003, x201004, x201005, x201006, x201007 => if x4 < (x201004.length : Int) then (if 0 ≤ x4 then ((spec_l9Call.f k x201000 x201001 x201002 x201003 x201004 x201005 x201006 x201007 ((rd_T134 x201004 x4).f0) ((rd_T134 x201004 x4).f1.f0) ((rd_T134 x201004 x4).f1.f1) ((rd_T134 x201004 x4).f1.f2) ((rd_T134 x201004 x4).f2) ((rd_T134 x201004 x4).f3) ((rd_T134 x201004 x4).f4) ((rd_T134 x201004 x4).f5.f0) ((rd_T134 x201004 x4).f5.f1)).bind fun t202 => (if t202 = true then ((spec_l1Bit.f (decide (((rd_T134 x201004 x4).f3) ≥ 0))).bind fun t204 => (spec_l9Calls.l0 k (wrap64 (x3 + t204)) (wrap64 (x4 + 1)) x201000 x201001 x201002 x201003 x201004 x201005 x201006 x201007)) else (some false))) else (none)) else (spec_l9Calls.l1 k x3 0 x201000 x201001 x201002 x201003 x201004 x201005 x201006 x201007)
def spec_l9Calls.l1 : Nat → Int → Int → List (S39) → List (S52) → List (S82) → Int → List (S134) → List Int → List Int → Int → Option (Bool)
 | 0, _, _, _, _, _, _, _, _, _, _ => none
 | k + 1, x3, x5, x201000, x201001, x201002, x201003, x201004, x201005, x201006, x201007 => if x5 < (x201005.length : Int) then (if 0 ≤ x5 then ((spec_l1In.f (rd x201005 x5) 0 (wrap64 ((x201004.length : Int) - 1))).bind fun t206 => (if t206 = true then (if 0 ≤ (rd x201005 x5) then (if (rd x201005 x5) < (x201004.length : Int) then (if ((rd_T134 x201004 (rd x201005 x5)).f3) < 0 then (spec_l9Calls.j2 k x3 x5 (rd x201005 x5) true x201000 x201001 x201002 x201003 x201004 x201005 x201006 x201007) else (if x5 > 0 then (if 0 ≤ (wrap64 (x5 - 1)) then (if (wrap64 (x5 - 1)) < (x201005.length : Int) then (if 0 ≤ (rd x201005 (wrap64 (x5 - 1))) then (if (rd x201005 (wrap64 (x5 - 1))) < (x201004.length : Int) then (spec_l9Calls.j2 k x3 x5 (rd x201005 x5) (decide (((rd_T134 x201004 (rd x201005 (wrap64 (x5 - 1)))).f3) > ((rd_T134 x201004 (rd x201005 x5)).f3))) x201000 x201001 x201002 x201003 x201004 x201005 x201006 x201007) else (none)) else (none)) else (none)) else (none)) else (spec_l9Calls.j2 k x3 x5 (rd x201005 x5) false x201000 x201001 x201002 x201003 x201004 x201005 x201006 x201007))) else (none)) else (none)) else (spec_l9Calls.j2 k x3 x5 (rd x201005 x5) true x201000 x201001 x201002 x201003 x201004 x201005 x201006 x201007))) else (none)) else (if (x201004.length : Int) ≤ 40 then (some (x3 == (x201005.length : Int))) else (some false))
def spec_l9Calls.j2 : Nat → Int → Int → Int → Bool → List (S39) → List (S52) → List (S82) → Int → List (S134) → List Int → List Int → Int → Option (Bool)
 | 0, _, _, _, _, _, _, _, _, _, _, _, _ => none
 | k + 1, x3, x5, x6, x84, x201000, x201001, x201002, x201003, x201004, x201005, x201006, x201007 => if x84 = true then (some false) else (spec_l9Calls.l2 k x3 x5 x6 0 x201000 x201001 x201002 x201003 x201004 x201005 x201006 x201007)
def spec_l9Calls.l2 : Nat → Int → Int → Int → Int → List (S39) → List (S52) → List (S82) → Int → List (S134) → List Int → List Int → Int → Option (Bool)
 | 0, _, _, _, _, _, _, _, _, _, _, _, _ => none
 | k + 1, x3, x5, x6, x7, x201000, x201001, x201002, x201003, x201004, x201005, x201006, x201007 => if x7 < x5 then (if 0 ≤ x7 then (if x7 < (x201005.length : Int) then (if (rd x201005 x7) = x6 then (some false) else (spec_l9Calls.l2 k x3 x5 x6 (wrap64 (x7 + 1)) x201000 x201001 x201002 x201003 x201004 x201005 x201006 x201007)) else (none)) else (none)) else (spec_l9Calls.l1 k x3 (wrap64 (x5 + 1)) x201000 x201001 x201002 x201003 x201004 x201005 x201006 x201007)
end
def spec_l9Calls.f (k : Nat) (l0_0 : List (S39)) (l0_1 : List (S52)) (l0_2 : List (S82)) (a0_3 : Int) (l0_4 : List (S134)) (l0_5 : List Int) (l0_6 : List Int) (a0_7 : Int) : Option (Bool) := spec_l9Calls.l0 k 0 0 l0_0 l0_1 l0_2 a0_3 l0_4 l0_5 l0_6 a0_7
def spec_l9Calls.T5 : Bool × List (List Nat × List Nat) := (true, [([], []), ([], []), ([1], [1]), ([], []), ([2, 3], [2, 3]), ([4], [4]), ([0, 5], [0, 5]), ([6], [6])])
def spec_l9Calls.B5 : List Nat := [0, 0, 2, 0, 14, 30, 63, 127]
theorem spec_l9Calls.tab5 : rtab .any (opsOf Tryz.f86 5) = spec_l9Calls.T5 := by kernel_rfl
theorem spec_l9Calls.bits5 : waitsOk spec_l9Calls.T5.2 spec_l9Calls.B5 = true := by kernel_rfl
def spec_l9Calls.T12 : Bool × List (List Nat × List Nat) := (true, [([], []), ([], []), ([1], [1]), ([2], [2]), ([3], [3]), ([0, 4], [0, 4]), ([5], [5]), ([6, 5], [6]), ([7], [7]), ([8, 7], [7, 8]), ([7], [7]), ([9, 10, 7], [7, 9, 10]), ([11, 7], [7, 11]), ([12, 7], [7, 12]), ([13, 7], [7, 13]), ([7, 14], [7, 14]), ([15, 7], [15]), ([16], [16]), ([17, 16], [16, 17]), ([18, 16, 16], [16, 18]), ([19], [19]), ([20, 19], [19, 20]), ([19], [19]), ([22, 19], [19, 22]), ([19], [19]), ([24, 19], [19, 24]), ([23, 25, 19], [19, 23, 25]), ([26, 19], [19, 26]), ([21, 27, 19], [19, 21, 27]), ([28, 19], [19, 28]), ([29, 19], [19, 29]), ([19], [19]), ([31, 19], [19, 31]), ([19], [19]), ([32, 33, 19], [19, 32, 33]), ([34, 19], [19, 34]), ([35, 19], [19, 35]), ([30, 36, 19], [19, 30, 36]), ([19, 37, 16], [16, 19, 37]), ([16, 38], [16, 38])])
def spec_l9Calls.B12 : List Nat := [0, 0, 2, 6, 14, 31, 63, 127, 255, 511, 255, 2047, 4095, 8191, 16383, 32767, 65535, 131071, 262143, 524287, 1048575, 2097151, 1048575, 5242879, 1048575, 17825791, 63963135, 131071999, 268435455, 536870911, 1073741823, 1048575, 2148532223, 1048575, 15033434111, 32213303295, 66573041663, 137438953471, 274877906943, 549755813887]
theorem spec_l9Calls.tab12 : rtab .any (opsOf Tryz.f86 12) = spec_l9Calls.T12 := by kernel_rfl
theorem spec_l9Calls.bits12 : waitsOk spec_l9Calls.T12.2 spec_l9Calls.B12 = true := by kernel_rfl
set_option maxHeartbeats 8000000 in
set_option maxRecDepth 100000 in
theorem spec_l9Calls.calls (k : Nat) (A0_0 : Option Addr) (c0_0 : Nat) (l0_0 : List (S39)) (A0_1 : Option Addr) (c0_1 : Nat) (l0_1 : List (S52)) (A0_2 : Option Addr) (c0_2 : Nat) (l0_2 : List (S82)) (a0_3 : Int) (A0_4 : Option Addr) (c0_4 : Nat) (l0_4 : List (S134)) (A0_5 : Option Addr) (c0_5 : Nat) (l0_5 : List Int) (A0_6 : Option Addr) (c0_6 : Nat) (l0_6 : List Int) (a0_7 : Int) (r : Bool) (w : World) (hr0_0 : Kd.C k39 w A0_0 l0_0.length l0_0) (hc0_0 : l0_0.length ≤ c0_0) (hr0_1 : Kd.C k52 w A0_1 l0_1.length l0_1) (hc0_1 : l0_1.length ≤ c0_1) (hr0_2 : Kd.C k82 w A0_2 l0_2.length l0_2) (hc0_2 : l0_2.length ≤ c0_2) (hr0_4 : Kd.C k134 w A0_4 l0_4.length l0_4) (hc0_4 : l0_4.length ≤ c0_4) (hr0_5 : Kd.C (Kd.int .i64) w A0_5 l0_5.length l0_5) (hc0_5 : l0_5.length ≤ c0_5) (hr0_6 : Kd.C (Kd.int .i64) w A0_6 l0_6.length l0_6) (hc0_6 : l0_6.length ≤ c0_6) (h : spec_l9Calls.f k l0_0 l0_1 l0_2 a0_3 l0_4 l0_5 l0_6 a0_7 = some r) :
  Calls Tryz.prog 86 #[.agg #[.slice A0_0 l0_0.length c0_0, .slice A0_1 l0_1.length c0_1, .slice A0_2 l0_2.length c0_2, .int .i64 a0_3, .slice A0_4 l0_4.length c0_4, .slice A0_5 l0_5.length c0_5, .slice A0_6 l0_6.length c0_6, .int .i64 a0_7]] w fun e w' => e = .returned (.bool r) ∧ Below w.heap.size w w' := by
 have hu75 := Tryz.underlying75
 have hu134 := Tryz.underlying134
 have HR0_0 := Aside0.mk hr0_0
 have HC0_0 := Aside0.mk hc0_0
 clear hr0_0 hc0_0
 have HR0_1 := Aside0.mk hr0_1
 have HC0_1 := Aside0.mk hc0_1
 clear hr0_1 hc0_1
 have HR0_2 := Aside0.mk hr0_2
 have HC0_2 := Aside0.mk hc0_2
 clear hr0_2 hc0_2
 have HR0_4 := Aside0.mk hr0_4
 have HC0_4 := Aside0.mk hc0_4
 clear hr0_4 hc0_4
 have HR0_5 := Aside0.mk hr0_5
 have HC0_5 := Aside0.mk hc0_5
 clear hr0_5 hc0_5
 have HR0_6 := Aside0.mk hr0_6
 have HC0_6 := Aside0.mk hc0_6
 clear hr0_6 hc0_6
 have HB := Aside0.mk (Below.refl w.heap.size w)
 have H := h
 clear h
 unfold spec_l9Calls.f at H
 have H' := Aside0.mk H
 clear H
 go_enter Tryz.func86, Tryz.ntmps86
 go_wp2_with (first | ((with_reducible refine gq 1 rfl ?_); (try (refine gate_guard (by rfl) ?_; dsimp only)); refine bx0 HB (N := 1) (t := 75) ?_; clear HB; intro gb200 w2 BK200 GE200 HB))
 go_loopg [3, 4] k (fun kq v3 v4 w' => ∃ (x3_1 : Int) (x4_1 : Int), v3 = .int .i64 x3_1 ∧ v4 = .int .i64 x4_1 ∧ Aside0 (spec_l9Calls.l0 kq x3_1 x4_1 l0_0 l0_1 l0_2 a0_3 l0_4 l0_5 l0_6 a0_7 = some r) ∧ Aside0 (kq ≤ k) ∧ Aside0 (w'.heap[gb200]? = some (.cells #[(.slice A0_0 l0_0.length c0_0), (.slice A0_1 l0_1.length c0_1), (.slice A0_2 l0_2.length c0_2), .int .i64 a0_3, (.slice A0_4 l0_4.length c0_4), (.slice A0_5 l0_5.length c0_5), (.slice A0_6 l0_6.length c0_6), .int .i64 a0_7] 75 (0, 0))) ∧ Aside0 (Below w.heap.size w w'))
 case atStart => exact ⟨(0), (0), rsd, rsd, H', ⟨Nat.le_refl _⟩, ⟨by (with_reducible repeat (first | refine blk_drewN ?_ _ | refine blk_drew ?_ | refine blk_alloc ?_ _)); exact BK200.out⟩, ⟨tb HB⟩⟩
 case round =>
  clear H'
  try clear p2
  obtain ⟨x3_1, x4_1, rfl, rfl, HA, HK1, BK200, HB⟩ := hrel
  cases gk with
  | zero => exact absurd HA.out (by simp [spec_l9Calls.l0])
  | succ k1 =>
   have H := HA.out
   clear HA
   simp only [spec_l9Calls.l0] at H
   revert H; refine icd (fun c3b0 H => ?pos) fun c3b0 H => ?_
   case pos =>
    obtain ⟨c4b0, H⟩ := itd H
    obtain ⟨t202, A5, H⟩ := bn H
    try dsimp only at H
    cases t202
    case false =>
     replace H := ipf H
     obtain rfl := oin H
     have hz12 := cs8_ BK200
     try go_wp2
     replace BK200 := bd BK200
     replace HB := Aside0.mk (below_drew1 HB.out)
     have p201 : 0 ≤ (x4_1 : Int) := od
     have q201 : x4_1 < (l0_4.length : Int) := od
     obtain ⟨ad201, A201_8, c201_8, e201, hx201, hl201_8, hi201_8⟩ := att134 HR0_4.out x4_1 p201 q201
     have hw201 := hx201
     cases e201
     replace hx201 := ox9 HB hx201
     have HR201_8 := Aside0.mk hi201_8
     have HC201_8 := Aside0.mk hl201_8
     clear hi201_8 hl201_8
     replace p201 := eq_true p201
     replace q201 := eq_true q201
     refine start_ (n := 8) (S := fun w' => cS8 gb200 (.slice A0_0 l0_0.length c0_0) (.slice A0_1 l0_1.length c0_1) (.slice A0_2 l0_2.length c0_2) (.int .i64 a0_3) (.slice (some ad201) l0_4.length c0_4) (.slice A0_5 l0_5.length c0_5) (.slice A0_6 l0_6.length c0_6) (.int .i64 a0_7) w' ∧ eT134 (ad201.add ((x4_1).toNat * 9)) (rd_T134 l0_4 x4_1) A201_8 c201_8 w') (ds := []) #[false, false, false, false, false, false, false, false] (by kernel_rfl) rfl rfl ⟨ds8_ BK200, (ox9 HB hw201 :)⟩ (fun hHeld => ?_); refine with_tabW spec_l9Calls.tab5 spec_l9Calls.bits5 (fun HT_ HW_ => ?_)
     generalize wr.drew = w13 at BK200 HB HR201_8 hx201 hHeld ⊢
     refine pu 1 16 ?_; refine pu 3 18 ?_; refine ta 0 15 ?_; refine ta 2 17 ?_; refine pu 4 19 ?_; refine ta 5 20 ?_
     refine on1 6 (some 21) (fun K hK => ?_)
     refine gS Tryz.func141 #[.agg #[.slice A0_0 l0_0.length c0_0, .slice A0_1 l0_1.length c0_1, .slice A0_2 l0_2.length c0_2, .int .i64 a0_3, .slice (some ad201) l0_4.length c0_4, .slice A0_5 l0_5.length c0_5, .slice A0_6 l0_6.length c0_6, .int .i64 a0_7], .agg #[.int .i64 ((rd_T134 l0_4 x4_1).f0), .int .i64 ((rd_T134 l0_4 x4_1).f1.f0), .int .i64 ((rd_T134 l0_4 x4_1).f1.f1), .int .i64 ((rd_T134 l0_4 x4_1).f1.f2), .int .i64 ((rd_T134 l0_4 x4_1).f2), .int .i64 ((rd_T134 l0_4 x4_1).f3), .int .i64 ((rd_T134 l0_4 x4_1).f4), .int .i64 ((rd_T134 l0_4 x4_1).f5.f0), .slice A201_8 ((rd_T134 l0_4 x4_1).f5.f1).length c201_8]] ?_
     with_reducible refine (spec_l9Call.calls k1 _ _ l0_0 _ _ l0_1 _ _ l0_2 a0_3 _ _ l0_4 _ _ l0_5 _ _ l0_6 a0_7 ((rd_T134 l0_4 x4_1).f0) ((rd_T134 l0_4 x4_1).f1.f0) ((rd_T134 l0_4 x4_1).f1.f1) ((rd_T134 l0_4 x4_1).f1.f2) ((rd_T134 l0_4 x4_1).f2) ((rd_T134 l0_4 x4_1).f3) ((rd_T134 l0_4 x4_1).f4) ((rd_T134 l0_4 x4_1).f5.f0) _ _ ((rd_T134 l0_4 x4_1).f5.f1) false _ ?side1 ?side2 ?side3 ?side4 ?side5 ?side6 ?side7 ?side8 ?side9 ?side10 ?side11 ?side12 ?side13 ?side14 A5.out).mono ?_
     (case side1 => exact kc HR0_0 HB)
     (case side2 => exact HC0_0.out)
     (case side3 => exact kc HR0_1 HB)
     (case side4 => exact HC0_1.out)
     (case side5 => exact kc HR0_2 HB)
     (case side6 => exact HC0_2.out)
     (case side7 => exact kc HR0_4 HB)
     (case side8 => exact HC0_4.out)
     (case side9 => exact kc HR0_5 HB)
     (case side10 => exact HC0_5.out)
     (case side11 => exact kc HR0_6 HB)
     (case side12 => exact HC0_6.out)
     (case side13 => exact kc HR201_8 HB)
     (case side14 => exact HC201_8.out)
     rintro e w14 ⟨rfl, hb⟩
     refine ⟨_, rfl, ?_⟩
     replace BK200 := bb BK200 hb
     replace HB := bs HB hb
     (try clear hb)
     (try clear hb2)
     (try clear hk)
     (try clear hi)
     refine hK.out _ _ ⟨ds8_ BK200, (ox9 HB hw201 :)⟩ (fun hHeld => ?_)
     clear hK K
     refine nm 21 ?_
     refine pu 7 22 ?_
     refine done_ (done_of HT_.out (by kernel_rfl)) ?_
     try go_wp2
     go_ret
     exact ⟨er, tb HB⟩
    replace H := ipt H
    obtain ⟨t204, A7, H⟩ := bn H
    try dsimp only at H
    have H' := Aside0.mk H
    clear H
    have hz8 := cs8_ BK200
    try go_wp2
    replace BK200 := bd BK200
    replace HB := Aside0.mk (below_drew1 HB.out)
    have p201 : 0 ≤ (x4_1 : Int) := od
    have q201 : x4_1 < (l0_4.length : Int) := od
    obtain ⟨ad201, A201_8, c201_8, e201, hx201, hl201_8, hi201_8⟩ := att134 HR0_4.out x4_1 p201 q201
    have hw201 := hx201
    cases e201
    replace hx201 := ox9 HB hx201
    have HR201_8 := Aside0.mk hi201_8
    have HC201_8 := Aside0.mk hl201_8
    clear hi201_8 hl201_8
    replace p201 := eq_true p201
    replace q201 := eq_true q201
    refine start_ (n := 8) (S := fun w' => cS8 gb200 (.slice A0_0 l0_0.length c0_0) (.slice A0_1 l0_1.length c0_1) (.slice A0_2 l0_2.length c0_2) (.int .i64 a0_3) (.slice (some ad201) l0_4.length c0_4) (.slice A0_5 l0_5.length c0_5) (.slice A0_6 l0_6.length c0_6) (.int .i64 a0_7) w' ∧ eT134 (ad201.add ((x4_1).toNat * 9)) (rd_T134 l0_4 x4_1) A201_8 c201_8 w') (ds := []) #[false, false, false, false, false, false, false, false] (by kernel_rfl) rfl rfl ⟨ds8_ BK200, (ox9 HB hw201 :)⟩ (fun hHeld => ?_); refine with_tabW spec_l9Calls.tab5 spec_l9Calls.bits5 (fun HT_ HW_ => ?_)
    generalize wr.drew = w9 at BK200 HB HR201_8 hx201 hHeld ⊢
    refine pu 1 16 ?_; refine pu 3 18 ?_; refine ta 0 15 ?_; refine ta 2 17 ?_; refine pu 4 19 ?_; refine ta 5 20 ?_
    refine on1 6 (some 21) (fun K hK => ?_)
    refine gS Tryz.func141 #[.agg #[.slice A0_0 l0_0.length c0_0, .slice A0_1 l0_1.length c0_1, .slice A0_2 l0_2.length c0_2, .int .i64 a0_3, .slice (some ad201) l0_4.length c0_4, .slice A0_5 l0_5.length c0_5, .slice A0_6 l0_6.length c0_6, .int .i64 a0_7], .agg #[.int .i64 ((rd_T134 l0_4 x4_1).f0), .int .i64 ((rd_T134 l0_4 x4_1).f1.f0), .int .i64 ((rd_T134 l0_4 x4_1).f1.f1), .int .i64 ((rd_T134 l0_4 x4_1).f1.f2), .int .i64 ((rd_T134 l0_4 x4_1).f2), .int .i64 ((rd_T134 l0_4 x4_1).f3), .int .i64 ((rd_T134 l0_4 x4_1).f4), .int .i64 ((rd_T134 l0_4 x4_1).f5.f0), .slice A201_8 ((rd_T134 l0_4 x4_1).f5.f1).length c201_8]] ?_
    with_reducible refine (spec_l9Call.calls k1 _ _ l0_0 _ _ l0_1 _ _ l0_2 a0_3 _ _ l0_4 _ _ l0_5 _ _ l0_6 a0_7 ((rd_T134 l0_4 x4_1).f0) ((rd_T134 l0_4 x4_1).f1.f0) ((rd_T134 l0_4 x4_1).f1.f1) ((rd_T134 l0_4 x4_1).f1.f2) ((rd_T134 l0_4 x4_1).f2) ((rd_T134 l0_4 x4_1).f3) ((rd_T134 l0_4 x4_1).f4) ((rd_T134 l0_4 x4_1).f5.f0) _ _ ((rd_T134 l0_4 x4_1).f5.f1) true _ ?side1 ?side2 ?side3 ?side4 ?side5 ?side6 ?side7 ?side8 ?side9 ?side10 ?side11 ?side12 ?side13 ?side14 A5.out).mono ?_
    (case side1 => exact kc HR0_0 HB)
    (case side2 => exact HC0_0.out)
    (case side3 => exact kc HR0_1 HB)
    (case side4 => exact HC0_1.out)
    (case side5 => exact kc HR0_2 HB)
    (case side6 => exact HC0_2.out)
    (case side7 => exact kc HR0_4 HB)
    (case side8 => exact HC0_4.out)
    (case side9 => exact kc HR0_5 HB)
    (case side10 => exact HC0_5.out)
    (case side11 => exact kc HR0_6 HB)
    (case side12 => exact HC0_6.out)
    (case side13 => exact kc HR201_8 HB)
    (case side14 => exact HC201_8.out)
    rintro e w10 ⟨rfl, hb⟩
    refine ⟨_, rfl, ?_⟩
    replace BK200 := bb BK200 hb
    replace HB := bs HB hb
    (try clear hb)
    (try clear hb2)
    (try clear hk)
    (try clear hi)
    refine hK.out _ _ ⟨ds8_ BK200, (ox9 HB hw201 :)⟩ (fun hHeld => ?_)
    clear hK K
    refine nm 21 ?_
    refine pu 7 22 ?_
    refine done_ (done_of HT_.out (by kernel_rfl)) ?_
    have hz11 := cs8_ BK200
    have p203 : 0 ≤ (x4_1 : Int) := od
    have q203 : x4_1 < (l0_4.length : Int) := od
    obtain ⟨ad203, A203_8, c203_8, e203, hx203_0, hx203_1, hx203_2, hx203_3, hx203_4, hx203_5, hx203_6, hx203_7, hx203_8, hl203_8, hi203_8⟩ := at_T134 HR0_4.out x4_1 p203 q203
    obtain rfl : ad201 = ad203 := (by injection e203)
    replace hx203_0 := ox HB hx203_0
    replace hx203_1 := ox HB hx203_1
    replace hx203_2 := ox HB hx203_2
    replace hx203_3 := ox HB hx203_3
    replace hx203_4 := ox HB hx203_4
    replace hx203_5 := ox HB hx203_5
    replace hx203_6 := ox HB hx203_6
    replace hx203_7 := ox HB hx203_7
    replace hx203_8 := ox HB hx203_8
    have HR203_8 := Aside0.mk hi203_8
    have HC203_8 := Aside0.mk hl203_8
    clear hi203_8 hl203_8
    replace p203 := eq_true p203
    replace q203 := eq_true q203
    try go_wp2_with (first | ((with_reducible refine gf 142 rfl ?_); refine gL 31 Tryz.func142 #[.bool (decide (((rd_T134 l0_4 x4_1).f3) ≥ 0))] ?_; (with_reducible refine (spec_l1Bit.calls (decide (((rd_T134 l0_4 x4_1).f3) ≥ 0)) t204 _ A7.out).mono ?_); rintro e w' ⟨rfl, ⟨nd, rfl⟩⟩; refine ⟨_, rfl, ?_⟩))
    go_roundg k1
    case measure => have := HK1.out; omega
    case rel => exact ⟨(wrap64 (x3_1 + t204)), (wrap64 (x4_1 + 1)), rsd, rsd, H', ⟨by have := HK1.out; omega⟩, ⟨by (with_reducible repeat (first | refine blk_drewN ?_ _ | refine blk_drew ?_ | refine blk_alloc ?_ _)); exact BK200.out⟩, ⟨tb HB⟩⟩
   have H' := Aside0.mk H
   clear H
   have hz15 := cs8_ BK200
   go_wp2
   go_loopg [5] k1 (fun kq v5 w' => ∃ (x5_2 : Int), v5 = .int .i64 x5_2 ∧ Aside0 (spec_l9Calls.l1 kq x3_1 x5_2 l0_0 l0_1 l0_2 a0_3 l0_4 l0_5 l0_6 a0_7 = some r) ∧ Aside0 (kq ≤ k1) ∧ Aside0 (w'.heap[gb200]? = some (.cells #[(.slice A0_0 l0_0.length c0_0), (.slice A0_1 l0_1.length c0_1), (.slice A0_2 l0_2.length c0_2), .int .i64 a0_3, (.slice A0_4 l0_4.length c0_4), (.slice A0_5 l0_5.length c0_5), (.slice A0_6 l0_6.length c0_6), .int .i64 a0_7] 75 (0, 0))) ∧ Aside0 (Below w.heap.size w w'))
   case atStart => exact ⟨(0), rsd, H', ⟨Nat.le_refl _⟩, ⟨by (with_reducible repeat (first | refine blk_drewN ?_ _ | refine blk_drew ?_ | refine blk_alloc ?_ _)); exact BK200.out⟩, ⟨tb HB⟩⟩
   case round =>
    clear H'
    try clear c1
    try clear c2
    try clear p2
    try clear q2
    try clear hx2
    try clear c3
    try clear c3b0
    try clear c4
    try clear c4b0
    try clear c6
    try clear p6
    try clear c8
    try clear c14
    try clear hz11
    try clear hz12
    try clear hz15
    try clear hz8
    try clear hz11
    try clear hz12
    try clear hz15
    try clear hz8
    try clear hx201
    try clear hx203_0
    try clear hx203_1
    try clear hx203_2
    try clear hx203_3
    try clear hx203_4
    try clear hx203_5
    try clear hx203_6
    try clear hx203_7
    try clear hx203_8
    try clear p2
    try clear p201
    try clear p203
    try clear q201
    try clear q203
    obtain ⟨x5_2, rfl, HA, HK2, BK200, HB⟩ := hrel
    cases gk with
    | zero => exact absurd HA.out (by simp [spec_l9Calls.l1])
    | succ k2 =>
     have H := HA.out
     clear HA
     simp only [spec_l9Calls.l1] at H
     revert H; refine icd (fun c16b0 H => ?_) fun c16b0 H => ?neg
     case neg =>
      by_cases c42 : (l0_4.length : Int) ≤ 40
      case pos =>
       rw [if_pos c42] at H
       have c42b0 := decide_eq_true c42
       have c42b1 : decide (l0_4.length ≤ 40) = true := decide_eq_true (by omega)
       clear c42
       obtain rfl := oin H
       have hz43 := cs8_ BK200
       go_wp2
       go_ret
       exact ⟨er, tb HB⟩
      rw [if_neg c42] at H
      have c42b0 := decide_eq_false c42
      have c42b1 : decide (l0_4.length ≤ 40) = false := decide_eq_false (by omega)
      clear c42
      obtain rfl := oin H
      have hz44 := cs8_ BK200
      go_wp2
      go_ret
      exact ⟨er, tb HB⟩
     obtain ⟨c17b0, H⟩ := itd H
     have HC18 := Aside0.mk H
     clear H
     have hz19 := cs8_ BK200
     have p205 : 0 ≤ (x5_2 : Int) := od
     have q205 : x5_2 < (l0_5.length : Int) := od
     obtain ⟨ad205, e205, hx205_0⟩ := Kd.at_int HR0_5.out x5_2 p205 q205
     cases e205
     replace hx205_0 := ox HB hx205_0
     replace p205 := eq_true p205
     replace q205 := eq_true q205
     go_upto_region 12 with (fail)
     go_cut [84] (fun v84 wc => ∃ (kq : Nat) (x84_17 : Bool), v84 = .bool x84_17 ∧ Aside0 (spec_l9Calls.j2 kq x3_1 x5_2 (rd l0_5 x5_2) x84_17 l0_0 l0_1 l0_2 a0_3 l0_4 l0_5 l0_6 a0_7 = some r) ∧ Aside0 (kq ≤ k2) ∧ Aside0 (wc.heap[gb200]? = some (.cells #[(.slice A0_0 l0_0.length c0_0), (.slice A0_1 l0_1.length c0_1), (.slice A0_2 l0_2.length c0_2), .int .i64 a0_3, (.slice A0_4 l0_4.length c0_4), (.slice (some ad205) l0_5.length c0_5), (.slice A0_6 l0_6.length c0_6), .int .i64 a0_7] 75 (0, 0))) ∧ Aside0 (Below w.heap.size w wc))
     case first =>
      have H := HC18.out
      clear HC18
      obtain ⟨t206, A20, H⟩ := bn H
      try dsimp only at H
      cases t206
      case false =>
       replace H := ipf H
       have H' := Aside0.mk H
       clear H
       try go_wp2
       replace BK200 := bd BK200
       replace HB := Aside0.mk (below_drew1 HB.out)
       refine start_ (n := 40) (S := fun w' => cS8 gb200 (.slice A0_0 l0_0.length c0_0) (.slice A0_1 l0_1.length c0_1) (.slice A0_2 l0_2.length c0_2) (.int .i64 a0_3) (.slice A0_4 l0_4.length c0_4) (.slice (some ad205) l0_5.length c0_5) (.slice A0_6 l0_6.length c0_6) (.int .i64 a0_7) w') (ds := []) #[false, false, false, false, false, false, false, false, false, false, false, false, false, false, false, false, false, false, false, false, false, false, false, false, false, false, false, false, false, false, false, false, false, false, false, false, false, false, false, false] (by kernel_rfl) rfl rfl (ds8_ BK200) (fun hHeld => ?_); refine with_tabW spec_l9Calls.tab12 spec_l9Calls.bits12 (fun HT_ HW_ => ?_)
       generalize wr.drew = w34 at BK200 HB hHeld ⊢
       refine pu 0 45 ?_; refine pu 1 46 ?_; refine ta 2 47 ?_; refine pu 3 48 ?_; refine pu 4 49 ?_
       refine on1 5 (some 50) (fun K hK => ?_)
       refine gS Tryz.func70 #[.int .i64 (rd l0_5 x5_2), .int .i64 0, .int .i64 (wrap64 ((l0_4.length : Int) - 1))] ?_
       with_reducible refine (spec_l1In.calls (rd l0_5 x5_2) 0 (wrap64 ((l0_4.length : Int) - 1)) false _ A20.out).mono ?_
       rintro e w' ⟨rfl, ⟨nd, rfl⟩⟩
       refine ⟨_, rfl, ?_⟩
       refine hK.out _ _ (ds8_ BK200) (fun hHeld => ?_)
       clear hK K
       refine nm 50 ?_
       refine pu 6 51 ?_; refine pu 7 52 ?_; refine pn 8 53 ?_; refine pn 9 54 ?_; refine pn 10 55 ?_; refine pn 11 56 ?_; refine pn 12 57 ?_; refine pn 13 58 ?_; refine pn 14 59 ?_; refine pu 15 60 ?_; refine pu 16 61 ?_; refine pn 17 62 ?_
       refine pn 18 63 ?_; refine pn 19 64 ?_; refine pn 20 65 ?_; refine pn 21 66 ?_; refine pn 22 67 ?_; refine pn 23 68 ?_; refine pn 24 69 ?_; refine pn 25 70 ?_; refine pn 26 71 ?_; refine pn 27 72 ?_; refine pn 28 73 ?_; refine pn 29 74 ?_
       refine pn 30 75 ?_; refine pn 31 76 ?_; refine pn 32 77 ?_; refine pn 33 78 ?_; refine pn 34 79 ?_; refine pn 35 80 ?_; refine pn 36 81 ?_; refine pn 37 82 ?_; refine pn 38 83 ?_; refine pu 39 84 ?_
       refine done_ (done_of HT_.out (by kernel_rfl)) ?_
       try go_wp2
       go_meet
       case rel => exact ⟨_, (true), rsd, H', ⟨by have := HK1.out; have := HK2.out; first | omega | exact Nat.le_refl _⟩, ⟨by (with_reducible repeat (first | refine blk_drewN ?_ _ | refine blk_drew ?_ | refine blk_alloc ?_ _)); exact BK200.out⟩, ⟨tb HB⟩⟩
      replace H := ipt H
      obtain ⟨c22b0, H⟩ := itd H
      (first | rw [c22b0] | (simp only [i64_w, i32_w]; rw [c22b0]) | skip)
      obtain ⟨c23b0, H⟩ := itd H
      revert H; refine icd (fun c24b0 H => ?pos) fun c24b0 H => ?_
      case pos =>
       have H' := Aside0.mk H
       clear H
       try go_wp2
       replace BK200 := bd BK200
       replace HB := Aside0.mk (below_drew1 HB.out)
       have p207 : 0 ≤ ((rd l0_5 x5_2) : Int) := od
       have q207 : (rd l0_5 x5_2) < (l0_4.length : Int) := od
       obtain ⟨ad207, A207_8, c207_8, e207, hx207, hl207_8, hi207_8⟩ := att134 HR0_4.out (rd l0_5 x5_2) p207 q207
       have hw207 := hx207
       cases e207
       replace hx207 := ox9 HB hx207
       have HR207_8 := Aside0.mk hi207_8
       have HC207_8 := Aside0.mk hl207_8
       clear hi207_8 hl207_8
       replace p207 := eq_true p207
       replace q207 := eq_true q207
       refine start_ (n := 40) (S := fun w' => cS8 gb200 (.slice A0_0 l0_0.length c0_0) (.slice A0_1 l0_1.length c0_1) (.slice A0_2 l0_2.length c0_2) (.int .i64 a0_3) (.slice (some ad207) l0_4.length c0_4) (.slice (some ad205) l0_5.length c0_5) (.slice A0_6 l0_6.length c0_6) (.int .i64 a0_7) w' ∧ eT134 (ad207.add (((rd l0_5 x5_2)).toNat * 9)) (rd_T134 l0_4 (rd l0_5 x5_2)) A207_8 c207_8 w') (ds := []) #[false, false, false, false, false, false, false, false, false, false, false, false, false, false, false, false, false, false, false, false, false, false, false, false, false, false, false, false, false, false, false, false, false, false, false, false, false, false, false, false] (by kernel_rfl) rfl rfl ⟨ds8_ BK200, (ox9 HB hw207 :)⟩ (fun hHeld => ?_); refine with_tabW spec_l9Calls.tab12 spec_l9Calls.bits12 (fun HT_ HW_ => ?_)
       generalize wr.drew = w25 at BK200 HB HR207_8 hx207 hHeld ⊢
       refine pu 0 45 ?_; refine pu 1 46 ?_; refine ta 2 47 ?_; refine pu 3 48 ?_; refine pu 4 49 ?_
       refine on1 5 (some 50) (fun K hK => ?_)
       refine gS Tryz.func70 #[.int .i64 (rd l0_5 x5_2), .int .i64 0, .int .i64 (wrap64 ((l0_4.length : Int) - 1))] ?_
       with_reducible refine (spec_l1In.calls (rd l0_5 x5_2) 0 (wrap64 ((l0_4.length : Int) - 1)) true _ A20.out).mono ?_
       rintro e w' ⟨rfl, ⟨nd, rfl⟩⟩
       refine ⟨_, rfl, ?_⟩
       refine hK.out _ _ ⟨ds8_ BK200, (ox9 HB hw207 :)⟩ (fun hHeld => ?_)
       clear hK K
       refine nm 50 ?_
       refine pu 6 51 ?_; refine pu 7 52 ?_; refine pu 8 53 ?_; refine pu 10 55 ?_; refine ta 9 54 ?_; refine pu 11 56 ?_; refine pu 12 57 ?_; refine ta 13 58 ?_; refine pu 14 59 ?_; refine pu 15 60 ?_; refine pu 16 61 ?_; refine pn 17 62 ?_
       refine pn 18 63 ?_; refine pn 19 64 ?_; refine pn 20 65 ?_; refine pn 21 66 ?_; refine pn 22 67 ?_; refine pn 23 68 ?_; refine pn 24 69 ?_; refine pn 25 70 ?_; refine pn 26 71 ?_; refine pn 27 72 ?_; refine pn 28 73 ?_; refine pn 29 74 ?_
       refine pn 30 75 ?_; refine pn 31 76 ?_; refine pn 32 77 ?_; refine pn 33 78 ?_; refine pn 34 79 ?_; refine pn 35 80 ?_; refine pn 36 81 ?_; refine pn 37 82 ?_; refine pn 38 83 ?_; refine pu 39 84 ?_
       refine done_ (done_of HT_.out (by kernel_rfl)) ?_
       try go_wp2
       go_meet
       case rel => exact ⟨_, (true), rsd, H', ⟨by have := HK1.out; have := HK2.out; first | omega | exact Nat.le_refl _⟩, ⟨by (with_reducible repeat (first | refine blk_drewN ?_ _ | refine blk_drew ?_ | refine blk_alloc ?_ _)); exact BK200.out⟩, ⟨tb HB⟩⟩
      revert H; refine icd (fun c26b0 H => ?_) fun c26b0 H => ?neg
      case neg =>
       have H' := Aside0.mk H
       clear H
       try go_wp2
       replace BK200 := bd BK200
       replace HB := Aside0.mk (below_drew1 HB.out)
       have p207 : 0 ≤ ((rd l0_5 x5_2) : Int) := od
       have q207 : (rd l0_5 x5_2) < (l0_4.length : Int) := od
       obtain ⟨ad207, A207_8, c207_8, e207, hx207, hl207_8, hi207_8⟩ := att134 HR0_4.out (rd l0_5 x5_2) p207 q207
       have hw207 := hx207
       cases e207
       replace hx207 := ox9 HB hx207
       have HR207_8 := Aside0.mk hi207_8
       have HC207_8 := Aside0.mk hl207_8
       clear hi207_8 hl207_8
       replace p207 := eq_true p207
       replace q207 := eq_true q207
       refine start_ (n := 40) (S := fun w' => cS8 gb200 (.slice A0_0 l0_0.length c0_0) (.slice A0_1 l0_1.length c0_1) (.slice A0_2 l0_2.length c0_2) (.int .i64 a0_3) (.slice (some ad207) l0_4.length c0_4) (.slice (some ad205) l0_5.length c0_5) (.slice A0_6 l0_6.length c0_6) (.int .i64 a0_7) w' ∧ eT134 (ad207.add (((rd l0_5 x5_2)).toNat * 9)) (rd_T134 l0_4 (rd l0_5 x5_2)) A207_8 c207_8 w') (ds := []) #[false, false, false, false, false, false, false, false, false, false, false, false, false, false, false, false, false, false, false, false, false, false, false, false, false, false, false, false, false, false, false, false, false, false, false, false, false, false, false, false] (by kernel_rfl) rfl rfl ⟨ds8_ BK200, (ox9 HB hw207 :)⟩ (fun hHeld => ?_); refine with_tabW spec_l9Calls.tab12 spec_l9Calls.bits12 (fun HT_ HW_ => ?_)
       generalize wr.drew = w33 at BK200 HB HR207_8 hx207 hHeld ⊢
       refine pu 0 45 ?_; refine pu 1 46 ?_; refine ta 2 47 ?_; refine pu 3 48 ?_; refine pu 4 49 ?_
       refine on1 5 (some 50) (fun K hK => ?_)
       refine gS Tryz.func70 #[.int .i64 (rd l0_5 x5_2), .int .i64 0, .int .i64 (wrap64 ((l0_4.length : Int) - 1))] ?_
       with_reducible refine (spec_l1In.calls (rd l0_5 x5_2) 0 (wrap64 ((l0_4.length : Int) - 1)) true _ A20.out).mono ?_
       rintro e w' ⟨rfl, ⟨nd, rfl⟩⟩
       refine ⟨_, rfl, ?_⟩
       refine hK.out _ _ ⟨ds8_ BK200, (ox9 HB hw207 :)⟩ (fun hHeld => ?_)
       clear hK K
       refine nm 50 ?_
       refine pu 6 51 ?_; refine pu 7 52 ?_; refine pu 8 53 ?_; refine pu 10 55 ?_; refine ta 9 54 ?_; refine pu 11 56 ?_; refine pu 12 57 ?_; refine ta 13 58 ?_; refine pu 14 59 ?_; refine pu 15 60 ?_; refine pu 16 61 ?_; refine pu 17 62 ?_
       refine pu 18 63 ?_; refine pu 19 64 ?_; refine pn 20 65 ?_; refine pn 21 66 ?_; refine pn 22 67 ?_; refine pn 23 68 ?_; refine pn 24 69 ?_; refine pn 25 70 ?_; refine pn 26 71 ?_; refine pn 27 72 ?_; refine pn 28 73 ?_; refine pn 29 74 ?_
       refine pn 30 75 ?_; refine pn 31 76 ?_; refine pn 32 77 ?_; refine pn 33 78 ?_; refine pn 34 79 ?_; refine pn 35 80 ?_; refine pn 36 81 ?_; refine pn 37 82 ?_; refine pu 38 83 ?_; refine pu 39 84 ?_
       refine done_ (done_of HT_.out (by kernel_rfl)) ?_
       try go_wp2
       go_meet
       case rel => exact ⟨_, (false), rsd, H', ⟨by have := HK1.out; have := HK2.out; first | omega | exact Nat.le_refl _⟩, ⟨by (with_reducible repeat (first | refine blk_drewN ?_ _ | refine blk_drew ?_ | refine blk_alloc ?_ _)); exact BK200.out⟩, ⟨tb HB⟩⟩
      obtain ⟨ji27, hji27⟩ : ∃ j_ : Int, (wrap64 (x5_2 - 1)) = j_ := ⟨_, rfl⟩
      replace H : (if 0 ≤ (ji27) then (if (ji27) < (l0_5.length : Int) then (if 0 ≤ (rd l0_5 (ji27)) then (if (rd l0_5 (ji27)) < (l0_4.length : Int) then (spec_l9Calls.j2 k2 x3_1 x5_2 (rd l0_5 x5_2) (decide (((rd_T134 l0_4 (rd l0_5 (ji27))).f3) > ((rd_T134 l0_4 (rd l0_5 x5_2)).f3))) l0_0 l0_1 l0_2 a0_3 l0_4 l0_5 l0_6 a0_7) else (none)) else (none)) else (none)) else (none)) = some r := by first | (rw [hji27] at H; exact H) | (simp only [hji27] at H ⊢; exact H)
      (try rw [hji27] at A20)
      have hji27w : (IntKind.i64.wrap (x5_2 - 1)) = ji27 := (i64_w _).trans hji27
      obtain ⟨c28b0, H⟩ := itd H
      obtain ⟨c29b0, H⟩ := itd H
      obtain ⟨c30b0, H⟩ := itd H
      obtain ⟨c31b0, H⟩ := itd H
      have H' := Aside0.mk H
      clear H
      try go_wp2
      replace BK200 := bd BK200
      replace HB := Aside0.mk (below_drew1 HB.out)
      have p207 : 0 ≤ ((rd l0_5 x5_2) : Int) := od
      have q207 : (rd l0_5 x5_2) < (l0_4.length : Int) := od
      obtain ⟨ad207, A207_8, c207_8, e207, hx207, hl207_8, hi207_8⟩ := att134 HR0_4.out (rd l0_5 x5_2) p207 q207
      have hw207 := hx207
      cases e207
      replace hx207 := ox9 HB hx207
      have HR207_8 := Aside0.mk hi207_8
      have HC207_8 := Aside0.mk hl207_8
      clear hi207_8 hl207_8
      replace p207 := eq_true p207
      replace q207 := eq_true q207
      have p208 : 0 ≤ ((ji27) : Int) := od
      have q208 : (ji27) < (l0_5.length : Int) := od
      obtain ⟨ad208, e208, hx208_0⟩ := Kd.at_int HR0_5.out (ji27) p208 q208
      have hw208_0 := hx208_0
      obtain rfl : ad205 = ad208 := (by injection e208)
      replace hx208_0 := ox HB hx208_0
      replace p208 := eq_true p208
      replace q208 := eq_true q208
      have p209 : 0 ≤ ((rd l0_5 (ji27)) : Int) := od
      have q209 : (rd l0_5 (ji27)) < (l0_4.length : Int) := od
      obtain ⟨ad209, A209_8, c209_8, e209, hx209, hl209_8, hi209_8⟩ := att134 HR0_4.out (rd l0_5 (ji27)) p209 q209
      have hw209 := hx209
      obtain rfl : ad207 = ad209 := (by injection e209)
      replace hx209 := ox9 HB hx209
      have HR209_8 := Aside0.mk hi209_8
      have HC209_8 := Aside0.mk hl209_8
      clear hi209_8 hl209_8
      replace p209 := eq_true p209
      replace q209 := eq_true q209
      have p210 : 0 ≤ ((rd l0_5 x5_2) : Int) := od
      have q210 : (rd l0_5 x5_2) < (l0_4.length : Int) := od
      obtain ⟨ad210, A210_8, c210_8, e210, hx210, hl210_8, hi210_8⟩ := att134 HR0_4.out (rd l0_5 x5_2) p210 q210
      have hw210 := hx210
      obtain rfl : ad207 = ad210 := (by injection e210)
      replace hx210 := ox9 HB hx210
      have HR210_8 := Aside0.mk hi210_8
      have HC210_8 := Aside0.mk hl210_8
      clear hi210_8 hl210_8
      replace p210 := eq_true p210
      replace q210 := eq_true q210
      have ea_ := Option.some.inj (hx207.2.2.2.2.2.2.2.2.symm.trans hx210.2.2.2.2.2.2.2.2)
      injection ea_ with ea_ en_ ec_
      subst ea_
      subst ec_
      clear en_
      refine start_ (n := 40) (S := fun w' => cS8 gb200 (.slice A0_0 l0_0.length c0_0) (.slice A0_1 l0_1.length c0_1) (.slice A0_2 l0_2.length c0_2) (.int .i64 a0_3) (.slice (some ad207) l0_4.length c0_4) (.slice (some ad205) l0_5.length c0_5) (.slice A0_6 l0_6.length c0_6) (.int .i64 a0_7) w' ∧ eT134 (ad207.add (((rd l0_5 x5_2)).toNat * 9)) (rd_T134 l0_4 (rd l0_5 x5_2)) A207_8 c207_8 w' ∧ w'.cell? (ad205.add ((ji27)).toNat) = some (.int .i64 (rd l0_5 (ji27))) ∧ eT134 (ad207.add (((rd l0_5 (ji27))).toNat * 9)) (rd_T134 l0_4 (rd l0_5 (ji27))) A209_8 c209_8 w' ∧ eT134 (ad207.add (((rd l0_5 x5_2)).toNat * 9)) (rd_T134 l0_4 (rd l0_5 x5_2)) A207_8 c207_8 w') (ds := []) #[false, false, false, false, false, false, false, false, false, false, false, false, false, false, false, false, false, false, false, false, false, false, false, false, false, false, false, false, false, false, false, false, false, false, false, false, false, false, false, false] (by kernel_rfl) rfl rfl ⟨ds8_ BK200, (ox9 HB hw207 :), ((HB.out.cell (World.block_lt_of_cell? w _ hw208_0)).trans hw208_0), (ox9 HB hw209 :), (ox9 HB hw210 :)⟩ (fun hHeld => ?_); refine with_tabW spec_l9Calls.tab12 spec_l9Calls.bits12 (fun HT_ HW_ => ?_)
      generalize wr.drew = w32 at BK200 HB HR207_8 HR209_8 HR210_8 hx207 hx208_0 hx209 hx210 hHeld ⊢
      refine pu 0 45 ?_; refine pu 1 46 ?_; refine ta 2 47 ?_; refine pu 3 48 ?_; refine pu 4 49 ?_
      refine on1 5 (some 50) (fun K hK => ?_)
      refine gS Tryz.func70 #[.int .i64 (rd l0_5 x5_2), .int .i64 0, .int .i64 (wrap64 ((l0_4.length : Int) - 1))] ?_
      with_reducible refine (spec_l1In.calls (rd l0_5 x5_2) 0 (wrap64 ((l0_4.length : Int) - 1)) true _ A20.out).mono ?_
      rintro e w' ⟨rfl, ⟨nd, rfl⟩⟩
      refine ⟨_, rfl, ?_⟩
      refine hK.out _ _ ⟨ds8_ BK200, (ox9 HB hw207 :), ((HB.out.cell (World.block_lt_of_cell? w _ hw208_0)).trans hw208_0), (ox9 HB hw209 :), (ox9 HB hw210 :)⟩ (fun hHeld => ?_)
      clear hK K
      refine nm 50 ?_
      refine pu 6 51 ?_; refine pu 7 52 ?_; refine pu 8 53 ?_; refine pu 10 55 ?_; refine ta 9 54 ?_; refine pu 11 56 ?_; refine pu 12 57 ?_; refine ta 13 58 ?_; refine pu 14 59 ?_; refine pu 15 60 ?_; refine pu 16 61 ?_; refine pu 17 62 ?_
      refine pu 18 63 ?_; refine pu 19 64 ?_; refine pu 20 65 ?_; refine pu 22 67 ?_; refine pu 24 69 ?_; refine pu 25 70 ?_; refine pu 31 76 ?_; refine pu 33 78 ?_; refine ta 21 66 ?_; refine ta 23 68 ?_; refine pu 26 71 ?_; refine ta 27 72 ?_
      refine pu 28 73 ?_; refine pu 29 74 ?_; refine ta 30 75 ?_; refine ta 32 77 ?_; refine pu 34 79 ?_; refine pu 35 80 ?_; refine ta 36 81 ?_; refine pu 37 82 ?_; refine pu 38 83 ?_; refine pu 39 84 ?_
      refine done_ (done_of HT_.out (by kernel_rfl)) ?_
      try go_wp2
      go_meet
      case rel => exact ⟨_, (decide (((rd_T134 l0_4 (rd l0_5 (ji27))).f3) > ((rd_T134 l0_4 (rd l0_5 x5_2)).f3))), (by first | rfl | (simp; done) | (simp only [← hji27] <;> (first | rfl | simp)) | (simp [*]; done)), H', ⟨by have := HK1.out; have := HK2.out; first | omega | exact Nat.le_refl _⟩, ⟨by (with_reducible repeat (first | refine blk_drewN ?_ _ | refine blk_drew ?_ | refine blk_alloc ?_ _)); exact BK200.out⟩, ⟨tb HB⟩⟩
     case rest =>
      clear HC18
      try clear c2
      try clear p2
      try clear q2
      try clear hx2
      try clear c3
      try clear p6
      try clear c7
      try clear c20
      try clear p20
      try clear q20
      try clear hx20
      try clear c21
      try clear c22
      try clear c23
      try clear c26
      try clear c26b0
      try clear c28
      try clear c29
      try clear c30
      try clear c31
      try clear hx207
      try clear p207
      try clear q207
      obtain ⟨kq, x84_17, rfl, HA, HJ17, BK200, HB⟩ := hcut
      cases kq with
      | zero => exact absurd HA.out (by simp [spec_l9Calls.j2])
      | succ kj17 =>
       have H := HA.out
       clear HA
       simp only [spec_l9Calls.j2] at H
       cases x84_17
       case true =>
        replace H := ipt H
        obtain rfl := oin H
        go_wp2
        go_ret
        exact ⟨er, tb HB⟩
       replace H := ipf H
       have H' := Aside0.mk H
       clear H
       go_wp2
       go_loopg [7] kj17 (fun kq v7 w' => ∃ (x7_4 : Int), v7 = .int .i64 x7_4 ∧ Aside0 (spec_l9Calls.l2 kq x3_1 x5_2 (rd l0_5 x5_2) x7_4 l0_0 l0_1 l0_2 a0_3 l0_4 l0_5 l0_6 a0_7 = some r) ∧ Aside0 (kq ≤ kj17) ∧ Aside0 (w'.heap[gb200]? = some (.cells #[(.slice A0_0 l0_0.length c0_0), (.slice A0_1 l0_1.length c0_1), (.slice A0_2 l0_2.length c0_2), .int .i64 a0_3, (.slice A0_4 l0_4.length c0_4), (.slice (some ad205) l0_5.length c0_5), (.slice A0_6 l0_6.length c0_6), .int .i64 a0_7] 75 (0, 0))) ∧ Aside0 (Below w.heap.size w w'))
       case atStart => exact ⟨(0), rsd, H', ⟨Nat.le_refl _⟩, ⟨by (with_reducible repeat (first | refine blk_drewN ?_ _ | refine blk_drew ?_ | refine blk_alloc ?_ _)); exact BK200.out⟩, ⟨tb HB⟩⟩
       case round =>
        clear H'
        try clear c2
        try clear p2
        try clear q2
        try clear hx2
        try clear c3
        try clear p6
        try clear c7
        try clear c20
        try clear p20
        try clear q20
        try clear hx20
        try clear c21
        try clear c22
        try clear c23
        try clear c26
        try clear c26b0
        try clear c28
        try clear c29
        try clear c30
        try clear c31
        try clear c35
        try clear hx207
        try clear p2
        try clear p20
        try clear p207
        try clear p6
        try clear q2
        try clear q20
        try clear q207
        obtain ⟨x7_4, rfl, HA, HK4, BK200, HB⟩ := hrel
        cases gk with
        | zero => exact absurd HA.out (by simp [spec_l9Calls.l2])
        | succ k4 =>
         have H := HA.out
         clear HA
         simp only [spec_l9Calls.l2] at H
         revert H; refine icd (fun c36b0 H => ?_) fun c36b0 H => ?neg
         case neg =>
          have H' := Aside0.mk H
          clear H
          go_wp2
          go_roundg k4
          case measure => have := HK1.out; have := HK2.out; have := HJ17.out; have := HK4.out; omega
          case rel => exact ⟨(wrap64 (x5_2 + 1)), rsd, H', ⟨by have := HK1.out; have := HK2.out; have := HJ17.out; have := HK4.out; omega⟩, ⟨by (with_reducible repeat (first | refine blk_drewN ?_ _ | refine blk_drew ?_ | refine blk_alloc ?_ _)); exact BK200.out⟩, ⟨tb HB⟩⟩
         obtain ⟨c37b0, H⟩ := itd H
         obtain ⟨c38b0, H⟩ := itd H
         by_cases c39 : (rd l0_5 x7_4) = (rd l0_5 x5_2)
         case pos =>
          rw [if_pos c39] at H
          have c39b0 : ((rd l0_5 x7_4) == (rd l0_5 x5_2)) = true := beq_iff_eq.mpr c39
          have c39b1 : ((rd l0_5 x7_4) != (rd l0_5 x5_2)) = false := bne_eq_false_iff_eq.mpr c39
          clear c39
          obtain rfl := oin H
          have hz40 := cs8_ BK200
          have p211 : 0 ≤ (x7_4 : Int) := od
          have q211 : x7_4 < (l0_5.length : Int) := od
          obtain ⟨ad211, e211, hx211_0⟩ := Kd.at_int HR0_5.out x7_4 p211 q211
          obtain rfl : ad205 = ad211 := (by injection e211)
          replace hx211_0 := ox HB hx211_0
          replace p211 := eq_true p211
          replace q211 := eq_true q211
          go_wp2
          go_ret
          exact ⟨er, tb HB⟩
         rw [if_neg c39] at H
         have c39b0 : ((rd l0_5 x7_4) == (rd l0_5 x5_2)) = false := beq_eq_false_iff_ne.mpr c39
         have c39b1 : ((rd l0_5 x7_4) != (rd l0_5 x5_2)) = true := bne_iff_ne.mpr c39
         have H' := Aside0.mk H
         clear H
         have hz41 := cs8_ BK200
         have p211 : 0 ≤ (x7_4 : Int) := od
         have q211 : x7_4 < (l0_5.length : Int) := od
         obtain ⟨ad211, e211, hx211_0⟩ := Kd.at_int HR0_5.out x7_4 p211 q211
         obtain rfl : ad205 = ad211 := (by injection e211)
         replace hx211_0 := ox HB hx211_0
         replace p211 := eq_true p211
         replace q211 := eq_true q211
         go_wp2
         go_roundg k4
         case measure => have := HK1.out; have := HK2.out; have := HJ17.out; have := HK4.out; omega
         case rel => exact ⟨(wrap64 (x7_4 + 1)), rsd, H', ⟨by have := HK1.out; have := HK2.out; have := HJ17.out; have := HK4.out; omega⟩, ⟨by (with_reducible repeat (first | refine blk_drewN ?_ _ | refine blk_drew ?_ | refine blk_alloc ?_ _)); exact BK200.out⟩, ⟨tb HB⟩⟩
theorem eqA132 (d : Nat) (w : World) (x0 y0 : Int) (x1 y1 : Int) (x2 y2 : Int) :
  (Op.equalIn (d + 2) 132 (.agg #[.int .i64 x0, .int .i64 x1, .int .i64 x2]) (.agg #[.int .i64 y0, .int .i64 y1, .int .i64 y2])).run Tryz.prog w = .ok (x0 == y0 && (x1 == y1 && (x2 == y2))) w := by
 refine eqA_of Tryz.underlying132 (by kernel_rfl) ?_
 refine eqf_cons (by rfl) (by go_simp; rfl) (by go_simp; rfl) (by go_simp) ?_
 refine eqf_cons (by rfl) (by go_simp; rfl) (by go_simp; rfl) (by go_simp) ?_
 exact eqf_last (by rfl) (by go_simp; rfl) (by go_simp; rfl) (by go_simp)
def spec_l9Last.l0 : Nat → Int → Int → List (S39) → List (S52) → List (S82) → Int → List (S134) → List Int → List Int → Int → Option (Int)
 | 0, _, _, _, _, _, _, _, _, _, _ => none
 | k + 1, x1, x5, x213000, x213001, x213002, x213003, x213004, x213005, x213006, x213007 => if x5 ≥ 0 then (if 0 ≤ x5 then (if x5 < (x213004.length : Int) then (if ((rd_T134 x213004 x5).f0) = x1 then (some x5) else (spec_l9Last.l0 k x1 (wrap64 (x5 - 1)) x213000 x213001 x213002 x213003 x213004 x213005 x213006 x213007)) else (none)) else (none)) else (some (-1))
def spec_l9Last.f (k : Nat) (l0_0 : List (S39)) (l0_1 : List (S52)) (l0_2 : List (S82)) (a0_3 : Int) (l0_4 : List (S134)) (l0_5 : List Int) (l0_6 : List Int) (a0_7 : Int) (a1 : Int) : Option (Int) := spec_l9Last.l0 k a1 (wrap64 ((l0_4.length : Int) - 1)) l0_0 l0_1 l0_2 a0_3 l0_4 l0_5 l0_6 a0_7
set_option maxHeartbeats 8000000 in
set_option maxRecDepth 100000 in
theorem spec_l9Last.calls (k : Nat) (A0_0 : Option Addr) (c0_0 : Nat) (l0_0 : List (S39)) (A0_1 : Option Addr) (c0_1 : Nat) (l0_1 : List (S52)) (A0_2 : Option Addr) (c0_2 : Nat) (l0_2 : List (S82)) (a0_3 : Int) (A0_4 : Option Addr) (c0_4 : Nat) (l0_4 : List (S134)) (A0_5 : Option Addr) (c0_5 : Nat) (l0_5 : List Int) (A0_6 : Option Addr) (c0_6 : Nat) (l0_6 : List Int) (a0_7 : Int) (a1 : Int) (r : Int) (w : World) (hr0_0 : Kd.C k39 w A0_0 l0_0.length l0_0) (hc0_0 : l0_0.length ≤ c0_0) (hr0_1 : Kd.C k52 w A0_1 l0_1.length l0_1) (hc0_1 : l0_1.length ≤ c0_1) (hr0_2 : Kd.C k82 w A0_2 l0_2.length l0_2) (hc0_2 : l0_2.length ≤ c0_2) (hr0_4 : Kd.C k134 w A0_4 l0_4.length l0_4) (hc0_4 : l0_4.length ≤ c0_4) (hr0_5 : Kd.C (Kd.int .i64) w A0_5 l0_5.length l0_5) (hc0_5 : l0_5.length ≤ c0_5) (hr0_6 : Kd.C (Kd.int .i64) w A0_6 l0_6.length l0_6) (hc0_6 : l0_6.length ≤ c0_6) (h : spec_l9Last.f k l0_0 l0_1 l0_2 a0_3 l0_4 l0_5 l0_6 a0_7 a1 = some r) :
  Calls Tryz.prog 143 #[.agg #[.slice A0_0 l0_0.length c0_0, .slice A0_1 l0_1.length c0_1, .slice A0_2 l0_2.length c0_2, .int .i64 a0_3, .slice A0_4 l0_4.length c0_4, .slice A0_5 l0_5.length c0_5, .slice A0_6 l0_6.length c0_6, .int .i64 a0_7], .int .i64 a1] w fun e w' => e = .returned (.int .i64 r) ∧ Below w.heap.size w w' := by
 have hu75 := Tryz.underlying75
 have HR0_0 := Aside0.mk hr0_0
 have HC0_0 := Aside0.mk hc0_0
 clear hr0_0 hc0_0
 have HR0_1 := Aside0.mk hr0_1
 have HC0_1 := Aside0.mk hc0_1
 clear hr0_1 hc0_1
 have HR0_2 := Aside0.mk hr0_2
 have HC0_2 := Aside0.mk hc0_2
 clear hr0_2 hc0_2
 have HR0_4 := Aside0.mk hr0_4
 have HC0_4 := Aside0.mk hc0_4
 clear hr0_4 hc0_4
 have HR0_5 := Aside0.mk hr0_5
 have HC0_5 := Aside0.mk hc0_5
 clear hr0_5 hc0_5
 have HR0_6 := Aside0.mk hr0_6
 have HC0_6 := Aside0.mk hc0_6
 clear hr0_6 hc0_6
 have HB := Aside0.mk (Below.refl w.heap.size w)
 have H := h
 clear h
 unfold spec_l9Last.f at H
 have H' := Aside0.mk H
 clear H
 go_enter Tryz.func143, Tryz.ntmps143
 go_wp2_with (first | ((with_reducible refine gq 2 rfl ?_); refine bx0 HB (N := 2) (t := 75) ?_; clear HB; intro gb212 w3 BK212 GE212 HB; have hz4 := cs8_ BK212))
 go_loopg [5] k (fun kq v5 w' => ∃ (x5_1 : Int), v5 = .int .i64 x5_1 ∧ Aside0 (spec_l9Last.l0 kq a1 x5_1 l0_0 l0_1 l0_2 a0_3 l0_4 l0_5 l0_6 a0_7 = some r) ∧ Aside0 (kq ≤ k) ∧ Aside0 (w'.heap[gb212]? = some (.cells #[(.slice A0_0 l0_0.length c0_0), (.slice A0_1 l0_1.length c0_1), (.slice A0_2 l0_2.length c0_2), .int .i64 a0_3, (.slice A0_4 l0_4.length c0_4), (.slice A0_5 l0_5.length c0_5), (.slice A0_6 l0_6.length c0_6), .int .i64 a0_7] 75 (0, 0))) ∧ Aside0 (Below w.heap.size w w'))
 case atStart => exact ⟨(wrap64 ((l0_4.length : Int) - 1)), rsd, H', ⟨Nat.le_refl _⟩, ⟨by (with_reducible repeat (first | refine blk_drewN ?_ _ | refine blk_drew ?_ | refine blk_alloc ?_ _)); exact BK212.out⟩, ⟨tb HB⟩⟩
 case round =>
  clear H'
  try clear c1
  try clear p2
  try clear hz4
  obtain ⟨x5_1, rfl, HA, HK1, BK212, HB⟩ := hrel
  cases gk with
  | zero => exact absurd HA.out (by simp [spec_l9Last.l0])
  | succ k1 =>
   have H := HA.out
   clear HA
   simp only [spec_l9Last.l0] at H
   revert H; refine icd (fun c5b0 H => ?_) fun c5b0 H => ?neg
   case neg =>
    obtain rfl := oin H
    go_wp2
    go_ret
    exact ⟨er, tb HB⟩
   obtain ⟨c6b0, H⟩ := itd H
   obtain ⟨c7b0, H⟩ := itd H
   by_cases c8 : ((rd_T134 l0_4 x5_1).f0) = a1
   case neg =>
    rw [if_neg c8] at H
    have c8b0 : (((rd_T134 l0_4 x5_1).f0) == a1) = false := beq_eq_false_iff_ne.mpr c8
    have c8b1 : (((rd_T134 l0_4 x5_1).f0) != a1) = true := bne_iff_ne.mpr c8
    have H' := Aside0.mk H
    clear H
    have hz10 := cs8_ BK212
    have p213 : 0 ≤ (x5_1 : Int) := od
    have q213 : x5_1 < (l0_4.length : Int) := od
    obtain ⟨ad213, A213_8, c213_8, e213, hx213, hl213_8, hi213_8⟩ := att134 HR0_4.out x5_1 p213 q213
    cases e213
    replace hx213 := ox9 HB hx213
    have HR213_8 := Aside0.mk hi213_8
    have HC213_8 := Aside0.mk hl213_8
    clear hi213_8 hl213_8
    replace p213 := eq_true p213
    replace q213 := eq_true q213
    go_wp2
    go_roundg k1
    case measure => have := HK1.out; omega
    case rel => exact ⟨(wrap64 (x5_1 - 1)), rsd, H', ⟨by have := HK1.out; omega⟩, ⟨by (with_reducible repeat (first | refine blk_drewN ?_ _ | refine blk_drew ?_ | refine blk_alloc ?_ _)); exact BK212.out⟩, ⟨tb HB⟩⟩
   rw [if_pos c8] at H
   have c8b0 : (((rd_T134 l0_4 x5_1).f0) == a1) = true := beq_iff_eq.mpr c8
   have c8b1 : (((rd_T134 l0_4 x5_1).f0) != a1) = false := bne_eq_false_iff_eq.mpr c8
   clear c8
   obtain rfl := oin H
   have hz9 := cs8_ BK212
   have p213 : 0 ≤ (x5_1 : Int) := od
   have q213 : x5_1 < (l0_4.length : Int) := od
   obtain ⟨ad213, A213_8, c213_8, e213, hx213_0, hx213_1, hx213_2, hx213_3, hx213_4, hx213_5, hx213_6, hx213_7, hx213_8, hl213_8, hi213_8⟩ := at_T134 HR0_4.out x5_1 p213 q213
   cases e213
   replace hx213_0 := ox HB hx213_0
   replace hx213_1 := ox HB hx213_1
   replace hx213_2 := ox HB hx213_2
   replace hx213_3 := ox HB hx213_3
   replace hx213_4 := ox HB hx213_4
   replace hx213_5 := ox HB hx213_5
   replace hx213_6 := ox HB hx213_6
   replace hx213_7 := ox HB hx213_7
   replace hx213_8 := ox HB hx213_8
   have HR213_8 := Aside0.mk hi213_8
   have HC213_8 := Aside0.mk hl213_8
   clear hi213_8 hl213_8
   replace p213 := eq_true p213
   replace q213 := eq_true q213
   go_wp2
   go_ret
   exact ⟨er, tb HB⟩
attribute [local go_sem high] eqA132
def spec_l9Thread.l0 : Nat → Int → Int → Int → Int → List (S39) → List (S52) → List (S82) → Int → List (S134) → List Int → List Int → Int → List (S132) → Int → Bool → List (S145) → List (S42) → Option (Bool)
 | 0, _, _, _, _, _, _, _, _, _, _, _, _, _, _, _, _, _ => none
 | k + 1, x1, x6, x7, x8, x215000, x215001, x215002, x215003, x215004, x215005, x215006, x215007, x217000, x217001, x217002, x217003, x217004 => if x8 < (x215004.length : Int) then (if 0 ≤ x8 then (if ((rd_T134 x215004 x8).f0) = x1 then (if ((rd_T134 x215004 x8).f4) ≥ 0 then (spec_l9Thread.l0 k x1 x6 (wrap64 (x7 + 1)) (wrap64 (x8 + 1)) x215000 x215001 x215002 x215003 x215004 x215005 x215006 x215007 x217000 x217001 x217002 x217003 x217004) else (if x217002 = true then (if x8 = x6 then (spec_l9Thread.l0 k x1 x6 x7 (wrap64 (x8 + 1)) x215000 x215001 x215002 x215003 x215004 x215005 x215006 x215007 x217000 x217001 x217002 x217003 x217004) else (some false)) else (some false))) else (spec_l9Thread.l0 k x1 x6 x7 (wrap64 (x8 + 1)) x215000 x215001 x215002 x215003 x215004 x215005 x215006 x215007 x217000 x217001 x217002 x217003 x217004)) else (none)) else (if x7 = x217001 then (if x217002 = true then (if x6 ≥ 0 then (if 0 ≤ x6 then (if x6 < (x215004.length : Int) then (if ((rd_T134 x215004 x6).f4) = (-1) then (if 0 ≤ x217001 then (if x217001 < (x217000.length : Int) then (some (((rd_T134 x215004 x6).f1.f0) == ((rd_T132 x217000 x217001).f0) && (((rd_T134 x215004 x6).f1.f1) == ((rd_T132 x217000 x217001).f1) && (((rd_T134 x215004 x6).f1.f2) == ((rd_T132 x217000 x217001).f2))))) else (none)) else (none)) else (some false)) else (none)) else (none)) else (some false)) else (some true)) else (some false))
def spec_l9Thread.f (k : Nat) (l0_0 : List (S39)) (l0_1 : List (S52)) (l0_2 : List (S82)) (a0_3 : Int) (l0_4 : List (S134)) (l0_5 : List Int) (l0_6 : List Int) (a0_7 : Int) (a1 : Int) : Option (Bool) := if 0 ≤ a1 then (if a1 < (l0_2.length : Int) then ((spec_l9Last.f k l0_0 l0_1 l0_2 a0_3 l0_4 l0_5 l0_6 a0_7 a1).bind fun t217 => (spec_l9Thread.l0 k a1 t217 0 0 l0_0 l0_1 l0_2 a0_3 l0_4 l0_5 l0_6 a0_7 ((rd_T82 l0_2 a1).f0) ((rd_T82 l0_2 a1).f1) ((rd_T82 l0_2 a1).f2) ((rd_T82 l0_2 a1).f3) ((rd_T82 l0_2 a1).f4))) else (none)) else (none)
set_option maxHeartbeats 8000000 in
set_option maxRecDepth 100000 in
theorem spec_l9Thread.calls (k : Nat) (A0_0 : Option Addr) (c0_0 : Nat) (l0_0 : List (S39)) (A0_1 : Option Addr) (c0_1 : Nat) (l0_1 : List (S52)) (A0_2 : Option Addr) (c0_2 : Nat) (l0_2 : List (S82)) (a0_3 : Int) (A0_4 : Option Addr) (c0_4 : Nat) (l0_4 : List (S134)) (A0_5 : Option Addr) (c0_5 : Nat) (l0_5 : List Int) (A0_6 : Option Addr) (c0_6 : Nat) (l0_6 : List Int) (a0_7 : Int) (a1 : Int) (r : Bool) (w : World) (hr0_0 : Kd.C k39 w A0_0 l0_0.length l0_0) (hc0_0 : l0_0.length ≤ c0_0) (hr0_1 : Kd.C k52 w A0_1 l0_1.length l0_1) (hc0_1 : l0_1.length ≤ c0_1) (hr0_2 : Kd.C k82 w A0_2 l0_2.length l0_2) (hc0_2 : l0_2.length ≤ c0_2) (hr0_4 : Kd.C k134 w A0_4 l0_4.length l0_4) (hc0_4 : l0_4.length ≤ c0_4) (hr0_5 : Kd.C (Kd.int .i64) w A0_5 l0_5.length l0_5) (hc0_5 : l0_5.length ≤ c0_5) (hr0_6 : Kd.C (Kd.int .i64) w A0_6 l0_6.length l0_6) (hc0_6 : l0_6.length ≤ c0_6) (h : spec_l9Thread.f k l0_0 l0_1 l0_2 a0_3 l0_4 l0_5 l0_6 a0_7 a1 = some r) :
  Calls Tryz.prog 87 #[.agg #[.slice A0_0 l0_0.length c0_0, .slice A0_1 l0_1.length c0_1, .slice A0_2 l0_2.length c0_2, .int .i64 a0_3, .slice A0_4 l0_4.length c0_4, .slice A0_5 l0_5.length c0_5, .slice A0_6 l0_6.length c0_6, .int .i64 a0_7], .int .i64 a1] w fun e w' => e = .returned (.bool r) ∧ Below w.heap.size w w' := by
 have hu75 := Tryz.underlying75
 have hu82 := Tryz.underlying82
 have hu132 := Tryz.underlying132
 have HR0_0 := Aside0.mk hr0_0
 have HC0_0 := Aside0.mk hc0_0
 clear hr0_0 hc0_0
 have HR0_1 := Aside0.mk hr0_1
 have HC0_1 := Aside0.mk hc0_1
 clear hr0_1 hc0_1
 have HR0_2 := Aside0.mk hr0_2
 have HC0_2 := Aside0.mk hc0_2
 clear hr0_2 hc0_2
 have HR0_4 := Aside0.mk hr0_4
 have HC0_4 := Aside0.mk hc0_4
 clear hr0_4 hc0_4
 have HR0_5 := Aside0.mk hr0_5
 have HC0_5 := Aside0.mk hc0_5
 clear hr0_5 hc0_5
 have HR0_6 := Aside0.mk hr0_6
 have HC0_6 := Aside0.mk hc0_6
 clear hr0_6 hc0_6
 have HB := Aside0.mk (Below.refl w.heap.size w)
 have H := h
 clear h
 unfold spec_l9Thread.f at H
 obtain ⟨c3b0, H⟩ := itd H
 obtain ⟨c4b0, H⟩ := itd H
 obtain ⟨t217, A5, H⟩ := bn H
 try dsimp only at H
 have H' := Aside0.mk H
 clear H
 go_enter Tryz.func87, Tryz.ntmps87
 go_wp2_with (first | ((with_reducible refine gq 2 rfl ?_); refine bx0 HB (N := 2) (t := 75) ?_; clear HB; intro gb214 w6 BK214 GE214 HB; have hz7 := cs8_ BK214; have p215 : 0 ≤ (a1 : Int) := od; have q215 : a1 < (l0_2.length : Int) := od; obtain ⟨ad215, A215_0, c215_0, A215_3, c215_3, A215_4, c215_4, e215, hx215_0, hx215_1, hx215_2, hx215_3, hx215_4, hl215_0, hi215_0, hl215_3, hi215_3, hl215_4, hi215_4⟩ := at_T82 HR0_2.out a1 p215 q215; cases e215; replace hx215_0 := ox HB hx215_0; replace hx215_1 := ox HB hx215_1; replace hx215_2 := ox HB hx215_2; replace hx215_3 := ox HB hx215_3; replace hx215_4 := ox HB hx215_4; have HR215_0 := Aside0.mk hi215_0; have HC215_0 := Aside0.mk hl215_0; clear hi215_0 hl215_0; have HR215_3 := Aside0.mk hi215_3; have HC215_3 := Aside0.mk hl215_3; clear hi215_3 hl215_3; have HR215_4 := Aside0.mk hi215_4; have HC215_4 := Aside0.mk hl215_4; clear hi215_4 hl215_4; replace p215 := eq_true p215; replace q215 := eq_true q215) | ((with_reducible refine gq 5 rfl ?_); refine bx1 HB BK214 (N := 5) (cs := #[.slice none 0 0, .int .i64 0, .bool false, .slice none 0 0, .slice none 0 0]) (t := 82) ?_; clear HB BK214; intro gb216 w8 BK216 GE216 HB NB214_216 NB216_214 BK214; have hnb9 := NB216_214.out; have hnc9 := NB214_216.out; have hz10 := cs5_ BK216; have hz11 := cs8_ BK214) | (go_at_call 143; (with_reducible refine (spec_l9Last.calls k _ _ l0_0 _ _ l0_1 _ _ l0_2 a0_3 _ _ l0_4 _ _ l0_5 _ _ l0_6 a0_7 a1 t217 _ ?side1 HC0_0.out ?side3 HC0_1.out ?side5 HC0_2.out ?side7 HC0_4.out ?side9 HC0_5.out ?side11 HC0_6.out A5.out).mono ?_); (case side1 => exact Kd.C_below HR0_0.out (tb HB)); (case side3 => exact Kd.C_below HR0_1.out (tb HB)); (case side5 => exact Kd.C_below HR0_2.out (tb HB)); (case side7 => exact Kd.C_below HR0_4.out (tb HB)); (case side9 => exact Kd.C_below HR0_5.out (tb HB)); (case side11 => exact Kd.C_below HR0_6.out (tb HB)); rintro e w12 ⟨rfl, hb⟩; replace BK214 := bbf BK214 hb; replace BK216 := bbp5 BK216 hb; replace HB := bs HB hb; (try clear hb)))
 repeat (go_quiet (first | ((with_reducible refine gq 2 rfl ?_); refine bx0 HB (N := 2) (t := 75) ?_; clear HB; intro gb214 w6 BK214 GE214 HB; have hz7 := cs8_ BK214; have p215 : 0 ≤ (a1 : Int) := od; have q215 : a1 < (l0_2.length : Int) := od; obtain ⟨ad215, A215_0, c215_0, A215_3, c215_3, A215_4, c215_4, e215, hx215_0, hx215_1, hx215_2, hx215_3, hx215_4, hl215_0, hi215_0, hl215_3, hi215_3, hl215_4, hi215_4⟩ := at_T82 HR0_2.out a1 p215 q215; cases e215; replace hx215_0 := ox HB hx215_0; replace hx215_1 := ox HB hx215_1; replace hx215_2 := ox HB hx215_2; replace hx215_3 := ox HB hx215_3; replace hx215_4 := ox HB hx215_4; have HR215_0 := Aside0.mk hi215_0; have HC215_0 := Aside0.mk hl215_0; clear hi215_0 hl215_0; have HR215_3 := Aside0.mk hi215_3; have HC215_3 := Aside0.mk hl215_3; clear hi215_3 hl215_3; have HR215_4 := Aside0.mk hi215_4; have HC215_4 := Aside0.mk hl215_4; clear hi215_4 hl215_4; replace p215 := eq_true p215; replace q215 := eq_true q215) | ((with_reducible refine gq 5 rfl ?_); refine bx1 HB BK214 (N := 5) (cs := #[.slice none 0 0, .int .i64 0, .bool false, .slice none 0 0, .slice none 0 0]) (t := 82) ?_; clear HB BK214; intro gb216 w8 BK216 GE216 HB NB214_216 NB216_214 BK214; have hnb9 := NB216_214.out; have hnc9 := NB214_216.out; have hz10 := cs5_ BK216; have hz11 := cs8_ BK214) | (go_at_call 143; (with_reducible refine (spec_l9Last.calls k _ _ l0_0 _ _ l0_1 _ _ l0_2 a0_3 _ _ l0_4 _ _ l0_5 _ _ l0_6 a0_7 a1 t217 _ ?side1 HC0_0.out ?side3 HC0_1.out ?side5 HC0_2.out ?side7 HC0_4.out ?side9 HC0_5.out ?side11 HC0_6.out A5.out).mono ?_); (case side1 => exact Kd.C_below HR0_0.out (tb HB)); (case side3 => exact Kd.C_below HR0_1.out (tb HB)); (case side5 => exact Kd.C_below HR0_2.out (tb HB)); (case side7 => exact Kd.C_below HR0_4.out (tb HB)); (case side9 => exact Kd.C_below HR0_5.out (tb HB)); (case side11 => exact Kd.C_below HR0_6.out (tb HB)); rintro e w12 ⟨rfl, hb⟩; replace BK214 := bbf BK214 hb; replace BK216 := bbp5 BK216 hb; replace HB := bs HB hb; (try clear hb))); try go_wp2_with (first | ((with_reducible refine gq 2 rfl ?_); refine bx0 HB (N := 2) (t := 75) ?_; clear HB; intro gb214 w6 BK214 GE214 HB; have hz7 := cs8_ BK214; have p215 : 0 ≤ (a1 : Int) := od; have q215 : a1 < (l0_2.length : Int) := od; obtain ⟨ad215, A215_0, c215_0, A215_3, c215_3, A215_4, c215_4, e215, hx215_0, hx215_1, hx215_2, hx215_3, hx215_4, hl215_0, hi215_0, hl215_3, hi215_3, hl215_4, hi215_4⟩ := at_T82 HR0_2.out a1 p215 q215; cases e215; replace hx215_0 := ox HB hx215_0; replace hx215_1 := ox HB hx215_1; replace hx215_2 := ox HB hx215_2; replace hx215_3 := ox HB hx215_3; replace hx215_4 := ox HB hx215_4; have HR215_0 := Aside0.mk hi215_0; have HC215_0 := Aside0.mk hl215_0; clear hi215_0 hl215_0; have HR215_3 := Aside0.mk hi215_3; have HC215_3 := Aside0.mk hl215_3; clear hi215_3 hl215_3; have HR215_4 := Aside0.mk hi215_4; have HC215_4 := Aside0.mk hl215_4; clear hi215_4 hl215_4; replace p215 := eq_true p215; replace q215 := eq_true q215) | ((with_reducible refine gq 5 rfl ?_); refine bx1 HB BK214 (N := 5) (cs := #[.slice none 0 0, .int .i64 0, .bool false, .slice none 0 0, .slice none 0 0]) (t := 82) ?_; clear HB BK214; intro gb216 w8 BK216 GE216 HB NB214_216 NB216_214 BK214; have hnb9 := NB216_214.out; have hnc9 := NB214_216.out; have hz10 := cs5_ BK216; have hz11 := cs8_ BK214) | (go_at_call 143; (with_reducible refine (spec_l9Last.calls k _ _ l0_0 _ _ l0_1 _ _ l0_2 a0_3 _ _ l0_4 _ _ l0_5 _ _ l0_6 a0_7 a1 t217 _ ?side1 HC0_0.out ?side3 HC0_1.out ?side5 HC0_2.out ?side7 HC0_4.out ?side9 HC0_5.out ?side11 HC0_6.out A5.out).mono ?_); (case side1 => exact Kd.C_below HR0_0.out (tb HB)); (case side3 => exact Kd.C_below HR0_1.out (tb HB)); (case side5 => exact Kd.C_below HR0_2.out (tb HB)); (case side7 => exact Kd.C_below HR0_4.out (tb HB)); (case side9 => exact Kd.C_below HR0_5.out (tb HB)); (case side11 => exact Kd.C_below HR0_6.out (tb HB)); rintro e w12 ⟨rfl, hb⟩; replace BK214 := bbf BK214 hb; replace BK216 := bbp5 BK216 hb; replace HB := bs HB hb; (try clear hb))))
 go_loopg [7, 8] k (fun kq v7 v8 w' => ∃ (x7_1 : Int) (x8_1 : Int), v7 = .int .i64 x7_1 ∧ v8 = .int .i64 x8_1 ∧ Aside0 (spec_l9Thread.l0 kq a1 t217 x7_1 x8_1 l0_0 l0_1 l0_2 a0_3 l0_4 l0_5 l0_6 a0_7 ((rd_T82 l0_2 a1).f0) ((rd_T82 l0_2 a1).f1) ((rd_T82 l0_2 a1).f2) ((rd_T82 l0_2 a1).f3) ((rd_T82 l0_2 a1).f4) = some r) ∧ Aside0 (kq ≤ k) ∧ Aside0 (w'.heap[gb214]? = some (.cells #[(.slice A0_0 l0_0.length c0_0), (.slice A0_1 l0_1.length c0_1), (.slice (some ad215) l0_2.length c0_2), .int .i64 a0_3, (.slice A0_4 l0_4.length c0_4), (.slice A0_5 l0_5.length c0_5), (.slice A0_6 l0_6.length c0_6), .int .i64 a0_7] 75 (0, 0))) ∧ Aside0 (w'.heap[gb216]? = some (.cells #[(.slice A215_0 ((rd_T82 l0_2 a1).f0).length c215_0), .int .i64 ((rd_T82 l0_2 a1).f1), .bool ((rd_T82 l0_2 a1).f2), (.slice A215_3 ((rd_T82 l0_2 a1).f3).length c215_3), (.slice A215_4 ((rd_T82 l0_2 a1).f4).length c215_4)] 82 (0, 0))) ∧ Aside0 (Below w.heap.size w w'))
 case atStart => exact ⟨(0), (0), rsd, rsd, H', ⟨Nat.le_refl _⟩, ⟨by (with_reducible repeat (first | refine blk_drewN ?_ _ | refine blk_drew ?_ | refine blk_alloc ?_ _)); exact BK214.out⟩, ⟨by (with_reducible repeat (first | refine blk_drewN ?_ _ | refine blk_drew ?_ | refine blk_alloc ?_ _)); exact BK216.out⟩, ⟨tb HB⟩⟩
 case round =>
  clear H'
  try clear c2
  try clear p2
  try clear q2
  try clear hx2
  try clear c3
  try clear c3b0
  try clear c4
  try clear c4b0
  try clear c8
  try clear c9
  try clear hz10
  try clear hz11
  try clear hz7
  try clear hz10
  try clear hz11
  try clear hz7
  try clear hx215_0
  try clear hx215_1
  try clear hx215_2
  try clear hx215_3
  try clear hx215_4
  try clear p215
  try clear q215
  obtain ⟨x7_1, x8_1, rfl, rfl, HA, HK1, BK214, BK216, HB⟩ := hrel
  cases gk with
  | zero => exact absurd HA.out (by simp [spec_l9Thread.l0])
  | succ k1 =>
   have H := HA.out
   clear HA
   simp only [spec_l9Thread.l0] at H
   revert H; refine icd (fun c13b0 H => ?_) fun c13b0 H => ?neg
   case neg =>
    by_cases c32 : x7_1 = ((rd_T82 l0_2 a1).f1)
    case neg =>
     rw [if_neg c32] at H
     have c32b0 : (x7_1 == ((rd_T82 l0_2 a1).f1)) = false := beq_eq_false_iff_ne.mpr c32
     have c32b1 : (x7_1 != ((rd_T82 l0_2 a1).f1)) = true := bne_iff_ne.mpr c32
     obtain rfl := oin H
     have hnb52 := NB214_216.out
     have hnc52 := NB216_214.out
     have hz53 := cs8_ BK214
     have hz54 := cs5_ BK216
     go_wp2
     repeat (go_quiet (fail); try go_wp2)
     go_ret
     exact ⟨er, tb HB⟩
    rw [if_pos c32] at H
    have c32b0 : (x7_1 == ((rd_T82 l0_2 a1).f1)) = true := beq_iff_eq.mpr c32
    have c32b1 : (x7_1 != ((rd_T82 l0_2 a1).f1)) = false := bne_eq_false_iff_eq.mpr c32
    clear c32
    by_cases c33 : ((rd_T82 l0_2 a1).f2) = true
    case neg =>
     rw [if_neg c33] at H
     have c33b0 : ((rd_T82 l0_2 a1).f2) = false := by simpa using c33
     clear c33
     obtain rfl := oin H
     have hnb49 := NB214_216.out
     have hnc49 := NB216_214.out
     have hz50 := cs8_ BK214
     have hz51 := cs5_ BK216
     go_wp2
     repeat (go_quiet (fail); try go_wp2)
     go_ret
     exact ⟨er, tb HB⟩
    rw [if_pos c33] at H
    have C33A := Aside0.mk c33
    clear c33
    revert H; refine icd (fun c34b0 H => ?_) fun c34b0 H => ?neg
    case neg =>
     obtain rfl := oin H
     have hnb46 := NB214_216.out
     have hnc46 := NB216_214.out
     have hz47 := cs8_ BK214
     have hcz48_0 : wr.cell? ⟨gb216, 0, none⟩ = some (.slice A215_0 ((rd_T82 l0_2 a1).f0).length c215_0) := cz BK216 0
     have hcz48_1 : wr.cell? ⟨gb216, 1, none⟩ = some (.int .i64 ((rd_T82 l0_2 a1).f1)) := cz BK216 1
     have hcz48_2 : wr.cell? ⟨gb216, 2, none⟩ = some (.bool true) := by rw [← C33A.out]; exact cz BK216 2
     have hcz48_3 : wr.cell? ⟨gb216, 3, none⟩ = some (.slice A215_3 ((rd_T82 l0_2 a1).f3).length c215_3) := cz BK216 3
     have hcz48_4 : wr.cell? ⟨gb216, 4, none⟩ = some (.slice A215_4 ((rd_T82 l0_2 a1).f4).length c215_4) := cz BK216 4
     have hfz48_0 := blk_frozen BK216.out 0
     have hfz48_1 := blk_frozen BK216.out 1
     have hfz48_2 := blk_frozen BK216.out 2
     have hfz48_3 := blk_frozen BK216.out 3
     have hfz48_4 := blk_frozen BK216.out 4
     go_wp2
     repeat (go_quiet (fail); try go_wp2)
     go_ret
     exact ⟨er, tb HB⟩
    obtain ⟨c35b0, H⟩ := itd H
    obtain ⟨c36b0, H⟩ := itd H
    by_cases c37 : ((rd_T134 l0_4 t217).f4) = (-1)
    case neg =>
     rw [if_neg c37] at H
     have c37b0 : (((rd_T134 l0_4 t217).f4) == (-1)) = false := beq_eq_false_iff_ne.mpr c37
     have c37b1 : (((rd_T134 l0_4 t217).f4) != (-1)) = true := bne_iff_ne.mpr c37
     obtain rfl := oin H
     have hnb43 := NB214_216.out
     have hnc43 := NB216_214.out
     have hz44 := cs8_ BK214
     have hcz45_0 : wr.cell? ⟨gb216, 0, none⟩ = some (.slice A215_0 ((rd_T82 l0_2 a1).f0).length c215_0) := cz BK216 0
     have hcz45_1 : wr.cell? ⟨gb216, 1, none⟩ = some (.int .i64 ((rd_T82 l0_2 a1).f1)) := cz BK216 1
     have hcz45_2 : wr.cell? ⟨gb216, 2, none⟩ = some (.bool true) := by rw [← C33A.out]; exact cz BK216 2
     have hcz45_3 : wr.cell? ⟨gb216, 3, none⟩ = some (.slice A215_3 ((rd_T82 l0_2 a1).f3).length c215_3) := cz BK216 3
     have hcz45_4 : wr.cell? ⟨gb216, 4, none⟩ = some (.slice A215_4 ((rd_T82 l0_2 a1).f4).length c215_4) := cz BK216 4
     have hfz45_0 := blk_frozen BK216.out 0
     have hfz45_1 := blk_frozen BK216.out 1
     have hfz45_2 := blk_frozen BK216.out 2
     have hfz45_3 := blk_frozen BK216.out 3
     have hfz45_4 := blk_frozen BK216.out 4
     have p218 : 0 ≤ (t217 : Int) := od
     have q218 : t217 < (l0_4.length : Int) := od
     obtain ⟨ad218, A218_8, c218_8, e218, hx218, hl218_8, hi218_8⟩ := att134 HR0_4.out t217 p218 q218
     cases e218
     replace hx218 := ox9 HB hx218
     have HR218_8 := Aside0.mk hi218_8
     have HC218_8 := Aside0.mk hl218_8
     clear hi218_8 hl218_8
     replace p218 := eq_true p218
     replace q218 := eq_true q218
     go_wp2
     repeat (go_quiet (fail); try go_wp2)
     go_ret
     exact ⟨er, tb HB⟩
    rw [if_pos c37] at H
    have c37b0 : (((rd_T134 l0_4 t217).f4) == (-1)) = true := beq_iff_eq.mpr c37
    have c37b1 : (((rd_T134 l0_4 t217).f4) != (-1)) = false := bne_eq_false_iff_eq.mpr c37
    clear c37
    obtain ⟨c38b0, H⟩ := itd H
    obtain ⟨c39b0, H⟩ := itd H
    obtain rfl := oin H
    have hnb40 := NB214_216.out
    have hnc40 := NB216_214.out
    have hz41 := cs8_ BK214
    have hcz42_0 : wr.cell? ⟨gb216, 0, none⟩ = some (.slice A215_0 ((rd_T82 l0_2 a1).f0).length c215_0) := cz BK216 0
    have hcz42_1 : wr.cell? ⟨gb216, 1, none⟩ = some (.int .i64 ((rd_T82 l0_2 a1).f1)) := cz BK216 1
    have hcz42_2 : wr.cell? ⟨gb216, 2, none⟩ = some (.bool true) := by rw [← C33A.out]; exact cz BK216 2
    have hcz42_3 : wr.cell? ⟨gb216, 3, none⟩ = some (.slice A215_3 ((rd_T82 l0_2 a1).f3).length c215_3) := cz BK216 3
    have hcz42_4 : wr.cell? ⟨gb216, 4, none⟩ = some (.slice A215_4 ((rd_T82 l0_2 a1).f4).length c215_4) := cz BK216 4
    have hfz42_0 := blk_frozen BK216.out 0
    have hfz42_1 := blk_frozen BK216.out 1
    have hfz42_2 := blk_frozen BK216.out 2
    have hfz42_3 := blk_frozen BK216.out 3
    have hfz42_4 := blk_frozen BK216.out 4
    have p218 : 0 ≤ (t217 : Int) := od
    have q218 : t217 < (l0_4.length : Int) := od
    obtain ⟨ad218, A218_8, c218_8, e218, hx218_0, hx218_1, hx218_2, hx218_3, hx218_4, hx218_5, hx218_6, hx218_7, hx218_8, hl218_8, hi218_8⟩ := at_T134 HR0_4.out t217 p218 q218
    cases e218
    replace hx218_0 := ox HB hx218_0
    replace hx218_1 := ox HB hx218_1
    replace hx218_2 := ox HB hx218_2
    replace hx218_3 := ox HB hx218_3
    replace hx218_4 := ox HB hx218_4
    replace hx218_5 := ox HB hx218_5
    replace hx218_6 := ox HB hx218_6
    replace hx218_7 := ox HB hx218_7
    replace hx218_8 := ox HB hx218_8
    have HR218_8 := Aside0.mk hi218_8
    have HC218_8 := Aside0.mk hl218_8
    clear hi218_8 hl218_8
    replace p218 := eq_true p218
    replace q218 := eq_true q218
    have p219 : 0 ≤ (t217 : Int) := od
    have q219 : t217 < (l0_4.length : Int) := od
    obtain ⟨ad219, A219_8, c219_8, e219, hx219_0, hx219_1, hx219_2, hx219_3, hx219_4, hx219_5, hx219_6, hx219_7, hx219_8, hl219_8, hi219_8⟩ := at_T134 HR0_4.out t217 p219 q219
    obtain rfl : ad218 = ad219 := (by injection e219)
    replace hx219_0 := ox HB hx219_0
    replace hx219_1 := ox HB hx219_1
    replace hx219_2 := ox HB hx219_2
    replace hx219_3 := ox HB hx219_3
    replace hx219_4 := ox HB hx219_4
    replace hx219_5 := ox HB hx219_5
    replace hx219_6 := ox HB hx219_6
    replace hx219_7 := ox HB hx219_7
    replace hx219_8 := ox HB hx219_8
    have HR219_8 := Aside0.mk hi219_8
    have HC219_8 := Aside0.mk hl219_8
    clear hi219_8 hl219_8
    replace p219 := eq_true p219
    replace q219 := eq_true q219
    have ea_ := Option.some.inj (hx218_8.symm.trans hx219_8)
    injection ea_ with ea_ en_ ec_
    subst ea_
    subst ec_
    clear en_
    have p220 : 0 ≤ (((rd_T82 l0_2 a1).f1) : Int) := od
    have q220 : ((rd_T82 l0_2 a1).f1) < (((rd_T82 l0_2 a1).f0).length : Int) := od
    obtain ⟨ad220, e220, hx220⟩ := att132 HR215_0.out ((rd_T82 l0_2 a1).f1) p220 q220
    cases e220
    replace hx220 := ox3 HB hx220
    replace p220 := eq_true p220
    replace q220 := eq_true q220
    go_wp2
    repeat (go_quiet (fail); try go_wp2)
    go_ret
    exact ⟨er, tb HB⟩
   obtain ⟨c14b0, H⟩ := itd H
   by_cases c15 : ((rd_T134 l0_4 x8_1).f0) = a1
   case neg =>
    rw [if_neg c15] at H
    have c15b0 : (((rd_T134 l0_4 x8_1).f0) == a1) = false := beq_eq_false_iff_ne.mpr c15
    have c15b1 : (((rd_T134 l0_4 x8_1).f0) != a1) = true := bne_iff_ne.mpr c15
    have H' := Aside0.mk H
    clear H
    have hnb30 := NB214_216.out
    have hnc30 := NB216_214.out
    have hz31 := cs8_ BK214
    have p221 : 0 ≤ (x8_1 : Int) := od
    have q221 : x8_1 < (l0_4.length : Int) := od
    obtain ⟨ad221, A221_8, c221_8, e221, hx221, hl221_8, hi221_8⟩ := att134 HR0_4.out x8_1 p221 q221
    cases e221
    replace hx221 := ox9 HB hx221
    have HR221_8 := Aside0.mk hi221_8
    have HC221_8 := Aside0.mk hl221_8
    clear hi221_8 hl221_8
    replace p221 := eq_true p221
    replace q221 := eq_true q221
    go_wp2
    repeat (go_quiet (fail); try go_wp2)
    go_roundg k1
    case measure => have := HK1.out; omega
    case rel => exact ⟨(x7_1), (wrap64 (x8_1 + 1)), rsd, rsd, H', ⟨by have := HK1.out; omega⟩, ⟨by (with_reducible repeat (first | refine blk_drewN ?_ _ | refine blk_drew ?_ | refine blk_alloc ?_ _)); exact BK214.out⟩, ⟨by (with_reducible repeat (first | refine blk_drewN ?_ _ | refine blk_drew ?_ | refine blk_alloc ?_ _)); exact BK216.out⟩, ⟨tb HB⟩⟩
   rw [if_pos c15] at H
   have c15b0 : (((rd_T134 l0_4 x8_1).f0) == a1) = true := beq_iff_eq.mpr c15
   have c15b1 : (((rd_T134 l0_4 x8_1).f0) != a1) = false := bne_eq_false_iff_eq.mpr c15
   clear c15
   revert H; refine icd (fun c16b0 H => ?pos) fun c16b0 H => ?_
   case pos =>
    have H' := Aside0.mk H
    clear H
    have hnb17 := NB214_216.out
    have hnc17 := NB216_214.out
    have hz18 := cs8_ BK214
    have p221 : 0 ≤ (x8_1 : Int) := od
    have q221 : x8_1 < (l0_4.length : Int) := od
    obtain ⟨ad221, A221_8, c221_8, e221, hx221_0, hx221_1, hx221_2, hx221_3, hx221_4, hx221_5, hx221_6, hx221_7, hx221_8, hl221_8, hi221_8⟩ := at_T134 HR0_4.out x8_1 p221 q221
    cases e221
    replace hx221_0 := ox HB hx221_0
    replace hx221_1 := ox HB hx221_1
    replace hx221_2 := ox HB hx221_2
    replace hx221_3 := ox HB hx221_3
    replace hx221_4 := ox HB hx221_4
    replace hx221_5 := ox HB hx221_5
    replace hx221_6 := ox HB hx221_6
    replace hx221_7 := ox HB hx221_7
    replace hx221_8 := ox HB hx221_8
    have HR221_8 := Aside0.mk hi221_8
    have HC221_8 := Aside0.mk hl221_8
    clear hi221_8 hl221_8
    replace p221 := eq_true p221
    replace q221 := eq_true q221
    have p222 : 0 ≤ (x8_1 : Int) := od
    have q222 : x8_1 < (l0_4.length : Int) := od
    obtain ⟨ad222, A222_8, c222_8, e222, hx222_0, hx222_1, hx222_2, hx222_3, hx222_4, hx222_5, hx222_6, hx222_7, hx222_8, hl222_8, hi222_8⟩ := at_T134 HR0_4.out x8_1 p222 q222
    obtain rfl : ad221 = ad222 := (by injection e222)
    replace hx222_0 := ox HB hx222_0
    replace hx222_1 := ox HB hx222_1
    replace hx222_2 := ox HB hx222_2
    replace hx222_3 := ox HB hx222_3
    replace hx222_4 := ox HB hx222_4
    replace hx222_5 := ox HB hx222_5
    replace hx222_6 := ox HB hx222_6
    replace hx222_7 := ox HB hx222_7
    replace hx222_8 := ox HB hx222_8
    have HR222_8 := Aside0.mk hi222_8
    have HC222_8 := Aside0.mk hl222_8
    clear hi222_8 hl222_8
    replace p222 := eq_true p222
    replace q222 := eq_true q222
    have ea_ := Option.some.inj (hx221_8.symm.trans hx222_8)
    injection ea_ with ea_ en_ ec_
    subst ea_
    subst ec_
    clear en_
    go_wp2
    repeat (go_quiet (fail); try go_wp2)
    go_roundg k1
    case measure => have := HK1.out; omega
    case rel => exact ⟨(wrap64 (x7_1 + 1)), (wrap64 (x8_1 + 1)), rsd, rsd, H', ⟨by have := HK1.out; omega⟩, ⟨by (with_reducible repeat (first | refine blk_drewN ?_ _ | refine blk_drew ?_ | refine blk_alloc ?_ _)); exact BK214.out⟩, ⟨by (with_reducible repeat (first | refine blk_drewN ?_ _ | refine blk_drew ?_ | refine blk_alloc ?_ _)); exact BK216.out⟩, ⟨tb HB⟩⟩
   by_cases c19 : ((rd_T82 l0_2 a1).f2) = true
   case neg =>
    rw [if_neg c19] at H
    have c19b0 : ((rd_T82 l0_2 a1).f2) = false := by simpa using c19
    clear c19
    obtain rfl := oin H
    have hnb27 := NB214_216.out
    have hnc27 := NB216_214.out
    have hz28 := cs8_ BK214
    have p221 : 0 ≤ (x8_1 : Int) := od
    have q221 : x8_1 < (l0_4.length : Int) := od
    obtain ⟨ad221, A221_8, c221_8, e221, hx221_0, hx221_1, hx221_2, hx221_3, hx221_4, hx221_5, hx221_6, hx221_7, hx221_8, hl221_8, hi221_8⟩ := at_T134 HR0_4.out x8_1 p221 q221
    cases e221
    replace hx221_0 := ox HB hx221_0
    replace hx221_1 := ox HB hx221_1
    replace hx221_2 := ox HB hx221_2
    replace hx221_3 := ox HB hx221_3
    replace hx221_4 := ox HB hx221_4
    replace hx221_5 := ox HB hx221_5
    replace hx221_6 := ox HB hx221_6
    replace hx221_7 := ox HB hx221_7
    replace hx221_8 := ox HB hx221_8
    have HR221_8 := Aside0.mk hi221_8
    have HC221_8 := Aside0.mk hl221_8
    clear hi221_8 hl221_8
    replace p221 := eq_true p221
    replace q221 := eq_true q221
    have p222 : 0 ≤ (x8_1 : Int) := od
    have q222 : x8_1 < (l0_4.length : Int) := od
    obtain ⟨ad222, A222_8, c222_8, e222, hx222_0, hx222_1, hx222_2, hx222_3, hx222_4, hx222_5, hx222_6, hx222_7, hx222_8, hl222_8, hi222_8⟩ := at_T134 HR0_4.out x8_1 p222 q222
    obtain rfl : ad221 = ad222 := (by injection e222)
    replace hx222_0 := ox HB hx222_0
    replace hx222_1 := ox HB hx222_1
    replace hx222_2 := ox HB hx222_2
    replace hx222_3 := ox HB hx222_3
    replace hx222_4 := ox HB hx222_4
    replace hx222_5 := ox HB hx222_5
    replace hx222_6 := ox HB hx222_6
    replace hx222_7 := ox HB hx222_7
    replace hx222_8 := ox HB hx222_8
    have HR222_8 := Aside0.mk hi222_8
    have HC222_8 := Aside0.mk hl222_8
    clear hi222_8 hl222_8
    replace p222 := eq_true p222
    replace q222 := eq_true q222
    have ea_ := Option.some.inj (hx221_8.symm.trans hx222_8)
    injection ea_ with ea_ en_ ec_
    subst ea_
    subst ec_
    clear en_
    have hz29 := cs5_ BK216
    go_wp2
    repeat (go_quiet (fail); try go_wp2)
    go_ret
    exact ⟨er, tb HB⟩
   rw [if_pos c19] at H
   have C19A := Aside0.mk c19
   clear c19
   by_cases c20 : x8_1 = t217
   case neg =>
    rw [if_neg c20] at H
    have c20b0 : (x8_1 == t217) = false := beq_eq_false_iff_ne.mpr c20
    have c20b1 : (x8_1 != t217) = true := bne_iff_ne.mpr c20
    obtain rfl := oin H
    have hnb24 := NB214_216.out
    have hnc24 := NB216_214.out
    have hz25 := cs8_ BK214
    have p221 : 0 ≤ (x8_1 : Int) := od
    have q221 : x8_1 < (l0_4.length : Int) := od
    obtain ⟨ad221, A221_8, c221_8, e221, hx221_0, hx221_1, hx221_2, hx221_3, hx221_4, hx221_5, hx221_6, hx221_7, hx221_8, hl221_8, hi221_8⟩ := at_T134 HR0_4.out x8_1 p221 q221
    cases e221
    replace hx221_0 := ox HB hx221_0
    replace hx221_1 := ox HB hx221_1
    replace hx221_2 := ox HB hx221_2
    replace hx221_3 := ox HB hx221_3
    replace hx221_4 := ox HB hx221_4
    replace hx221_5 := ox HB hx221_5
    replace hx221_6 := ox HB hx221_6
    replace hx221_7 := ox HB hx221_7
    replace hx221_8 := ox HB hx221_8
    have HR221_8 := Aside0.mk hi221_8
    have HC221_8 := Aside0.mk hl221_8
    clear hi221_8 hl221_8
    replace p221 := eq_true p221
    replace q221 := eq_true q221
    have p222 : 0 ≤ (x8_1 : Int) := od
    have q222 : x8_1 < (l0_4.length : Int) := od
    obtain ⟨ad222, A222_8, c222_8, e222, hx222_0, hx222_1, hx222_2, hx222_3, hx222_4, hx222_5, hx222_6, hx222_7, hx222_8, hl222_8, hi222_8⟩ := at_T134 HR0_4.out x8_1 p222 q222
    obtain rfl : ad221 = ad222 := (by injection e222)
    replace hx222_0 := ox HB hx222_0
    replace hx222_1 := ox HB hx222_1
    replace hx222_2 := ox HB hx222_2
    replace hx222_3 := ox HB hx222_3
    replace hx222_4 := ox HB hx222_4
    replace hx222_5 := ox HB hx222_5
    replace hx222_6 := ox HB hx222_6
    replace hx222_7 := ox HB hx222_7
    replace hx222_8 := ox HB hx222_8
    have HR222_8 := Aside0.mk hi222_8
    have HC222_8 := Aside0.mk hl222_8
    clear hi222_8 hl222_8
    replace p222 := eq_true p222
    replace q222 := eq_true q222
    have ea_ := Option.some.inj (hx221_8.symm.trans hx222_8)
    injection ea_ with ea_ en_ ec_
    subst ea_
    subst ec_
    clear en_
    have hcz26_0 : wr.cell? ⟨gb216, 0, none⟩ = some (.slice A215_0 ((rd_T82 l0_2 a1).f0).length c215_0) := cz BK216 0
    have hcz26_1 : wr.cell? ⟨gb216, 1, none⟩ = some (.int .i64 ((rd_T82 l0_2 a1).f1)) := cz BK216 1
    have hcz26_2 : wr.cell? ⟨gb216, 2, none⟩ = some (.bool true) := by rw [← C19A.out]; exact cz BK216 2
    have hcz26_3 : wr.cell? ⟨gb216, 3, none⟩ = some (.slice A215_3 ((rd_T82 l0_2 a1).f3).length c215_3) := cz BK216 3
    have hcz26_4 : wr.cell? ⟨gb216, 4, none⟩ = some (.slice A215_4 ((rd_T82 l0_2 a1).f4).length c215_4) := cz BK216 4
    have hfz26_0 := blk_frozen BK216.out 0
    have hfz26_1 := blk_frozen BK216.out 1
    have hfz26_2 := blk_frozen BK216.out 2
    have hfz26_3 := blk_frozen BK216.out 3
    have hfz26_4 := blk_frozen BK216.out 4
    go_wp2
    repeat (go_quiet (fail); try go_wp2)
    go_ret
    exact ⟨er, tb HB⟩
   rw [if_pos c20] at H
   have c20b0 : (x8_1 == t217) = true := beq_iff_eq.mpr c20
   have c20b1 : (x8_1 != t217) = false := bne_eq_false_iff_eq.mpr c20
   clear c20
   have H' := Aside0.mk H
   clear H
   have hnb21 := NB214_216.out
   have hnc21 := NB216_214.out
   have hz22 := cs8_ BK214
   have p221 : 0 ≤ (x8_1 : Int) := od
   have q221 : x8_1 < (l0_4.length : Int) := od
   obtain ⟨ad221, A221_8, c221_8, e221, hx221_0, hx221_1, hx221_2, hx221_3, hx221_4, hx221_5, hx221_6, hx221_7, hx221_8, hl221_8, hi221_8⟩ := at_T134 HR0_4.out x8_1 p221 q221
   cases e221
   replace hx221_0 := ox HB hx221_0
   replace hx221_1 := ox HB hx221_1
   replace hx221_2 := ox HB hx221_2
   replace hx221_3 := ox HB hx221_3
   replace hx221_4 := ox HB hx221_4
   replace hx221_5 := ox HB hx221_5
   replace hx221_6 := ox HB hx221_6
   replace hx221_7 := ox HB hx221_7
   replace hx221_8 := ox HB hx221_8
   have HR221_8 := Aside0.mk hi221_8
   have HC221_8 := Aside0.mk hl221_8
   clear hi221_8 hl221_8
   replace p221 := eq_true p221
   replace q221 := eq_true q221
   have p222 : 0 ≤ (x8_1 : Int) := od
   have q222 : x8_1 < (l0_4.length : Int) := od
   obtain ⟨ad222, A222_8, c222_8, e222, hx222_0, hx222_1, hx222_2, hx222_3, hx222_4, hx222_5, hx222_6, hx222_7, hx222_8, hl222_8, hi222_8⟩ := at_T134 HR0_4.out x8_1 p222 q222
   obtain rfl : ad221 = ad222 := (by injection e222)
   replace hx222_0 := ox HB hx222_0
   replace hx222_1 := ox HB hx222_1
   replace hx222_2 := ox HB hx222_2
   replace hx222_3 := ox HB hx222_3
   replace hx222_4 := ox HB hx222_4
   replace hx222_5 := ox HB hx222_5
   replace hx222_6 := ox HB hx222_6
   replace hx222_7 := ox HB hx222_7
   replace hx222_8 := ox HB hx222_8
   have HR222_8 := Aside0.mk hi222_8
   have HC222_8 := Aside0.mk hl222_8
   clear hi222_8 hl222_8
   replace p222 := eq_true p222
   replace q222 := eq_true q222
   have ea_ := Option.some.inj (hx221_8.symm.trans hx222_8)
   injection ea_ with ea_ en_ ec_
   subst ea_
   subst ec_
   clear en_
   have hcz23_0 : wr.cell? ⟨gb216, 0, none⟩ = some (.slice A215_0 ((rd_T82 l0_2 a1).f0).length c215_0) := cz BK216 0
   have hcz23_1 : wr.cell? ⟨gb216, 1, none⟩ = some (.int .i64 ((rd_T82 l0_2 a1).f1)) := cz BK216 1
   have hcz23_2 : wr.cell? ⟨gb216, 2, none⟩ = some (.bool true) := by rw [← C19A.out]; exact cz BK216 2
   have hcz23_3 : wr.cell? ⟨gb216, 3, none⟩ = some (.slice A215_3 ((rd_T82 l0_2 a1).f3).length c215_3) := cz BK216 3
   have hcz23_4 : wr.cell? ⟨gb216, 4, none⟩ = some (.slice A215_4 ((rd_T82 l0_2 a1).f4).length c215_4) := cz BK216 4
   have hfz23_0 := blk_frozen BK216.out 0
   have hfz23_1 := blk_frozen BK216.out 1
   have hfz23_2 := blk_frozen BK216.out 2
   have hfz23_3 := blk_frozen BK216.out 3
   have hfz23_4 := blk_frozen BK216.out 4
   go_wp2
   repeat (go_quiet (fail); try go_wp2)
   go_roundg k1
   case measure => have := HK1.out; omega
   case rel => exact ⟨(x7_1), (wrap64 (x8_1 + 1)), rsd, rsd, H', ⟨by have := HK1.out; omega⟩, ⟨by (with_reducible repeat (first | refine blk_drewN ?_ _ | refine blk_drew ?_ | refine blk_alloc ?_ _)); exact BK214.out⟩, ⟨by (with_reducible repeat (first | refine blk_drewN ?_ _ | refine blk_drew ?_ | refine blk_alloc ?_ _)); exact BK216.out⟩, ⟨tb HB⟩⟩
mutual
def spec_MachineOk.j0 : Nat → Bool → List (S39) → List (S52) → List (S82) → Int → List (S134) → List Int → List Int → Int → Option (Bool)
 | 0, _, _, _, _, _, _, _, _, _ => none
 | k + 1, x34, x224000, x224001, x224002, x224003, x224004, x224005, x224006, x224007 => if x34 = true then (some false) else (spec_MachineOk.l0 k 0 x224000 x224001 x224002 x224003 x224004 x224005 x224006 x224007)
def spec_MachineOk.l0 : Nat → Int → List (S39) → List (S52) → List (S82) → Int → List (S134) → List Int → List Int → Int → Option (Bool)
 | 0, _, _, _, _, _, _, _, _, _ => none
 | k + 1, x3, x224000, x224001, x224002, x224003, x224004, x224005, x224006, x224007 => if x3 < (x224002.length : Int) then (if 0 ≤ x3 then ((spec_ThreadOk.f k ((rd_T82 x224002 x3).f0) ((rd_T82 x224002 x3).f1) ((rd_T82 x224002 x3).f2) ((rd_T82 x224002 x3).f3) ((rd_T82 x224002 x3).f4) (x224002.length : Int)).bind fun t229 => (if t229 = true then ((spec_l9Thread.f k x224000 x224001 x224002 x224003 x224004 x224005 x224006 x224007 x3).bind fun t230 => (if t230 = true then (spec_MachineOk.l0 k (wrap64 (x3 + 1)) x224000 x224001 x224002 x224003 x224004 x224005 x224006 x224007) else (some false))) else (some false))) else (none)) else (some true)
end
def spec_MachineOk.f (k : Nat) (l0_0 : List (S39)) (l0_1 : List (S52)) (l0_2 : List (S82)) (a0_3 : Int) (l0_4 : List (S134)) (l0_5 : List Int) (l0_6 : List Int) (a0_7 : Int) : Option (Bool) := (spec_MemOk.f k l0_0 l0_1).bind fun t224 => (if t224 = true then (if (l0_1.length : Int) = (l0_2.length : Int) then ((spec_l1In.f a0_3 0 100000).bind fun t225 => (if t225 = true then ((spec_RowsOk.f k l0_6 a0_7).bind fun t226 => (if t226 = true then ((spec_l9Calls.f k l0_0 l0_1 l0_2 a0_3 l0_4 l0_5 l0_6 a0_7).bind fun t227 => (spec_MachineOk.j0 k (!t227) l0_0 l0_1 l0_2 a0_3 l0_4 l0_5 l0_6 a0_7)) else (spec_MachineOk.j0 k true l0_0 l0_1 l0_2 a0_3 l0_4 l0_5 l0_6 a0_7))) else (spec_MachineOk.j0 k true l0_0 l0_1 l0_2 a0_3 l0_4 l0_5 l0_6 a0_7))) else (spec_MachineOk.j0 k true l0_0 l0_1 l0_2 a0_3 l0_4 l0_5 l0_6 a0_7)) else (spec_MachineOk.j0 k true l0_0 l0_1 l0_2 a0_3 l0_4 l0_5 l0_6 a0_7))
def spec_MachineOk.T6 : Bool × List (List Nat × List Nat) := (true, [([], []), ([0], [0]), ([], []), ([1, 2], [1, 2]), ([3], [3]), ([], []), ([5], [5]), ([6], [6]), ([4, 7], [4, 7]), ([8], [8]), ([9, 8], [9]), ([10], [10]), ([10], [10]), ([11, 12, 10, 10], [10, 11, 12]), ([13, 10], [10, 13]), ([10, 14], [10, 14])])
def spec_MachineOk.B6 : List Nat := [0, 1, 0, 7, 15, 0, 32, 96, 255, 511, 1023, 2047, 2047, 8191, 16383, 32767]
theorem spec_MachineOk.tab6 : rtab .any (opsOf Tryz.f25 6) = spec_MachineOk.T6 := by kernel_rfl
theorem spec_MachineOk.bits6 : waitsOk spec_MachineOk.T6.2 spec_MachineOk.B6 = true := by kernel_rfl
set_option maxHeartbeats 8000000 in
set_option maxRecDepth 100000 in
theorem spec_MachineOk.calls (k : Nat) (A0_0 : Option Addr) (c0_0 : Nat) (l0_0 : List (S39)) (A0_1 : Option Addr) (c0_1 : Nat) (l0_1 : List (S52)) (A0_2 : Option Addr) (c0_2 : Nat) (l0_2 : List (S82)) (a0_3 : Int) (A0_4 : Option Addr) (c0_4 : Nat) (l0_4 : List (S134)) (A0_5 : Option Addr) (c0_5 : Nat) (l0_5 : List Int) (A0_6 : Option Addr) (c0_6 : Nat) (l0_6 : List Int) (a0_7 : Int) (r : Bool) (w : World) (hr0_0 : Kd.C k39 w A0_0 l0_0.length l0_0) (hc0_0 : l0_0.length ≤ c0_0) (hr0_1 : Kd.C k52 w A0_1 l0_1.length l0_1) (hc0_1 : l0_1.length ≤ c0_1) (hr0_2 : Kd.C k82 w A0_2 l0_2.length l0_2) (hc0_2 : l0_2.length ≤ c0_2) (hr0_4 : Kd.C k134 w A0_4 l0_4.length l0_4) (hc0_4 : l0_4.length ≤ c0_4) (hr0_5 : Kd.C (Kd.int .i64) w A0_5 l0_5.length l0_5) (hc0_5 : l0_5.length ≤ c0_5) (hr0_6 : Kd.C (Kd.int .i64) w A0_6 l0_6.length l0_6) (hc0_6 : l0_6.length ≤ c0_6) (h : spec_MachineOk.f k l0_0 l0_1 l0_2 a0_3 l0_4 l0_5 l0_6 a0_7 = some r) :
  Calls Tryz.prog 25 #[.agg #[.slice A0_0 l0_0.length c0_0, .slice A0_1 l0_1.length c0_1, .slice A0_2 l0_2.length c0_2, .int .i64 a0_3, .slice A0_4 l0_4.length c0_4, .slice A0_5 l0_5.length c0_5, .slice A0_6 l0_6.length c0_6, .int .i64 a0_7]] w fun e w' => e = .returned (.bool r) ∧ Below w.heap.size w w' := by
 have hu75 := Tryz.underlying75
 have hu27 := Tryz.underlying27
 have hu73 := Tryz.underlying73
 have hu82 := Tryz.underlying82
 have HR0_0 := Aside0.mk hr0_0
 have HC0_0 := Aside0.mk hc0_0
 clear hr0_0 hc0_0
 have HR0_1 := Aside0.mk hr0_1
 have HC0_1 := Aside0.mk hc0_1
 clear hr0_1 hc0_1
 have HR0_2 := Aside0.mk hr0_2
 have HC0_2 := Aside0.mk hc0_2
 clear hr0_2 hc0_2
 have HR0_4 := Aside0.mk hr0_4
 have HC0_4 := Aside0.mk hc0_4
 clear hr0_4 hc0_4
 have HR0_5 := Aside0.mk hr0_5
 have HC0_5 := Aside0.mk hc0_5
 clear hr0_5 hc0_5
 have HR0_6 := Aside0.mk hr0_6
 have HC0_6 := Aside0.mk hc0_6
 clear hr0_6 hc0_6
 have HB := Aside0.mk (Below.refl w.heap.size w)
 have H := h
 clear h
 unfold spec_MachineOk.f at H
 have HC2 := Aside0.mk H
 clear H
 go_enter Tryz.func25, Tryz.ntmps25
 go_upto_region 1 with (first | ((with_reducible refine gq 1 rfl ?_); (try (refine gate_guard (by rfl) ?_; dsimp only)); refine bx0 HB (N := 1) (t := 75) ?_; clear HB; intro gb223 w3 BK223 GE223 HB))
 (try simp only [Act.put, sA, sB, sC])
 go_cut [34] (fun v34 wc => ∃ (kq : Nat) (x34_1 : Bool), v34 = .bool x34_1 ∧ Aside0 (spec_MachineOk.j0 kq x34_1 l0_0 l0_1 l0_2 a0_3 l0_4 l0_5 l0_6 a0_7 = some r) ∧ Aside0 (kq ≤ k) ∧ Aside0 (wc.heap[gb223]? = some (.cells #[(.slice A0_0 l0_0.length c0_0), (.slice A0_1 l0_1.length c0_1), (.slice A0_2 l0_2.length c0_2), .int .i64 a0_3, (.slice A0_4 l0_4.length c0_4), (.slice A0_5 l0_5.length c0_5), (.slice A0_6 l0_6.length c0_6), .int .i64 a0_7] 75 (0, 0))) ∧ Aside0 (Below w.heap.size w wc))
 case first =>
  have H := HC2.out
  clear HC2
  obtain ⟨t224, A4, H⟩ := bn H
  try dsimp only at H
  cases t224
  case false =>
   replace H := ipf H
   have H' := Aside0.mk H
   clear H
   have hz28 := cs8_ BK223
   go_wp2_with (first | ((with_reducible refine gf 59 rfl ?_); refine gL 6 Tryz.func59 #[.agg #[.slice A0_0 l0_0.length c0_0, .slice A0_1 l0_1.length c0_1]] ?_; (with_reducible refine (spec_MemOk.calls k _ _ l0_0 _ _ l0_1 false _ (kc HR0_0 HB) HC0_0.out (kc HR0_1 HB) HC0_1.out A4.out).mono ?_); rintro e w29 ⟨rfl, hb⟩; refine ⟨_, rfl, ?_⟩; replace BK223 := bb BK223 hb; replace HB := bs HB hb; (try clear hb)))
   go_meet
   case rel => exact ⟨_, (true), rsd, H', ⟨by first | omega | exact Nat.le_refl _⟩, ⟨by (with_reducible repeat (first | refine blk_drewN ?_ _ | refine blk_drew ?_ | refine blk_alloc ?_ _)); exact BK223.out⟩, ⟨tb HB⟩⟩
  replace H := ipt H
  by_cases c6 : (l0_1.length : Int) = (l0_2.length : Int)
  case neg =>
   rw [if_neg c6] at H
   have c6b0 : ((l0_1.length : Int) == (l0_2.length : Int)) = false := beq_eq_false_iff_ne.mpr c6
   have c6b1 : ((l0_1.length : Int) != (l0_2.length : Int)) = true := bne_iff_ne.mpr c6
   have c6b2 : (l0_1.length == l0_2.length) = false := by first | simpa using c6 | (simp at c6 ⊢; omega)
   (first | rw [c6b0] | (simp only [i64_w, i32_w]; rw [c6b0]) | skip)
   have H' := Aside0.mk H
   clear H
   have hz25 := cs8_ BK223
   go_wp2_with (first | ((with_reducible refine gf 59 rfl ?_); refine gL 6 Tryz.func59 #[.agg #[.slice A0_0 l0_0.length c0_0, .slice A0_1 l0_1.length c0_1]] ?_; (with_reducible refine (spec_MemOk.calls k _ _ l0_0 _ _ l0_1 true _ (kc HR0_0 HB) HC0_0.out (kc HR0_1 HB) HC0_1.out A4.out).mono ?_); rintro e w26 ⟨rfl, hb⟩; refine ⟨_, rfl, ?_⟩; replace BK223 := bb BK223 hb; replace HB := bs HB hb; (try clear hb); have hz27 := cs8_ BK223))
   go_meet
   case rel => exact ⟨_, (true), rsd, H', ⟨by first | omega | exact Nat.le_refl _⟩, ⟨by (with_reducible repeat (first | refine blk_drewN ?_ _ | refine blk_drew ?_ | refine blk_alloc ?_ _)); exact BK223.out⟩, ⟨tb HB⟩⟩
  rw [if_pos c6] at H
  have c6b0 : ((l0_1.length : Int) == (l0_2.length : Int)) = true := beq_iff_eq.mpr c6
  have c6b1 : ((l0_1.length : Int) != (l0_2.length : Int)) = false := bne_eq_false_iff_eq.mpr c6
  have c6b2 : (l0_1.length == l0_2.length) = true := by first | simpa using c6 | (simp at c6 ⊢; omega)
  clear c6
  (first | rw [c6b0] | (simp only [i64_w, i32_w]; rw [c6b0]) | skip)
  obtain ⟨t225, A7, H⟩ := bn H
  try dsimp only at H
  cases t225
  case false =>
   replace H := ipf H
   have H' := Aside0.mk H
   clear H
   have hz22 := cs8_ BK223
   go_wp2_with (first | ((with_reducible refine gf 59 rfl ?_); refine gL 6 Tryz.func59 #[.agg #[.slice A0_0 l0_0.length c0_0, .slice A0_1 l0_1.length c0_1]] ?_; (with_reducible refine (spec_MemOk.calls k _ _ l0_0 _ _ l0_1 true _ (kc HR0_0 HB) HC0_0.out (kc HR0_1 HB) HC0_1.out A4.out).mono ?_); rintro e w23 ⟨rfl, hb⟩; refine ⟨_, rfl, ?_⟩; replace BK223 := bb BK223 hb; replace HB := bs HB hb; (try clear hb); have hz24 := cs8_ BK223) | (go_at_call 70; (with_reducible refine (spec_l1In.calls a0_3 0 100000 false _ A7.out).mono ?_); rintro e w' ⟨rfl, ⟨nd, rfl⟩⟩))
   go_meet
   case rel => exact ⟨_, (true), rsd, H', ⟨by first | omega | exact Nat.le_refl _⟩, ⟨by (with_reducible repeat (first | refine blk_drewN ?_ _ | refine blk_drew ?_ | refine blk_alloc ?_ _)); exact BK223.out⟩, ⟨tb HB⟩⟩
  replace H := ipt H
  obtain ⟨t226, A9, H⟩ := bn H
  try dsimp only at H
  cases t226
  case false =>
   replace H := ipf H
   have H' := Aside0.mk H
   clear H
   have hz18 := cs8_ BK223
   go_wp2_with (first | ((with_reducible refine gf 59 rfl ?_); refine gL 6 Tryz.func59 #[.agg #[.slice A0_0 l0_0.length c0_0, .slice A0_1 l0_1.length c0_1]] ?_; (with_reducible refine (spec_MemOk.calls k _ _ l0_0 _ _ l0_1 true _ (kc HR0_0 HB) HC0_0.out (kc HR0_1 HB) HC0_1.out A4.out).mono ?_); rintro e w19 ⟨rfl, hb⟩; refine ⟨_, rfl, ?_⟩; replace BK223 := bb BK223 hb; replace HB := bs HB hb; (try clear hb); have hz20 := cs8_ BK223) | (go_at_call 70; (with_reducible refine (spec_l1In.calls a0_3 0 100000 true _ A7.out).mono ?_); rintro e w' ⟨rfl, ⟨nd, rfl⟩⟩) | (go_at_call 85; (with_reducible refine (spec_RowsOk.calls k _ _ l0_6 a0_7 false _ ?side1 HC0_6.out A9.out).mono ?_); (case side1 => repeat (first | exact (Kd.C_below HR0_6.out (tb HB)) | (with_reducible refine Kd.C_alloc ?_ _) | (with_reducible refine Kd.C_drewN ?_ _) | (with_reducible refine Kd.C_drew ?_))); rintro e w21 ⟨rfl, hb⟩; replace BK223 := bb BK223 hb; replace HB := bs HB hb; (try clear hb)))
   go_meet
   case rel => exact ⟨_, (true), rsd, H', ⟨by first | omega | exact Nat.le_refl _⟩, ⟨by (with_reducible repeat (first | refine blk_drewN ?_ _ | refine blk_drew ?_ | refine blk_alloc ?_ _)); exact BK223.out⟩, ⟨tb HB⟩⟩
  replace H := ipt H
  obtain ⟨t227, A11, H⟩ := bn H
  try dsimp only at H
  have H' := Aside0.mk H
  clear H
  have hz12 := cs8_ BK223
  go_wp2_with (first | ((with_reducible refine gf 59 rfl ?_); refine gL 6 Tryz.func59 #[.agg #[.slice A0_0 l0_0.length c0_0, .slice A0_1 l0_1.length c0_1]] ?_; (with_reducible refine (spec_MemOk.calls k _ _ l0_0 _ _ l0_1 true _ (kc HR0_0 HB) HC0_0.out (kc HR0_1 HB) HC0_1.out A4.out).mono ?_); rintro e w13 ⟨rfl, hb⟩; refine ⟨_, rfl, ?_⟩; replace BK223 := bb BK223 hb; replace HB := bs HB hb; (try clear hb); have hz14 := cs8_ BK223) | (go_at_call 70; (with_reducible refine (spec_l1In.calls a0_3 0 100000 true _ A7.out).mono ?_); rintro e w' ⟨rfl, ⟨nd, rfl⟩⟩) | (go_at_call 85; (with_reducible refine (spec_RowsOk.calls k _ _ l0_6 a0_7 true _ ?side1 HC0_6.out A9.out).mono ?_); (case side1 => repeat (first | exact (Kd.C_below HR0_6.out (tb HB)) | (with_reducible refine Kd.C_alloc ?_ _) | (with_reducible refine Kd.C_drewN ?_ _) | (with_reducible refine Kd.C_drew ?_))); rintro e w15 ⟨rfl, hb⟩; replace BK223 := bb BK223 hb; replace HB := bs HB hb; (try clear hb); have hz16 := cs8_ BK223) | (go_at_call 86; (with_reducible refine (spec_l9Calls.calls k _ _ l0_0 _ _ l0_1 _ _ l0_2 a0_3 _ _ l0_4 _ _ l0_5 _ _ l0_6 a0_7 t227 _ (kc HR0_0 HB) HC0_0.out (kc HR0_1 HB) HC0_1.out (kc HR0_2 HB) HC0_2.out (kc HR0_4 HB) HC0_4.out (kc HR0_5 HB) HC0_5.out (kc HR0_6 HB) HC0_6.out A11.out).mono ?_); rintro e w17 ⟨rfl, hb⟩; replace BK223 := bb BK223 hb; replace HB := bs HB hb; (try clear hb)))
  go_meet
  case rel => exact ⟨_, (!t227), rsd, H', ⟨by first | omega | exact Nat.le_refl _⟩, ⟨by (with_reducible repeat (first | refine blk_drewN ?_ _ | refine blk_drew ?_ | refine blk_alloc ?_ _)); exact BK223.out⟩, ⟨tb HB⟩⟩
 case rest =>
  clear HC2
  try clear c1
  try clear c2
  try clear p2
  try clear c5
  try clear c6
  try clear c6b0
  try clear c6b1
  try clear c6b2
  try clear c8
  try clear c10
  try clear c25
  try clear hz12
  try clear hz14
  try clear hz16
  try clear hz18
  try clear hz20
  try clear hz22
  try clear hz24
  try clear hz25
  try clear hz27
  try clear hz28
  try clear hz12
  try clear hz14
  try clear hz16
  try clear hz18
  try clear hz20
  try clear hz22
  try clear hz24
  try clear hz25
  try clear hz27
  try clear hz28
  obtain ⟨kq, x34_1, rfl, HA, HJ1, BK223, HB⟩ := hcut
  cases kq with
  | zero => exact absurd HA.out (by simp [spec_MachineOk.j0])
  | succ kj1 =>
   have H := HA.out
   clear HA
   simp only [spec_MachineOk.j0] at H
   cases x34_1
   case true =>
    replace H := ipt H
    obtain rfl := oin H
    go_wp2
    go_ret
    exact ⟨er, tb HB⟩
   replace H := ipf H
   have H' := Aside0.mk H
   clear H
   go_wp2
   go_loopg [3] kj1 (fun kq v3 w' => ∃ (x3_2 : Int), v3 = .int .i64 x3_2 ∧ Aside0 (spec_MachineOk.l0 kq x3_2 l0_0 l0_1 l0_2 a0_3 l0_4 l0_5 l0_6 a0_7 = some r) ∧ Aside0 (kq ≤ kj1) ∧ Aside0 (w'.heap[gb223]? = some (.cells #[(.slice A0_0 l0_0.length c0_0), (.slice A0_1 l0_1.length c0_1), (.slice A0_2 l0_2.length c0_2), .int .i64 a0_3, (.slice A0_4 l0_4.length c0_4), (.slice A0_5 l0_5.length c0_5), (.slice A0_6 l0_6.length c0_6), .int .i64 a0_7] 75 (0, 0))) ∧ Aside0 (Below w.heap.size w w'))
   case atStart => exact ⟨(0), rsd, H', ⟨Nat.le_refl _⟩, ⟨by (with_reducible repeat (first | refine blk_drewN ?_ _ | refine blk_drew ?_ | refine blk_alloc ?_ _)); exact BK223.out⟩, ⟨tb HB⟩⟩
   case round =>
    clear H'
    try clear c1
    try clear c2
    try clear p2
    try clear c3
    try clear c5
    try clear c6
    try clear c6b0
    try clear c6b1
    try clear c6b2
    try clear c8
    try clear c10
    try clear c25
    try clear c30
    try clear hz12
    try clear hz14
    try clear hz16
    try clear hz18
    try clear hz20
    try clear hz22
    try clear hz24
    try clear hz25
    try clear hz27
    try clear hz28
    try clear hz12
    try clear hz14
    try clear hz16
    try clear hz18
    try clear hz20
    try clear hz22
    try clear hz24
    try clear hz25
    try clear hz27
    try clear hz28
    try clear p2
    obtain ⟨x3_2, rfl, HA, HK2, BK223, HB⟩ := hrel
    cases gk with
    | zero => exact absurd HA.out (by simp [spec_MachineOk.l0])
    | succ k2 =>
     have H := HA.out
     clear HA
     simp only [spec_MachineOk.l0] at H
     revert H; refine icd (fun c31b0 H => ?_) fun c31b0 H => ?neg
     case neg =>
      obtain rfl := oin H
      have hz48 := cs8_ BK223
      go_wp2
      go_ret
      exact ⟨er, tb HB⟩
     obtain ⟨c32b0, H⟩ := itd H
     obtain ⟨t229, A33, H⟩ := bn H
     try dsimp only at H
     cases t229
     case false =>
      replace H := ipf H
      obtain rfl := oin H
      have hz45 := cs8_ BK223
      try go_wp2
      replace BK223 := bd BK223
      replace HB := Aside0.mk (below_drew1 HB.out)
      have p228 : 0 ≤ (x3_2 : Int) := od
      have q228 : x3_2 < (l0_2.length : Int) := od
      obtain ⟨ad228, A228_0, c228_0, A228_3, c228_3, A228_4, c228_4, e228, hx228, hl228_0, hi228_0, hl228_3, hi228_3, hl228_4, hi228_4⟩ := att82 HR0_2.out x3_2 p228 q228
      have hw228 := hx228
      cases e228
      replace hx228 := ox5 HB hx228
      have HR228_0 := Aside0.mk hi228_0
      have HC228_0 := Aside0.mk hl228_0
      clear hi228_0 hl228_0
      have HR228_3 := Aside0.mk hi228_3
      have HC228_3 := Aside0.mk hl228_3
      clear hi228_3 hl228_3
      have HR228_4 := Aside0.mk hi228_4
      have HC228_4 := Aside0.mk hl228_4
      clear hi228_4 hl228_4
      replace p228 := eq_true p228
      replace q228 := eq_true q228
      refine start_ (n := 16) (S := fun w' => cS8 gb223 (.slice A0_0 l0_0.length c0_0) (.slice A0_1 l0_1.length c0_1) (.slice (some ad228) l0_2.length c0_2) (.int .i64 a0_3) (.slice A0_4 l0_4.length c0_4) (.slice A0_5 l0_5.length c0_5) (.slice A0_6 l0_6.length c0_6) (.int .i64 a0_7) w' ∧ eT82 (ad228.add ((x3_2).toNat * 5)) (rd_T82 l0_2 x3_2) A228_0 c228_0 A228_3 c228_3 A228_4 c228_4 w') (ds := []) #[false, false, false, false, false, false, false, false, false, false, false, false, false, false, false, false] (by kernel_rfl) rfl rfl ⟨ds8_ BK223, (ox5 HB hw228 :)⟩ (fun hHeld => ?_); refine with_tabW spec_MachineOk.tab6 spec_MachineOk.bits6 (fun HT_ HW_ => ?_)
      generalize wr.drew = w46 at BK223 HB HR228_0 HR228_3 HR228_4 hx228 hHeld ⊢
      refine pu 0 42 ?_; refine pu 2 44 ?_; refine pu 5 47 ?_; refine ta 1 43 ?_; refine pu 3 45 ?_; refine ta 4 46 ?_; refine ta 6 48 ?_; refine pu 7 49 ?_
      refine on1 8 (some 50) (fun K hK => ?_)
      refine gS Tryz.func48 #[.agg #[.slice A228_0 ((rd_T82 l0_2 x3_2).f0).length c228_0, .int .i64 ((rd_T82 l0_2 x3_2).f1), .bool ((rd_T82 l0_2 x3_2).f2), .slice A228_3 ((rd_T82 l0_2 x3_2).f3).length c228_3, .slice A228_4 ((rd_T82 l0_2 x3_2).f4).length c228_4], .int .i64 (l0_2.length : Int)] ?_
      with_reducible refine (spec_ThreadOk.calls k2 _ _ ((rd_T82 l0_2 x3_2).f0) ((rd_T82 l0_2 x3_2).f1) ((rd_T82 l0_2 x3_2).f2) _ _ ((rd_T82 l0_2 x3_2).f3) _ _ ((rd_T82 l0_2 x3_2).f4) (l0_2.length : Int) false _ ?side1 ?side2 ?side3 ?side4 ?side5 ?side6 A33.out).mono ?_
      (case side1 => exact kc HR228_0 HB)
      (case side2 => exact HC228_0.out)
      (case side3 => exact kc HR228_3 HB)
      (case side4 => exact HC228_3.out)
      (case side5 => exact kc HR228_4 HB)
      (case side6 => exact HC228_4.out)
      rintro e w47 ⟨rfl, hb⟩
      refine ⟨_, rfl, ?_⟩
      replace BK223 := bb BK223 hb
      replace HB := bs HB hb
      (try clear hb)
      (try clear hb2)
      (try clear hk)
      (try clear hi)
      refine hK.out _ _ ⟨ds8_ BK223, (ox5 HB hw228 :)⟩ (fun hHeld => ?_)
      clear hK K
      refine nm 50 ?_
      refine pu 9 51 ?_; refine pu 10 52 ?_; refine pn 11 53 ?_; refine pn 12 54 ?_; refine pn 13 55 ?_; refine pn 14 56 ?_; refine pu 15 57 ?_
      refine done_ (done_of HT_.out (by kernel_rfl)) ?_
      try go_wp2
      go_ret
      exact ⟨er, tb HB⟩
     replace H := ipt H
     obtain ⟨t230, A35, H⟩ := bn H
     try dsimp only at H
     cases t230
     case false =>
      replace H := ipf H
      obtain rfl := oin H
      have hz41 := cs8_ BK223
      try go_wp2
      replace BK223 := bd BK223
      replace HB := Aside0.mk (below_drew1 HB.out)
      have p228 : 0 ≤ (x3_2 : Int) := od
      have q228 : x3_2 < (l0_2.length : Int) := od
      obtain ⟨ad228, A228_0, c228_0, A228_3, c228_3, A228_4, c228_4, e228, hx228, hl228_0, hi228_0, hl228_3, hi228_3, hl228_4, hi228_4⟩ := att82 HR0_2.out x3_2 p228 q228
      have hw228 := hx228
      cases e228
      replace hx228 := ox5 HB hx228
      have HR228_0 := Aside0.mk hi228_0
      have HC228_0 := Aside0.mk hl228_0
      clear hi228_0 hl228_0
      have HR228_3 := Aside0.mk hi228_3
      have HC228_3 := Aside0.mk hl228_3
      clear hi228_3 hl228_3
      have HR228_4 := Aside0.mk hi228_4
      have HC228_4 := Aside0.mk hl228_4
      clear hi228_4 hl228_4
      replace p228 := eq_true p228
      replace q228 := eq_true q228
      refine start_ (n := 16) (S := fun w' => cS8 gb223 (.slice A0_0 l0_0.length c0_0) (.slice A0_1 l0_1.length c0_1) (.slice (some ad228) l0_2.length c0_2) (.int .i64 a0_3) (.slice A0_4 l0_4.length c0_4) (.slice A0_5 l0_5.length c0_5) (.slice A0_6 l0_6.length c0_6) (.int .i64 a0_7) w' ∧ eT82 (ad228.add ((x3_2).toNat * 5)) (rd_T82 l0_2 x3_2) A228_0 c228_0 A228_3 c228_3 A228_4 c228_4 w') (ds := []) #[false, false, false, false, false, false, false, false, false, false, false, false, false, false, false, false] (by kernel_rfl) rfl rfl ⟨ds8_ BK223, (ox5 HB hw228 :)⟩ (fun hHeld => ?_); refine with_tabW spec_MachineOk.tab6 spec_MachineOk.bits6 (fun HT_ HW_ => ?_)
      generalize wr.drew = w42 at BK223 HB HR228_0 HR228_3 HR228_4 hx228 hHeld ⊢
      refine pu 0 42 ?_; refine pu 2 44 ?_; refine pu 5 47 ?_; refine ta 1 43 ?_; refine pu 3 45 ?_; refine ta 4 46 ?_; refine ta 6 48 ?_; refine pu 7 49 ?_
      refine on1 8 (some 50) (fun K hK => ?_)
      refine gS Tryz.func48 #[.agg #[.slice A228_0 ((rd_T82 l0_2 x3_2).f0).length c228_0, .int .i64 ((rd_T82 l0_2 x3_2).f1), .bool ((rd_T82 l0_2 x3_2).f2), .slice A228_3 ((rd_T82 l0_2 x3_2).f3).length c228_3, .slice A228_4 ((rd_T82 l0_2 x3_2).f4).length c228_4], .int .i64 (l0_2.length : Int)] ?_
      with_reducible refine (spec_ThreadOk.calls k2 _ _ ((rd_T82 l0_2 x3_2).f0) ((rd_T82 l0_2 x3_2).f1) ((rd_T82 l0_2 x3_2).f2) _ _ ((rd_T82 l0_2 x3_2).f3) _ _ ((rd_T82 l0_2 x3_2).f4) (l0_2.length : Int) true _ ?side1 ?side2 ?side3 ?side4 ?side5 ?side6 A33.out).mono ?_
      (case side1 => exact kc HR228_0 HB)
      (case side2 => exact HC228_0.out)
      (case side3 => exact kc HR228_3 HB)
      (case side4 => exact HC228_3.out)
      (case side5 => exact kc HR228_4 HB)
      (case side6 => exact HC228_4.out)
      rintro e w43 ⟨rfl, hb⟩
      refine ⟨_, rfl, ?_⟩
      replace BK223 := bb BK223 hb
      replace HB := bs HB hb
      (try clear hb)
      (try clear hb2)
      (try clear hk)
      (try clear hi)
      refine hK.out _ _ ⟨ds8_ BK223, (ox5 HB hw228 :)⟩ (fun hHeld => ?_)
      clear hK K
      refine nm 50 ?_
      refine pu 9 51 ?_; refine pu 10 52 ?_; refine pu 12 54 ?_; refine ta 11 53 ?_
      refine on1 13 (some 55) (fun K hK => ?_)
      refine gS Tryz.func87 #[.agg #[.slice A0_0 l0_0.length c0_0, .slice A0_1 l0_1.length c0_1, .slice (some ad228) l0_2.length c0_2, .int .i64 a0_3, .slice A0_4 l0_4.length c0_4, .slice A0_5 l0_5.length c0_5, .slice A0_6 l0_6.length c0_6, .int .i64 a0_7], .int .i64 x3_2] ?_
      with_reducible refine (spec_l9Thread.calls k2 _ _ l0_0 _ _ l0_1 _ _ l0_2 a0_3 _ _ l0_4 _ _ l0_5 _ _ l0_6 a0_7 x3_2 false _ ?side1 ?side2 ?side3 ?side4 ?side5 ?side6 ?side7 ?side8 ?side9 ?side10 ?side11 ?side12 A35.out).mono ?_
      (case side1 => exact kc HR0_0 HB)
      (case side2 => exact HC0_0.out)
      (case side3 => exact kc HR0_1 HB)
      (case side4 => exact HC0_1.out)
      (case side5 => exact kc HR0_2 HB)
      (case side6 => exact HC0_2.out)
      (case side7 => exact kc HR0_4 HB)
      (case side8 => exact HC0_4.out)
      (case side9 => exact kc HR0_5 HB)
      (case side10 => exact HC0_5.out)
      (case side11 => exact kc HR0_6 HB)
      (case side12 => exact HC0_6.out)
      rintro e w44 ⟨rfl, hb⟩
      refine ⟨_, rfl, ?_⟩
      replace BK223 := bb BK223 hb
      replace HB := bs HB hb
      (try clear hb)
      (try clear hb2)
      (try clear hk)
      (try clear hi)
      refine hK.out _ _ ⟨ds8_ BK223, (ox5 HB hw228 :)⟩ (fun hHeld => ?_)
      clear hK K
      refine nm 55 ?_
      refine pu 14 56 ?_; refine pu 15 57 ?_
      refine done_ (done_of HT_.out (by kernel_rfl)) ?_
      try go_wp2
      go_ret
      exact ⟨er, tb HB⟩
     replace H := ipt H
     have H' := Aside0.mk H
     clear H
     have hz37 := cs8_ BK223
     try go_wp2
     replace BK223 := bd BK223
     replace HB := Aside0.mk (below_drew1 HB.out)
     have p228 : 0 ≤ (x3_2 : Int) := od
     have q228 : x3_2 < (l0_2.length : Int) := od
     obtain ⟨ad228, A228_0, c228_0, A228_3, c228_3, A228_4, c228_4, e228, hx228, hl228_0, hi228_0, hl228_3, hi228_3, hl228_4, hi228_4⟩ := att82 HR0_2.out x3_2 p228 q228
     have hw228 := hx228
     cases e228
     replace hx228 := ox5 HB hx228
     have HR228_0 := Aside0.mk hi228_0
     have HC228_0 := Aside0.mk hl228_0
     clear hi228_0 hl228_0
     have HR228_3 := Aside0.mk hi228_3
     have HC228_3 := Aside0.mk hl228_3
     clear hi228_3 hl228_3
     have HR228_4 := Aside0.mk hi228_4
     have HC228_4 := Aside0.mk hl228_4
     clear hi228_4 hl228_4
     replace p228 := eq_true p228
     replace q228 := eq_true q228
     refine start_ (n := 16) (S := fun w' => cS8 gb223 (.slice A0_0 l0_0.length c0_0) (.slice A0_1 l0_1.length c0_1) (.slice (some ad228) l0_2.length c0_2) (.int .i64 a0_3) (.slice A0_4 l0_4.length c0_4) (.slice A0_5 l0_5.length c0_5) (.slice A0_6 l0_6.length c0_6) (.int .i64 a0_7) w' ∧ eT82 (ad228.add ((x3_2).toNat * 5)) (rd_T82 l0_2 x3_2) A228_0 c228_0 A228_3 c228_3 A228_4 c228_4 w') (ds := []) #[false, false, false, false, false, false, false, false, false, false, false, false, false, false, false, false] (by kernel_rfl) rfl rfl ⟨ds8_ BK223, (ox5 HB hw228 :)⟩ (fun hHeld => ?_); refine with_tabW spec_MachineOk.tab6 spec_MachineOk.bits6 (fun HT_ HW_ => ?_)
     generalize wr.drew = w38 at BK223 HB HR228_0 HR228_3 HR228_4 hx228 hHeld ⊢
     refine pu 0 42 ?_; refine pu 2 44 ?_; refine pu 5 47 ?_; refine ta 1 43 ?_; refine pu 3 45 ?_; refine ta 4 46 ?_; refine ta 6 48 ?_; refine pu 7 49 ?_
     refine on1 8 (some 50) (fun K hK => ?_)
     refine gS Tryz.func48 #[.agg #[.slice A228_0 ((rd_T82 l0_2 x3_2).f0).length c228_0, .int .i64 ((rd_T82 l0_2 x3_2).f1), .bool ((rd_T82 l0_2 x3_2).f2), .slice A228_3 ((rd_T82 l0_2 x3_2).f3).length c228_3, .slice A228_4 ((rd_T82 l0_2 x3_2).f4).length c228_4], .int .i64 (l0_2.length : Int)] ?_
     with_reducible refine (spec_ThreadOk.calls k2 _ _ ((rd_T82 l0_2 x3_2).f0) ((rd_T82 l0_2 x3_2).f1) ((rd_T82 l0_2 x3_2).f2) _ _ ((rd_T82 l0_2 x3_2).f3) _ _ ((rd_T82 l0_2 x3_2).f4) (l0_2.length : Int) true _ ?side1 ?side2 ?side3 ?side4 ?side5 ?side6 A33.out).mono ?_
     (case side1 => exact kc HR228_0 HB)
     (case side2 => exact HC228_0.out)
     (case side3 => exact kc HR228_3 HB)
     (case side4 => exact HC228_3.out)
     (case side5 => exact kc HR228_4 HB)
     (case side6 => exact HC228_4.out)
     rintro e w39 ⟨rfl, hb⟩
     refine ⟨_, rfl, ?_⟩
     replace BK223 := bb BK223 hb
     replace HB := bs HB hb
     (try clear hb)
     (try clear hb2)
     (try clear hk)
     (try clear hi)
     refine hK.out _ _ ⟨ds8_ BK223, (ox5 HB hw228 :)⟩ (fun hHeld => ?_)
     clear hK K
     refine nm 50 ?_
     refine pu 9 51 ?_; refine pu 10 52 ?_; refine pu 12 54 ?_; refine ta 11 53 ?_
     refine on1 13 (some 55) (fun K hK => ?_)
     refine gS Tryz.func87 #[.agg #[.slice A0_0 l0_0.length c0_0, .slice A0_1 l0_1.length c0_1, .slice (some ad228) l0_2.length c0_2, .int .i64 a0_3, .slice A0_4 l0_4.length c0_4, .slice A0_5 l0_5.length c0_5, .slice A0_6 l0_6.length c0_6, .int .i64 a0_7], .int .i64 x3_2] ?_
     with_reducible refine (spec_l9Thread.calls k2 _ _ l0_0 _ _ l0_1 _ _ l0_2 a0_3 _ _ l0_4 _ _ l0_5 _ _ l0_6 a0_7 x3_2 true _ ?side1 ?side2 ?side3 ?side4 ?side5 ?side6 ?side7 ?side8 ?side9 ?side10 ?side11 ?side12 A35.out).mono ?_
     (case side1 => exact kc HR0_0 HB)
     (case side2 => exact HC0_0.out)
     (case side3 => exact kc HR0_1 HB)
     (case side4 => exact HC0_1.out)
     (case side5 => exact kc HR0_2 HB)
     (case side6 => exact HC0_2.out)
     (case side7 => exact kc HR0_4 HB)
     (case side8 => exact HC0_4.out)
     (case side9 => exact kc HR0_5 HB)
     (case side10 => exact HC0_5.out)
     (case side11 => exact kc HR0_6 HB)
     (case side12 => exact HC0_6.out)
     rintro e w40 ⟨rfl, hb⟩
     refine ⟨_, rfl, ?_⟩
     replace BK223 := bb BK223 hb
     replace HB := bs HB hb
     (try clear hb)
     (try clear hb2)
     (try clear hk)
     (try clear hi)
     refine hK.out _ _ ⟨ds8_ BK223, (ox5 HB hw228 :)⟩ (fun hHeld => ?_)
     clear hK K
     refine nm 55 ?_
     refine pu 14 56 ?_; refine pu 15 57 ?_
     refine done_ (done_of HT_.out (by kernel_rfl)) ?_
     try go_wp2
     go_roundg k2
     case measure => have := HJ1.out; have := HK2.out; omega
     case rel => exact ⟨(wrap64 (x3_2 + 1)), rsd, H', ⟨by have := HJ1.out; have := HK2.out; omega⟩, ⟨by (with_reducible repeat (first | refine blk_drewN ?_ _ | refine blk_drew ?_ | refine blk_alloc ?_ _)); exact BK223.out⟩, ⟨tb HB⟩⟩
def laws_toIntS.l0 : Nat → List Int → List Int → Int → Option (List Int)
 | 0, _, _, _ => none
 | k + 1, x0, x3, x4 => if x4 < (x0.length : Int) then (if 0 ≤ x4 then (if x4 < (x3.length : Int) then (laws_toIntS.l0 k x0 (x3.set (x4 : Int).toNat (rd x0 x4)) (wrap64 (x4 + 1))) else (none)) else (none)) else (some x3)
def laws_toIntS.f (k : Nat) (l0 : List Int) : Option (List Int) := if 0 ≤ (l0.length : Int) then (if ((l0.length : Int) : Int).toNat ≤ 35184372088832 then (laws_toIntS.l0 k l0 (List.replicate ((l0.length : Int) : Int).toNat 0) 0) else (none)) else (none)
set_option maxHeartbeats 8000000 in
set_option maxRecDepth 100000 in
theorem laws_toIntS.calls (k : Nat) (A0 : Option Addr) (c0 : Nat) (l0 : List Int) (r : List Int) (w : World) (hr0 : Kd.C (Kd.int .i64) w A0 l0.length l0) (hc0 : l0.length ≤ c0) (h : laws_toIntS.f k l0 = some r) :
  Calls Tryz.prog 91 #[.slice A0 l0.length c0] w fun e w' => ∃ v0_ : Value, e = .returned (v0_) ∧ Kd.R (Kd.int .i64) 3 w' w.heap.size (fun _ => True) v0_ r ∧ Below w.heap.size w w' := by
 have HR0 := Aside0.mk hr0
 have HC0 := Aside0.mk hc0
 clear hr0 hc0
 have HB := Aside0.mk (Below.refl w.heap.size w)
 have H := h
 clear h
 unfold laws_toIntS.f at H
 obtain ⟨c2b0, c2b1, H⟩ := itb H
 obtain ⟨c3b0, c3b1, H⟩ := itb H
 obtain ⟨y242, hy242⟩ : ∃ y_ : List Int, y_ = (List.replicate ((l0.length : Int) : Int).toNat 0) := ⟨_, rfl⟩
 replace H : (laws_toIntS.l0 k l0 y242 0) = some r := by first | (rw [hy242]; with_reducible exact H) | (have H2_ := (Option.bind_some _ _).symm.trans H; rw [hy242]; with_reducible exact H2_) | (have H2_ := (Option.bind_some _ _).symm.trans H; with_reducible exact H2_) | with_reducible exact H | (rw [hy242]; exact H) | exact H
 have Ny242 := Aside0.mk hy242
 clear hy242
 have H' := Aside0.mk H
 clear H
 go_enter Tryz.func91, Tryz.ntmps91
 go_wp2_with (first | ((with_reducible refine gq 7 rfl ?_); refine Kd.R_make (Kd.int .i64) _ 3 rfl (N := 7) rfl 29 _ _ rfl (l0.length : Int) rfl rfl Tryz.underlying29 (.int .i64 0) 8 info3 rfl (by decide) (by omega) 0 (ok := fun _ => True) (okp := fun _ => True) rfl (fun _ hk => hk) trivial (od) (Nat.le_trans (Nat.mul_le_mul_right _ (od : (l0.length : Int).toNat ≤ 35184372088832)) (by omega)) (Below.refl _ _) (Nat.le_refl _) ?_; intro v243 w4 ho5 hb hg_ hnew_; clear hg_ hnew_; (first | rw [← Ny242.out] at ho5 | (simp only [Int.reduceToNat] at ho5; rw [← Ny242.out] at ho5)); have HO244 := Aside0.mk (Kd.R_lower ho5 (below_size (tb HB))); replace HB := bs HB hb; clear hb ho5))
 go_loopg [4] k (fun kq v4 w' => ∃ (x3_1 : List Int) (x4_1 : Int), v4 = .int .i64 x4_1 ∧ Aside0 (laws_toIntS.l0 kq l0 x3_1 x4_1 = some r) ∧ Aside0 (kq ≤ k) ∧ Aside0 (Kd.R (Kd.int .i64) 3 w' w.heap.size (fun _ => True) v243 x3_1) ∧ Aside0 (Below w.heap.size w w'))
 case atStart => exact ⟨(y242), (0), rsd, H', ⟨Nat.le_refl _⟩, ⟨kr HO244.out⟩, ⟨tb HB⟩⟩
 case round =>
  clear H'
  try clear c2
  try clear c2b0
  try clear c2b1
  try clear p2
  try clear c3
  try clear c3b0
  try clear c3b1
  obtain ⟨x3_1, x4_1, rfl, HA, HK1, HO_3, HB⟩ := hrel
  cases gk with
  | zero => exact absurd HA.out (by simp [laws_toIntS.l0])
  | succ k1 =>
   have H := HA.out
   clear HA
   simp only [laws_toIntS.l0] at H
   revert H; refine icd (fun c6b0 H => ?_) fun c6b0 H => ?neg
   case neg =>
    obtain rfl := oin H
    go_wp2
    go_ret
    exact ⟨_, er, kr HO_3.out, tb HB⟩
   obtain ⟨c7b0, H⟩ := itd H
   obtain ⟨c8b0, H⟩ := itd H
   obtain ⟨y246, hy246⟩ : ∃ y_ : List Int, y_ = (x3_1.set (x4_1 : Int).toNat (rd l0 x4_1)) := ⟨_, rfl⟩
   replace H : (laws_toIntS.l0 k1 l0 y246 (wrap64 (x4_1 + 1))) = some r := by first | (rw [hy246]; with_reducible exact H) | (have H2_ := (Option.bind_some _ _).symm.trans H; rw [hy246]; with_reducible exact H2_) | (have H2_ := (Option.bind_some _ _).symm.trans H; with_reducible exact H2_) | with_reducible exact H | (rw [hy246]; exact H) | exact H
   have Ny246 := Aside0.mk hy246
   clear hy246
   have H' := Aside0.mk H
   clear H
   have p245 : 0 ≤ (x4_1 : Int) := od
   have q245 : x4_1 < (l0.length : Int) := od
   obtain ⟨ad245, e245, hx245_0⟩ := Kd.at_int HR0.out x4_1 p245 q245
   cases e245
   replace hx245_0 := ox HB hx245_0
   replace p245 := eq_true p245
   replace q245 := eq_true q245
   have p9 : 0 ≤ (x4_1 : Int) := od
   have q9 : (x4_1 : Int) < ((x3_1.length : Int) : Int) := od
   obtain ⟨go9, co9, eo9, gb9, gl9, cl9, HG9⟩ := Kd.R_form HO_3.out (by omega)
   (first | cases eo9 | (injection eo9 with ea_ en_ ec_; (first | subst ea_ | (injection ea_ with ea_; subst ea_)); subst ec_; clear en_))
   have GB9 := Aside0.mk gb9
   have GG9 := Aside0.mk HG9
   clear gb9 gl9 HG9
   obtain ⟨hx9_0, hf9_0⟩ := Kd.R_celln 0 HO_3.out (x4_1 : Int) p9 q9
   replace p9 := eq_true p9
   replace q9 := eq_true q9
   have HP10 := Kd.R_putg HO_3.out (x4_1 : Int) (rd l0 x4_1)
   go_wp2_with (first | ((with_reducible refine gate_store (t := 3) (p := 20) rfl ?_); refine store_event (t := 3) (p := 20) (v := ?vo_w11) (w1 := (wr.setCell ⟨go9, (x4_1 : Int).toNat, none⟩ (.int .i64 (rd l0 x4_1)))) ?hg ?ho ?hn ?hr ?_; (case ho => rfl); (case hg => rfl); (case hn => rfl); (case hr => first | (go_simp; done) | (go_simp; rfl)); intro w11 hw; have hg : wr.grownBy w11 (some go9) := (by rw [hw]; exact HP10.2); have hp_ : Kd.R (Kd.int .i64) 3 w11 w.heap.size (fun _ => True) (.slice (some ⟨go9, 0, none⟩) x3_1.length co9) y246 := (by rw [hw, Ny246.out]; exact HP10.1); clear HP10; replace HO_3 := Aside0.mk (hp_); replace HB := Aside0.mk ((by rw [hw]; exact below_set (HB.out) GB9.out : Below w.heap.size w w11)); clear hg hw hp_))
   go_roundg k1
   case measure => have := HK1.out; omega
   case rel => exact ⟨(y246), (wrap64 (x4_1 + 1)), rsd, H', ⟨by have := HK1.out; omega⟩, ⟨kr HO_3.out⟩, ⟨tb HB⟩⟩
def laws_toWord.f (a0_0 : Int) (a0_1 : Int) (a0_2 : Int) : Option (Int × Int × Int) := some (a0_0, a0_1, a0_2)
set_option maxHeartbeats 8000000 in
set_option maxRecDepth 100000 in
theorem laws_toWord.calls (a0_0 : Int) (a0_1 : Int) (a0_2 : Int) (r1 : Int) (r2 : Int) (r3 : Int) (w : World) (h : laws_toWord.f a0_0 a0_1 a0_2 = some (r1, r2, r3)) :
  Calls Tryz.prog 174 #[.agg #[.int .i64 a0_0, .int .i64 a0_1, .int .i64 a0_2]] w fun e w' => e = .returned (.agg #[.int .i64 r1, .int .i64 r2, .int .i64 r3]) ∧ Below w.heap.size w w' := by
 have hu207 := Tryz.underlying207
 have hu39 := Tryz.underlying39
 have HB := Aside0.mk (Below.refl w.heap.size w)
 have H := h
 clear h
 unfold laws_toWord.f at H
 simp only [Option.some.injEq, Prod.mk.injEq] at H
 obtain ⟨rfl, rfl, rfl⟩ := H
 go_enter Tryz.func174, Tryz.ntmps174
 go_wp2_with (first | ((with_reducible refine gq 1 rfl ?_); refine bx0 HB (N := 1) (t := 207) ?_; clear HB; intro gb231 w2 BK231 GE231 HB) | ((with_reducible refine gq 2 rfl ?_); refine bx1 HB BK231 (N := 2) (cs := #[.int .i64 0, .int .i64 0, .int .i64 0]) (t := 39) ?_; clear HB BK231; intro gb232 w3 BK232 GE232 HB NB231_232 NB232_231 BK231) | ((with_reducible refine gq 3 rfl ?_); refine bx2 HB BK231 BK232 (N := 3) (cs := #[.int .i64 0, .int .i64 0, .int .i64 0]) (t := 39) ?_; clear HB BK231 BK232; intro gb233 w4 BK233 GE233 HB NB231_233 NB233_231 BK231 NB232_233 NB233_232 BK232; have hnb5 := NB231_232.out; have hnc5 := NB232_231.out; have hnb6 := NB231_233.out; have hnc6 := NB233_231.out; have hz7 := cs3_ BK231; have hnb8 := NB233_232.out; have hnc8 := NB232_233.out; have hz9 := cs3_ BK233; have hz10 := cs3_ BK232))
 refine bodyPost_ret (results_cell_row rfl _ _ gb232 39 #[.int .i64 a0_0, .int .i64 a0_1, .int .i64 a0_2] (0, 0) _ rfl (bfp3 BK232) Tryz.underlying39 rfl (by kernel_rfl)) rfl ?_
 exact ⟨er, tb HB⟩
def laws_toWordS.l0 : Nat → List (S207) → List (S39) → Int → Option ((List (S39)))
 | 0, _, _, _ => none
 | k + 1, x0, x3, x4 => if x4 < (x0.length : Int) then (if 0 ≤ x4 then ((laws_toWord.f ((rd_T207 x0 x4).f0) ((rd_T207 x0 x4).f1) ((rd_T207 x0 x4).f2)).bind fun bt238 => (if x4 < (x3.length : Int) then (laws_toWordS.l0 k x0 (x3.set (x4 : Int).toNat (⟨bt238.1, bt238.2.1, bt238.2.2⟩ : S39)) (wrap64 (x4 + 1))) else (none))) else (none)) else (some x3)
def laws_toWordS.f (k : Nat) (l0 : List (S207)) : Option ((List (S39))) := if 0 ≤ (l0.length : Int) then (if ((l0.length : Int) : Int).toNat ≤ 11728124029610 then (laws_toWordS.l0 k l0 (List.replicate ((l0.length : Int) : Int).toNat z39) 0) else (none)) else (none)
set_option maxHeartbeats 8000000 in
set_option maxRecDepth 100000 in
theorem laws_toWordS.calls (k : Nat) (A0 : Option Addr) (c0 : Nat) (l0 : List (S207)) (r : List (S39)) (w : World) (hr0 : Kd.C k207 w A0 l0.length l0) (hc0 : l0.length ≤ c0) (h : laws_toWordS.f k l0 = some r) :
  Calls Tryz.prog 144 #[.slice A0 l0.length c0] w fun e w' => ∃ v0_ : Value, e = .returned (v0_) ∧ Kd.R k39 39 w' w.heap.size (fun _ => True) v0_ r ∧ Below w.heap.size w w' := by
 have hu207 := Tryz.underlying207
 have hu39 := Tryz.underlying39
 have HR0 := Aside0.mk hr0
 have HC0 := Aside0.mk hc0
 clear hr0 hc0
 have HB := Aside0.mk (Below.refl w.heap.size w)
 have H := h
 clear h
 unfold laws_toWordS.f at H
 obtain ⟨c2b0, c2b1, H⟩ := itb H
 obtain ⟨c3b0, c3b1, H⟩ := itb H
 obtain ⟨y234, hy234⟩ : ∃ y_ : List (S39), y_ = (List.replicate ((l0.length : Int) : Int).toNat z39) := ⟨_, rfl⟩
 replace H : (laws_toWordS.l0 k l0 y234 0) = some r := by first | (rw [hy234]; with_reducible exact H) | (have H2_ := (Option.bind_some _ _).symm.trans H; rw [hy234]; with_reducible exact H2_) | (have H2_ := (Option.bind_some _ _).symm.trans H; with_reducible exact H2_) | with_reducible exact H | (rw [hy234]; exact H) | exact H
 have Ny234 := Aside0.mk hy234
 clear hy234
 have H' := Aside0.mk H
 clear H
 go_enter Tryz.func144, Tryz.ntmps144
 go_wp2_with (first | ((with_reducible refine gq 7 rfl ?_); refine Kd.R_make k39 _ 39 rfl (N := 7) rfl 24 _ _ rfl (l0.length : Int) rfl rfl Tryz.underlying24 (.agg #[(.int .i64 0), (.int .i64 0), (.int .i64 0)]) 24 info39 rfl (by decide) (by omega) z39 (ok := fun _ => True) (okp := fun _ => True) (k39_mkM _ _ _ z39 ) (fun _ hk => hk) trivial (od) (Nat.le_trans (Nat.mul_le_mul_right _ (od : (l0.length : Int).toNat ≤ 11728124029610)) (by omega)) (Below.refl _ _) (Nat.le_refl _) ?_; intro v235 w4 ho5 hb hg_ hnew_; clear hg_ hnew_; (first | rw [← Ny234.out] at ho5 | (simp only [Int.reduceToNat] at ho5; rw [← Ny234.out] at ho5)); have HO236 := Aside0.mk (Kd.R_lower ho5 (below_size (tb HB))); replace HB := bs HB hb; clear hb ho5))
 go_loopg [4] k (fun kq v4 w' => ∃ (x3_1 : List (S39)) (x4_1 : Int), v4 = .int .i64 x4_1 ∧ Aside0 (laws_toWordS.l0 kq l0 x3_1 x4_1 = some r) ∧ Aside0 (kq ≤ k) ∧ Aside0 (Kd.R k39 39 w' w.heap.size (fun _ => True) v235 x3_1) ∧ Aside0 (Below w.heap.size w w'))
 case atStart => exact ⟨(y234), (0), rsd, H', ⟨Nat.le_refl _⟩, ⟨kr HO236.out⟩, ⟨tb HB⟩⟩
 case round =>
  clear H'
  try clear c1
  try clear c2
  try clear c2b0
  try clear c2b1
  try clear p2
  try clear c3
  try clear c3b0
  try clear c3b1
  obtain ⟨x3_1, x4_1, rfl, HA, HK1, HO_3, HB⟩ := hrel
  cases gk with
  | zero => exact absurd HA.out (by simp [laws_toWordS.l0])
  | succ k1 =>
   have H := HA.out
   clear HA
   simp only [laws_toWordS.l0] at H
   revert H; refine icd (fun c6b0 H => ?_) fun c6b0 H => ?neg
   case neg =>
    obtain rfl := oin H
    go_wp2
    go_ret
    exact ⟨_, er, kr HO_3.out, tb HB⟩
   obtain ⟨c7b0, H⟩ := itd H
   obtain ⟨⟨t238, t239, t240⟩, A8, H⟩ := bn H
   try dsimp only at H
   obtain ⟨c9b0, H⟩ := itd H
   obtain ⟨y241, hy241⟩ : ∃ y_ : List (S39), y_ = (x3_1.set (x4_1 : Int).toNat (⟨t238, t239, t240⟩ : S39)) := ⟨_, rfl⟩
   replace H : (laws_toWordS.l0 k1 l0 y241 (wrap64 (x4_1 + 1))) = some r := by first | (rw [hy241]; with_reducible exact H) | (have H2_ := (Option.bind_some _ _).symm.trans H; rw [hy241]; with_reducible exact H2_) | (have H2_ := (Option.bind_some _ _).symm.trans H; with_reducible exact H2_) | with_reducible exact H | (rw [hy241]; exact H) | exact H
   have Ny241 := Aside0.mk hy241
   clear hy241
   have H' := Aside0.mk H
   clear H
   have p237 : 0 ≤ (x4_1 : Int) := od
   have q237 : x4_1 < (l0.length : Int) := od
   obtain ⟨ad237, e237, hx237⟩ := att207 HR0.out x4_1 p237 q237
   cases e237
   replace hx237 := ox3 HB hx237
   replace p237 := eq_true p237
   replace q237 := eq_true q237
   go_wp2_with (first | ((with_reducible refine gf 174 rfl ?_); refine gL 20 Tryz.func174 #[.agg #[.int .i64 ((rd_T207 l0 x4_1).f0), .int .i64 ((rd_T207 l0 x4_1).f1), .int .i64 ((rd_T207 l0 x4_1).f2)]] ?_; (with_reducible refine (laws_toWord.calls ((rd_T207 l0 x4_1).f0) ((rd_T207 l0 x4_1).f1) ((rd_T207 l0 x4_1).f2) t238 t239 t240 _ A8.out).mono ?_); rintro e w11 ⟨rfl, hb⟩; refine ⟨_, rfl, ?_⟩; replace HO_3 := rb HO_3 hb; replace HB := bs HB hb; (try clear hb); have p10 : 0 ≤ (x4_1 : Int) := od; have q10 : (x4_1 : Int) < ((x3_1.length : Int) : Int) := od; obtain ⟨go10, co10, eo10, gb10, gl10, cl10, HG10⟩ := Kd.R_form HO_3.out (by omega); (first | cases eo10 | (injection eo10 with ea_ en_ ec_; (first | subst ea_ | (injection ea_ with ea_; subst ea_)); subst ec_; clear en_)); have GB10 := Aside0.mk gb10; have GG10 := Aside0.mk HG10; clear gb10 gl10 HG10; obtain ⟨ce10, hcl10, hM10, hcc10, hfr10⟩ := Kd.R_elem HO_3.out z39 (x4_1 : Int) p10 q10; obtain rfl := k39_openM hM10; have hx10_0 : w11.cell? ⟨go10, (x4_1 : Int).toNat * 3, none⟩ = some (.int .i64 ((rd_T39 x3_1 x4_1).f0)) := hcc10 0 _ rfl; have hx10_1 : w11.cell? ⟨go10, (x4_1 : Int).toNat * 3 + 1, none⟩ = some (.int .i64 ((rd_T39 x3_1 x4_1).f1)) := hcc10 1 _ rfl; have hx10_2 : w11.cell? ⟨go10, (x4_1 : Int).toNat * 3 + 2, none⟩ = some (.int .i64 ((rd_T39 x3_1 x4_1).f2)) := hcc10 2 _ rfl; have hf10_0 : w11.frozen? ⟨go10, (x4_1 : Int).toNat * 3, none⟩ = false := hfr10 0; have hf10_1 : w11.frozen? ⟨go10, (x4_1 : Int).toNat * 3 + 1, none⟩ = false := hfr10 1; have hf10_2 : w11.frozen? ⟨go10, (x4_1 : Int).toNat * 3 + 2, none⟩ = false := hfr10 2; clear hcl10 hcc10 hfr10 hM10; replace p10 := eq_true p10; replace q10 := eq_true q10; have HX12 := Aside0.mk (show Kd.R k39 39 w11 w.heap.size (fun _ => True) (.slice (some ⟨go10, 0, none⟩) x3_1.length co10) x3_1 from (kr HO_3.out)); obtain ⟨ce12, hcl12, hM12, hcc12, hfr12⟩ := Kd.R_elem HX12.out z39 (x4_1 : Int) (od) (by have h_ : (x4_1 : Int) < ((x3_1.length : Int) : Int) := od; first | exact h_ | (have e_ := (Kd.R_reads' HO_3.out).1; omega) | simpa using h_); obtain rfl := k39_openM hM12; have HP12 := Kd.R_seg HX12.out (x4_1 : Int) (od) (by have h_ : (x4_1 : Int) < ((x3_1.length : Int) : Int) := od; first | exact h_ | (have e_ := (Kd.R_reads' HO_3.out).1; omega) | simpa using h_) (seg := [.int .i64 t238, .int .i64 t239, .int .i64 t240]) (j := 0) hcl12 hcc12 (show 3 ≤ 3 from by decide) (x' := (⟨t238, t239, t240⟩ : S39)) (k39_mkM _ _ _ (⟨t238, t239, t240⟩ : S39) ) (fun _ hk => hk); have hx12_0 := hcc12 0 _ rfl; (try simp only [show (k39).sz = 3 from rfl, Nat.mul_one, Nat.add_zero] at hx12_0); have hf12_0 := hfr12 0; (try simp only [show (k39).sz = 3 from rfl, Nat.mul_one, Nat.add_zero] at hf12_0); have hx12_1 := hcc12 1 _ rfl; (try simp only [show (k39).sz = 3 from rfl, Nat.mul_one, Nat.add_zero] at hx12_1); have hf12_1 := hfr12 1; (try simp only [show (k39).sz = 3 from rfl, Nat.mul_one, Nat.add_zero] at hf12_1); have hx12_2 := hcc12 2 _ rfl; (try simp only [show (k39).sz = 3 from rfl, Nat.mul_one, Nat.add_zero] at hx12_2); have hf12_2 := hfr12 2; (try simp only [show (k39).sz = 3 from rfl, Nat.mul_one, Nat.add_zero] at hf12_2); clear hcl12 hcc12 hfr12 hM12) | ((with_reducible refine gate_store (t := 39) (p := 21) rfl ?_); refine store_event (t := 39) (p := 21) (v := ?vo_w13) (w1 := (((w11.setCell ⟨go10, (x4_1 : Int).toNat * 3, none⟩ (.int .i64 t238)).setCell ⟨go10, (x4_1 : Int).toNat * 3 + 1, none⟩ (.int .i64 t239)).setCell ⟨go10, (x4_1 : Int).toNat * 3 + 2, none⟩ (.int .i64 t240))) ?hg ?ho ?hn ?hr ?_; (case ho => rfl); (case hg => rfl); (case hn => rfl); (case hr => first | (go_simp; done) | (go_simp; rfl)); intro w13 hw; have hg : w11.grownBy w13 (some go10) := (by rw [hw]; exact HP12.2); have hp_ : Kd.R k39 39 w13 w.heap.size (fun _ => True) (.slice (some ⟨go10, 0, none⟩) x3_1.length co10) y241 := (by rw [hw, Ny241.out]; exact HP12.1); clear HP12; replace HO_3 := Aside0.mk (hp_); replace HB := Aside0.mk ((by rw [hw]; exact below_set (below_set (below_set (HB.out) GB10.out) GB10.out) GB10.out : Below w.heap.size w w13)); clear hg hw hp_))
   go_roundg k1
   case measure => have := HK1.out; omega
   case rel => exact ⟨(y241), (wrap64 (x4_1 + 1)), rsd, H', ⟨by have := HK1.out; omega⟩, ⟨kr HO_3.out⟩, ⟨tb HB⟩⟩
def laws_toRes.f (k : Nat) (a0_0 : Int) (l0_1 : List Int) : Option (Int × List Int) := (laws_toIntS.f k l0_1).bind fun t250 => (some (a0_0, t250))
set_option maxHeartbeats 8000000 in
set_option maxRecDepth 100000 in
theorem laws_toRes.calls (k : Nat) (a0_0 : Int) (A0_1 : Option Addr) (c0_1 : Nat) (l0_1 : List Int) (r1 : Int) (r2 : List Int) (w : World) (hr0_1 : Kd.C (Kd.int .i64) w A0_1 l0_1.length l0_1) (hc0_1 : l0_1.length ≤ c0_1) (h : laws_toRes.f k a0_0 l0_1 = some (r1, r2)) :
  Calls Tryz.prog 180 #[.agg #[.int .i64 a0_0, .slice A0_1 l0_1.length c0_1]] w fun e w' => ∃ v1_ : Value, e = .returned (.agg #[.int .i64 r1, v1_]) ∧ Kd.R (Kd.int .i64) 3 w' w.heap.size (fun _ => True) v1_ r2 ∧ Below w.heap.size w w' := by
 have hu174 := Tryz.underlying174
 have hu31 := Tryz.underlying31
 have HR0_1 := Aside0.mk hr0_1
 have HC0_1 := Aside0.mk hc0_1
 clear hr0_1 hc0_1
 have HB := Aside0.mk (Below.refl w.heap.size w)
 have H := h
 clear h
 unfold laws_toRes.f at H
 obtain ⟨t250, A2, H⟩ := bn H
 try dsimp only at H
 simp only [Option.some.injEq, Prod.mk.injEq] at H
 obtain ⟨rfl, rfl⟩ := H
 go_enter Tryz.func180, Tryz.ntmps180
 go_wp2_with (first | ((with_reducible refine gq 1 rfl ?_); refine bx0 HB (N := 1) (t := 174) ?_; clear HB; intro gb247 w3 BK247 GE247 HB) | ((with_reducible refine gq 2 rfl ?_); refine bx1 HB BK247 (N := 2) (cs := #[.int .i64 0, .slice none 0 0]) (t := 31) ?_; clear HB BK247; intro gb248 w4 BK248 GE248 HB NB247_248 NB248_247 BK247) | ((with_reducible refine gq 3 rfl ?_); refine bx2 HB BK247 BK248 (N := 3) (cs := #[.int .i64 0, .slice none 0 0]) (t := 31) ?_; clear HB BK247 BK248; intro gb249 w5 BK249 GE249 HB NB247_249 NB249_247 BK247 NB248_249 NB249_248 BK248; have hnb6 := NB247_248.out; have hnc6 := NB248_247.out; have hnb7 := NB247_249.out; have hnc7 := NB249_247.out; have hz8 := cs2_ BK247; have hnb9 := NB249_248.out; have hnc9 := NB248_249.out; have hz10 := cs2_ BK249) | ((with_reducible refine gf 91 rfl ?_); refine gL 9 Tryz.func91 #[.slice A0_1 l0_1.length c0_1] ?_; (with_reducible refine (laws_toIntS.calls k _ _ l0_1 t250 _ ?side1 HC0_1.out A2.out).mono ?_); (case side1 => exact Kd.C_below HR0_1.out (tb HB)); rintro e w11 ⟨v251, rfl, ho0, hb⟩; refine ⟨_, rfl, ?_⟩; have HO252 := Aside0.mk (Kd.R_lower ho0 (below_size (tb HB))); replace BK247 := bbf BK247 hb; replace BK248 := bbf BK248 hb; replace BK249 := Aside0.mk (blk_below (g := gb249) (o := .cells #[.int .i64 a0_0, .slice none 0 0] 31 (0, 0)) (by (with_reducible repeat (first | refine blk_drewN ?_ _ | refine blk_drew ?_ | refine blk_alloc ?_ _)); refine blk_put (cs := #[.int .i64 0, .slice none 0 0]) ?_ 0 _ rfl; (with_reducible repeat (first | refine blk_drewN ?_ _ | refine blk_drew ?_ | refine blk_alloc ?_ _)); exact BK249.out) hb); replace HB := bs HB hb; (try clear hb); (try clear ho0); obtain ⟨Ao12, co12, eo12⟩ := Kd.R_slice HO252.out; subst eo12; have hz13 := cs2_ BK249; have hz14 := cs2_ BK248))
 refine bodyPost_ret (results_cell_row rfl _ _ gb248 31 #[.int .i64 a0_0, .slice Ao12 t250.length co12] (0, 0) _ rfl (bfp2 BK248) Tryz.underlying31 rfl (by kernel_rfl)) rfl ?_
 exact ⟨_, er, by (with_reducible repeat (first | apply Kd.R_alloc | apply Kd.R_drewN | apply Kd.R_drew)); exact Kd.R_mono (Kd.R_far (p := ⟨gb248, 1, none⟩) (Kd.R_far (p := ⟨gb248, 0, none⟩) (Kd.R_far (p := ⟨gb249, 1, none⟩) (Kd.R_types (Kd.R_types HO252.out BK249.out (by decide)) BK248.out (by decide)) (fun _ hk => hk.1.2) (.slice Ao12 t250.length co12)) (fun _ hk => hk.2) (.int .i64 a0_0)) (fun _ hk => hk.2) (.slice Ao12 t250.length co12)) (fun _ hk => trivial), tb HB⟩
def laws_toEntry.f (a0_0 : Int) (a0_1 : Int) (a0_2 : Int) : Option (Int × Int × Int) := some (a0_0, a0_1, a0_2)
set_option maxHeartbeats 8000000 in
set_option maxRecDepth 100000 in
theorem laws_toEntry.calls (a0_0 : Int) (a0_1 : Int) (a0_2 : Int) (r1 : Int) (r2 : Int) (r3 : Int) (w : World) (h : laws_toEntry.f a0_0 a0_1 a0_2 = some (r1, r2, r3)) :
  Calls Tryz.prog 201 #[.agg #[.int .i64 a0_0, .int .i64 a0_1, .int .i64 a0_2]] w fun e w' => e = .returned (.agg #[.int .i64 r1, .int .i64 r2, .int .i64 r3]) ∧ Below w.heap.size w w' := by
 have hu236 := Tryz.underlying236
 have hu37 := Tryz.underlying37
 have HB := Aside0.mk (Below.refl w.heap.size w)
 have H := h
 clear h
 unfold laws_toEntry.f at H
 simp only [Option.some.injEq, Prod.mk.injEq] at H
 obtain ⟨rfl, rfl, rfl⟩ := H
 go_enter Tryz.func201, Tryz.ntmps201
 go_wp2_with (first | ((with_reducible refine gq 1 rfl ?_); refine bx0 HB (N := 1) (t := 236) ?_; clear HB; intro gb253 w2 BK253 GE253 HB) | ((with_reducible refine gq 2 rfl ?_); refine bx1 HB BK253 (N := 2) (cs := #[.int .i64 0, .int .i64 0, .int .i64 0]) (t := 37) ?_; clear HB BK253; intro gb254 w3 BK254 GE254 HB NB253_254 NB254_253 BK253) | ((with_reducible refine gq 3 rfl ?_); refine bx2 HB BK253 BK254 (N := 3) (cs := #[.int .i64 0, .int .i64 0, .int .i64 0]) (t := 37) ?_; clear HB BK253 BK254; intro gb255 w4 BK255 GE255 HB NB253_255 NB255_253 BK253 NB254_255 NB255_254 BK254; have hnb5 := NB253_254.out; have hnc5 := NB254_253.out; have hnb6 := NB253_255.out; have hnc6 := NB255_253.out; have hz7 := cs3_ BK253; have hnb8 := NB255_254.out; have hnc8 := NB254_255.out; have hz9 := cs3_ BK255; have hz10 := cs3_ BK254))
 refine bodyPost_ret (results_cell_row rfl _ _ gb254 37 #[.int .i64 a0_0, .int .i64 a0_1, .int .i64 a0_2] (0, 0) _ rfl (bfp3 BK254) Tryz.underlying37 rfl (by kernel_rfl)) rfl ?_
 exact ⟨er, tb HB⟩
def laws_toEntryS.l0 : Nat → List (S236) → List (S37) → Int → Option ((List (S37)))
 | 0, _, _, _ => none
 | k + 1, x0, x3, x4 => if x4 < (x0.length : Int) then (if 0 ≤ x4 then ((laws_toEntry.f ((rd_T236 x0 x4).f0) ((rd_T236 x0 x4).f1) ((rd_T236 x0 x4).f2)).bind fun bt260 => (if x4 < (x3.length : Int) then (laws_toEntryS.l0 k x0 (x3.set (x4 : Int).toNat (⟨bt260.1, bt260.2.1, bt260.2.2⟩ : S37)) (wrap64 (x4 + 1))) else (none))) else (none)) else (some x3)
def laws_toEntryS.f (k : Nat) (l0 : List (S236)) : Option ((List (S37))) := if 0 ≤ (l0.length : Int) then (if ((l0.length : Int) : Int).toNat ≤ 11728124029610 then (laws_toEntryS.l0 k l0 (List.replicate ((l0.length : Int) : Int).toNat z37) 0) else (none)) else (none)
set_option maxHeartbeats 8000000 in
set_option maxRecDepth 100000 in
theorem laws_toEntryS.calls (k : Nat) (A0 : Option Addr) (c0 : Nat) (l0 : List (S236)) (r : List (S37)) (w : World) (hr0 : Kd.C k236 w A0 l0.length l0) (hc0 : l0.length ≤ c0) (h : laws_toEntryS.f k l0 = some r) :
  Calls Tryz.prog 191 #[.slice A0 l0.length c0] w fun e w' => ∃ v0_ : Value, e = .returned (v0_) ∧ Kd.R k37 37 w' w.heap.size (fun _ => True) v0_ r ∧ Below w.heap.size w w' := by
 have hu236 := Tryz.underlying236
 have hu37 := Tryz.underlying37
 have HR0 := Aside0.mk hr0
 have HC0 := Aside0.mk hc0
 clear hr0 hc0
 have HB := Aside0.mk (Below.refl w.heap.size w)
 have H := h
 clear h
 unfold laws_toEntryS.f at H
 obtain ⟨c2b0, c2b1, H⟩ := itb H
 obtain ⟨c3b0, c3b1, H⟩ := itb H
 obtain ⟨y256, hy256⟩ : ∃ y_ : List (S37), y_ = (List.replicate ((l0.length : Int) : Int).toNat z37) := ⟨_, rfl⟩
 replace H : (laws_toEntryS.l0 k l0 y256 0) = some r := by first | (rw [hy256]; with_reducible exact H) | (have H2_ := (Option.bind_some _ _).symm.trans H; rw [hy256]; with_reducible exact H2_) | (have H2_ := (Option.bind_some _ _).symm.trans H; with_reducible exact H2_) | with_reducible exact H | (rw [hy256]; exact H) | exact H
 have Ny256 := Aside0.mk hy256
 clear hy256
 have H' := Aside0.mk H
 clear H
 go_enter Tryz.func191, Tryz.ntmps191
 go_wp2_with (first | ((with_reducible refine gq 7 rfl ?_); refine Kd.R_make k37 _ 37 rfl (N := 7) rfl 28 _ _ rfl (l0.length : Int) rfl rfl Tryz.underlying28 (.agg #[(.int .i64 0), (.int .i64 0), (.int .i64 0)]) 24 info37 rfl (by decide) (by omega) z37 (ok := fun _ => True) (okp := fun _ => True) (k37_mkM _ _ _ z37 ) (fun _ hk => hk) trivial (od) (Nat.le_trans (Nat.mul_le_mul_right _ (od : (l0.length : Int).toNat ≤ 11728124029610)) (by omega)) (Below.refl _ _) (Nat.le_refl _) ?_; intro v257 w4 ho5 hb hg_ hnew_; clear hg_ hnew_; (first | rw [← Ny256.out] at ho5 | (simp only [Int.reduceToNat] at ho5; rw [← Ny256.out] at ho5)); have HO258 := Aside0.mk (Kd.R_lower ho5 (below_size (tb HB))); replace HB := bs HB hb; clear hb ho5))
 go_loopg [4] k (fun kq v4 w' => ∃ (x3_1 : List (S37)) (x4_1 : Int), v4 = .int .i64 x4_1 ∧ Aside0 (laws_toEntryS.l0 kq l0 x3_1 x4_1 = some r) ∧ Aside0 (kq ≤ k) ∧ Aside0 (Kd.R k37 37 w' w.heap.size (fun _ => True) v257 x3_1) ∧ Aside0 (Below w.heap.size w w'))
 case atStart => exact ⟨(y256), (0), rsd, H', ⟨Nat.le_refl _⟩, ⟨kr HO258.out⟩, ⟨tb HB⟩⟩
 case round =>
  clear H'
  try clear c1
  try clear c2
  try clear c2b0
  try clear c2b1
  try clear p2
  try clear c3
  try clear c3b0
  try clear c3b1
  obtain ⟨x3_1, x4_1, rfl, HA, HK1, HO_3, HB⟩ := hrel
  cases gk with
  | zero => exact absurd HA.out (by simp [laws_toEntryS.l0])
  | succ k1 =>
   have H := HA.out
   clear HA
   simp only [laws_toEntryS.l0] at H
   revert H; refine icd (fun c6b0 H => ?_) fun c6b0 H => ?neg
   case neg =>
    obtain rfl := oin H
    go_wp2
    go_ret
    exact ⟨_, er, kr HO_3.out, tb HB⟩
   obtain ⟨c7b0, H⟩ := itd H
   obtain ⟨⟨t260, t261, t262⟩, A8, H⟩ := bn H
   try dsimp only at H
   obtain ⟨c9b0, H⟩ := itd H
   obtain ⟨y263, hy263⟩ : ∃ y_ : List (S37), y_ = (x3_1.set (x4_1 : Int).toNat (⟨t260, t261, t262⟩ : S37)) := ⟨_, rfl⟩
   replace H : (laws_toEntryS.l0 k1 l0 y263 (wrap64 (x4_1 + 1))) = some r := by first | (rw [hy263]; with_reducible exact H) | (have H2_ := (Option.bind_some _ _).symm.trans H; rw [hy263]; with_reducible exact H2_) | (have H2_ := (Option.bind_some _ _).symm.trans H; with_reducible exact H2_) | with_reducible exact H | (rw [hy263]; exact H) | exact H
   have Ny263 := Aside0.mk hy263
   clear hy263
   have H' := Aside0.mk H
   clear H
   have p259 : 0 ≤ (x4_1 : Int) := od
   have q259 : x4_1 < (l0.length : Int) := od
   obtain ⟨ad259, e259, hx259⟩ := att236 HR0.out x4_1 p259 q259
   cases e259
   replace hx259 := ox3 HB hx259
   replace p259 := eq_true p259
   replace q259 := eq_true q259
   go_wp2_with (first | ((with_reducible refine gf 201 rfl ?_); refine gL 20 Tryz.func201 #[.agg #[.int .i64 ((rd_T236 l0 x4_1).f0), .int .i64 ((rd_T236 l0 x4_1).f1), .int .i64 ((rd_T236 l0 x4_1).f2)]] ?_; (with_reducible refine (laws_toEntry.calls ((rd_T236 l0 x4_1).f0) ((rd_T236 l0 x4_1).f1) ((rd_T236 l0 x4_1).f2) t260 t261 t262 _ A8.out).mono ?_); rintro e w11 ⟨rfl, hb⟩; refine ⟨_, rfl, ?_⟩; replace HO_3 := rb HO_3 hb; replace HB := bs HB hb; (try clear hb); have p10 : 0 ≤ (x4_1 : Int) := od; have q10 : (x4_1 : Int) < ((x3_1.length : Int) : Int) := od; obtain ⟨go10, co10, eo10, gb10, gl10, cl10, HG10⟩ := Kd.R_form HO_3.out (by omega); (first | cases eo10 | (injection eo10 with ea_ en_ ec_; (first | subst ea_ | (injection ea_ with ea_; subst ea_)); subst ec_; clear en_)); have GB10 := Aside0.mk gb10; have GG10 := Aside0.mk HG10; clear gb10 gl10 HG10; obtain ⟨ce10, hcl10, hM10, hcc10, hfr10⟩ := Kd.R_elem HO_3.out z37 (x4_1 : Int) p10 q10; obtain rfl := k37_openM hM10; have hx10_0 : w11.cell? ⟨go10, (x4_1 : Int).toNat * 3, none⟩ = some (.int .i64 ((rd_T37 x3_1 x4_1).f0)) := hcc10 0 _ rfl; have hx10_1 : w11.cell? ⟨go10, (x4_1 : Int).toNat * 3 + 1, none⟩ = some (.int .i64 ((rd_T37 x3_1 x4_1).f1)) := hcc10 1 _ rfl; have hx10_2 : w11.cell? ⟨go10, (x4_1 : Int).toNat * 3 + 2, none⟩ = some (.int .i64 ((rd_T37 x3_1 x4_1).f2)) := hcc10 2 _ rfl; have hf10_0 : w11.frozen? ⟨go10, (x4_1 : Int).toNat * 3, none⟩ = false := hfr10 0; have hf10_1 : w11.frozen? ⟨go10, (x4_1 : Int).toNat * 3 + 1, none⟩ = false := hfr10 1; have hf10_2 : w11.frozen? ⟨go10, (x4_1 : Int).toNat * 3 + 2, none⟩ = false := hfr10 2; clear hcl10 hcc10 hfr10 hM10; replace p10 := eq_true p10; replace q10 := eq_true q10; have HX12 := Aside0.mk (show Kd.R k37 37 w11 w.heap.size (fun _ => True) (.slice (some ⟨go10, 0, none⟩) x3_1.length co10) x3_1 from (kr HO_3.out)); obtain ⟨ce12, hcl12, hM12, hcc12, hfr12⟩ := Kd.R_elem HX12.out z37 (x4_1 : Int) (od) (by have h_ : (x4_1 : Int) < ((x3_1.length : Int) : Int) := od; first | exact h_ | (have e_ := (Kd.R_reads' HO_3.out).1; omega) | simpa using h_); obtain rfl := k37_openM hM12; have HP12 := Kd.R_seg HX12.out (x4_1 : Int) (od) (by have h_ : (x4_1 : Int) < ((x3_1.length : Int) : Int) := od; first | exact h_ | (have e_ := (Kd.R_reads' HO_3.out).1; omega) | simpa using h_) (seg := [.int .i64 t260, .int .i64 t261, .int .i64 t262]) (j := 0) hcl12 hcc12 (show 3 ≤ 3 from by decide) (x' := (⟨t260, t261, t262⟩ : S37)) (k37_mkM _ _ _ (⟨t260, t261, t262⟩ : S37) ) (fun _ hk => hk); have hx12_0 := hcc12 0 _ rfl; (try simp only [show (k37).sz = 3 from rfl, Nat.mul_one, Nat.add_zero] at hx12_0); have hf12_0 := hfr12 0; (try simp only [show (k37).sz = 3 from rfl, Nat.mul_one, Nat.add_zero] at hf12_0); have hx12_1 := hcc12 1 _ rfl; (try simp only [show (k37).sz = 3 from rfl, Nat.mul_one, Nat.add_zero] at hx12_1); have hf12_1 := hfr12 1; (try simp only [show (k37).sz = 3 from rfl, Nat.mul_one, Nat.add_zero] at hf12_1); have hx12_2 := hcc12 2 _ rfl; (try simp only [show (k37).sz = 3 from rfl, Nat.mul_one, Nat.add_zero] at hx12_2); have hf12_2 := hfr12 2; (try simp only [show (k37).sz = 3 from rfl, Nat.mul_one, Nat.add_zero] at hf12_2); clear hcl12 hcc12 hfr12 hM12) | ((with_reducible refine gate_store (t := 37) (p := 21) rfl ?_); refine store_event (t := 37) (p := 21) (v := ?vo_w13) (w1 := (((w11.setCell ⟨go10, (x4_1 : Int).toNat * 3, none⟩ (.int .i64 t260)).setCell ⟨go10, (x4_1 : Int).toNat * 3 + 1, none⟩ (.int .i64 t261)).setCell ⟨go10, (x4_1 : Int).toNat * 3 + 2, none⟩ (.int .i64 t262))) ?hg ?ho ?hn ?hr ?_; (case ho => rfl); (case hg => rfl); (case hn => rfl); (case hr => first | (go_simp; done) | (go_simp; rfl)); intro w13 hw; have hg : w11.grownBy w13 (some go10) := (by rw [hw]; exact HP12.2); have hp_ : Kd.R k37 37 w13 w.heap.size (fun _ => True) (.slice (some ⟨go10, 0, none⟩) x3_1.length co10) y263 := (by rw [hw, Ny263.out]; exact HP12.1); clear HP12; replace HO_3 := Aside0.mk (hp_); replace HB := Aside0.mk ((by rw [hw]; exact below_set (below_set (below_set (HB.out) GB10.out) GB10.out) GB10.out : Below w.heap.size w w13)); clear hg hw hp_))
   go_roundg k1
   case measure => have := HK1.out; omega
   case rel => exact ⟨(y263), (wrap64 (x4_1 + 1)), rsd, H', ⟨by have := HK1.out; omega⟩, ⟨kr HO_3.out⟩, ⟨tb HB⟩⟩
def laws_toDesc.f (k : Nat) (a0_0 : Int) (a0_1 : Int) (l0_2 : List (S236)) (a0_3 : Int) (l0_4 : List Int) : Option (Int × Int × (List (S37)) × Int × List Int) := (laws_toEntryS.f k l0_2).bind fun t267 => ((laws_toRes.f k a0_3 l0_4).bind fun bt270 => (some (a0_0, a0_1, t267, bt270.1, bt270.2)))
set_option maxHeartbeats 8000000 in
set_option maxRecDepth 100000 in
theorem laws_toDesc.calls (k : Nat) (a0_0 : Int) (a0_1 : Int) (A0_2 : Option Addr) (c0_2 : Nat) (l0_2 : List (S236)) (a0_3 : Int) (A0_4 : Option Addr) (c0_4 : Nat) (l0_4 : List Int) (r1 : Int) (r2 : Int) (r3 : List (S37)) (r4 : Int) (r5 : List Int) (w : World) (hr0_2 : Kd.C k236 w A0_2 l0_2.length l0_2) (hc0_2 : l0_2.length ≤ c0_2) (hr0_4 : Kd.C (Kd.int .i64) w A0_4 l0_4.length l0_4) (hc0_4 : l0_4.length ≤ c0_4) (h : laws_toDesc.f k a0_0 a0_1 l0_2 a0_3 l0_4 = some (r1, r2, r3, r4, r5)) :
  Calls Tryz.prog 175 #[.agg #[.int .i64 a0_0, .int .i64 a0_1, .slice A0_2 l0_2.length c0_2, .int .i64 a0_3, .slice A0_4 l0_4.length c0_4]] w fun e w' => ∃ v2_ v4_ : Value, e = .returned (.agg #[.int .i64 r1, .int .i64 r2, v2_, .int .i64 r4, v4_]) ∧ Kd.R k37 37 w' w.heap.size (fun _ => True) v2_ r3 ∧ Kd.R (Kd.int .i64) 3 w' w.heap.size (fun _ => True) v4_ r5 ∧ Below w.heap.size w w' := by
 have hu201 := Tryz.underlying201
 have hu52 := Tryz.underlying52
 have hu174 := Tryz.underlying174
 have hu31 := Tryz.underlying31
 have HR0_2 := Aside0.mk hr0_2
 have HC0_2 := Aside0.mk hc0_2
 clear hr0_2 hc0_2
 have HR0_4 := Aside0.mk hr0_4
 have HC0_4 := Aside0.mk hc0_4
 clear hr0_4 hc0_4
 have HB := Aside0.mk (Below.refl w.heap.size w)
 have H := h
 clear h
 unfold laws_toDesc.f at H
 obtain ⟨t267, A2, H⟩ := bn H
 try dsimp only at H
 obtain ⟨⟨t270, t271⟩, A3, H⟩ := bn H
 try dsimp only at H
 simp only [Option.some.injEq, Prod.mk.injEq] at H
 obtain ⟨rfl, rfl, rfl, rfl, rfl⟩ := H
 go_enter Tryz.func175, Tryz.ntmps175
 go_wp2_with (first | ((with_reducible refine gq 1 rfl ?_); refine bx0 HB (N := 1) (t := 201) ?_; clear HB; intro gb264 w4 BK264 GE264 HB) | ((with_reducible refine gq 2 rfl ?_); refine bx1 HB BK264 (N := 2) (cs := #[.int .i64 0, .int .i64 0, .slice none 0 0, .int .i64 0, .slice none 0 0]) (t := 52) ?_; clear HB BK264; intro gb265 w5 BK265 GE265 HB NB264_265 NB265_264 BK264) | ((with_reducible refine gq 3 rfl ?_); refine bx2 HB BK264 BK265 (N := 3) (cs := #[.int .i64 0, .int .i64 0, .slice none 0 0, .int .i64 0, .slice none 0 0]) (t := 52) ?_; clear HB BK264 BK265; intro gb266 w6 BK266 GE266 HB NB264_266 NB266_264 BK264 NB265_266 NB266_265 BK265; have hnb7 := NB264_265.out; have hnc7 := NB265_264.out; have hnb8 := NB264_266.out; have hnc8 := NB266_264.out; have hz9 := cs5_ BK264; have hnb10 := NB266_265.out; have hnc10 := NB265_266.out; have hz11 := cs5_ BK266) | ((with_reducible refine gf 191 rfl ?_); refine gL 12 Tryz.func191 #[.slice A0_2 l0_2.length c0_2] ?_; (with_reducible refine (laws_toEntryS.calls k _ _ l0_2 t267 _ ?side1 HC0_2.out A2.out).mono ?_); (case side1 => exact Kd.C_below HR0_2.out (tb HB)); rintro e w12 ⟨v268, rfl, ho0, hb⟩; refine ⟨_, rfl, ?_⟩; have HO269 := Aside0.mk (Kd.R_lower ho0 (below_size (tb HB))); replace BK264 := bbf BK264 hb; replace BK265 := bbf BK265 hb; replace BK266 := Aside0.mk (blk_below (g := gb266) (o := .cells #[.int .i64 a0_0, .int .i64 a0_1, .slice none 0 0, .int .i64 0, .slice none 0 0] 52 (0, 0)) (by (with_reducible repeat (first | refine blk_drewN ?_ _ | refine blk_drew ?_ | refine blk_alloc ?_ _)); refine blk_put (cs := #[.int .i64 a0_0, .int .i64 0, .slice none 0 0, .int .i64 0, .slice none 0 0]) ?_ 1 _ rfl; (with_reducible repeat (first | refine blk_drewN ?_ _ | refine blk_drew ?_ | refine blk_alloc ?_ _)); refine blk_put (cs := #[.int .i64 0, .int .i64 0, .slice none 0 0, .int .i64 0, .slice none 0 0]) ?_ 0 _ rfl; (with_reducible repeat (first | refine blk_drewN ?_ _ | refine blk_drew ?_ | refine blk_alloc ?_ _)); exact BK266.out) hb); replace HB := bs HB hb; (try clear hb); (try clear ho0); obtain ⟨Ao13, co13, eo13⟩ := Kd.R_slice HO269.out; subst eo13; have hz14 := cs5_ BK266; have hz15 := cs5_ BK264) | ((with_reducible refine gf 180 rfl ?_); refine gL 16 Tryz.func180 #[.agg #[.int .i64 a0_3, .slice A0_4 l0_4.length c0_4]] ?_; (with_reducible refine (laws_toRes.calls k a0_3 _ _ l0_4 t270 t271 _ ?side1 HC0_4.out A3.out).mono ?_); (case side1 => exact Kd.C_below HR0_4.out (tb HB)); rintro e w16 ⟨v272, rfl, ho0, hb⟩; refine ⟨_, rfl, ?_⟩; replace HO269 := Aside0.mk (Kd.R_below (kr ((Kd.R_mono (Kd.R_far (p := ⟨gb266, 2, none⟩) (Kd.R_types HO269.out BK266.out (by decide)) (fun _ hk => hk.2) (.slice Ao13 t267.length co13)) (fun _ h_ => h_.1)))) hb); have HO273 := Aside0.mk (Kd.R_lower ho0 (below_size (tb HB))); replace BK264 := bbf BK264 hb; replace BK265 := bbf BK265 hb; replace BK266 := Aside0.mk (blk_below (g := gb266) (o := .cells #[.int .i64 a0_0, .int .i64 a0_1, .slice Ao13 t267.length co13, .int .i64 0, .slice none 0 0] 52 (0, 0)) (by (with_reducible repeat (first | refine blk_drewN ?_ _ | refine blk_drew ?_ | refine blk_alloc ?_ _)); refine blk_put (cs := #[.int .i64 a0_0, .int .i64 a0_1, .slice none 0 0, .int .i64 0, .slice none 0 0]) ?_ 2 _ rfl; (with_reducible repeat (first | refine blk_drewN ?_ _ | refine blk_drew ?_ | refine blk_alloc ?_ _)); exact BK266.out) hb); replace HB := bs HB hb; (try clear hb); (try clear hk); (try clear ho0); have hz17 := cs5_ BK266; obtain ⟨Ao18, co18, eo18⟩ := Kd.R_slice HO273.out; subst eo18; have hz19 := cs5_ BK265))
 refine bodyPost_ret (results_cell_row rfl _ _ gb265 52 #[.int .i64 a0_0, .int .i64 a0_1, .slice Ao13 t267.length co13, .int .i64 t270, .slice Ao18 t271.length co18] (0, 0) _ rfl (bfp5 BK265) Tryz.underlying52 rfl (by kernel_rfl)) rfl ?_
 exact ⟨_, _, er, by (with_reducible repeat (first | apply Kd.R_alloc | apply Kd.R_drewN | apply Kd.R_drew)); exact Kd.R_mono (Kd.R_far (p := ⟨gb265, 4, none⟩) (Kd.R_far (p := ⟨gb265, 3, none⟩) (Kd.R_far (p := ⟨gb265, 2, none⟩) (Kd.R_far (p := ⟨gb265, 1, none⟩) (Kd.R_far (p := ⟨gb265, 0, none⟩) (Kd.R_far (p := ⟨gb266, 4, none⟩) (Kd.R_far (p := ⟨gb266, 3, none⟩) (Kd.R_types (Kd.R_types HO269.out BK266.out (by decide)) BK265.out (by decide)) (fun _ hk => hk.1.2) (.int .i64 t270)) (fun _ hk => hk.1.2) (.slice Ao18 t271.length co18)) (fun _ hk => hk.2) (.int .i64 a0_0)) (fun _ hk => hk.2) (.int .i64 a0_1)) (fun _ hk => hk.2) (.slice Ao13 t267.length co13)) (fun _ hk => hk.2) (.int .i64 t270)) (fun _ hk => hk.2) (.slice Ao18 t271.length co18)) (fun _ hk => trivial), by (with_reducible repeat (first | apply Kd.R_alloc | apply Kd.R_drewN | apply Kd.R_drew)); exact Kd.R_mono (Kd.R_far (p := ⟨gb265, 4, none⟩) (Kd.R_far (p := ⟨gb265, 3, none⟩) (Kd.R_far (p := ⟨gb265, 2, none⟩) (Kd.R_far (p := ⟨gb265, 1, none⟩) (Kd.R_far (p := ⟨gb265, 0, none⟩) (Kd.R_far (p := ⟨gb266, 4, none⟩) (Kd.R_far (p := ⟨gb266, 3, none⟩) (Kd.R_types (Kd.R_types HO273.out BK266.out (by decide)) BK265.out (by decide)) (fun _ hk => hk.1.2) (.int .i64 t270)) (fun _ hk => hk.1.2) (.slice Ao18 t271.length co18)) (fun _ hk => hk.2) (.int .i64 a0_0)) (fun _ hk => hk.2) (.int .i64 a0_1)) (fun _ hk => hk.2) (.slice Ao13 t267.length co13)) (fun _ hk => hk.2) (.int .i64 t270)) (fun _ hk => hk.2) (.slice Ao18 t271.length co18)) (fun _ hk => trivial), tb HB⟩
def laws_toDescS.l0 : Nat → List (S201) → List (S52) → Int → Option ((List (S52)))
 | 0, _, _, _ => none
 | k + 1, x0, x3, x4 => if x4 < (x0.length : Int) then (if 0 ≤ x4 then ((laws_toDesc.f k ((rd_T201 x0 x4).f0) ((rd_T201 x0 x4).f1) ((rd_T201 x0 x4).f2) ((rd_T201 x0 x4).f3.f0) ((rd_T201 x0 x4).f3.f1)).bind fun bt278 => (if x4 < (x3.length : Int) then (laws_toDescS.l0 k x0 (x3.set (x4 : Int).toNat (⟨bt278.1, bt278.2.1, bt278.2.2.1, (⟨bt278.2.2.2.1, bt278.2.2.2.2⟩ : S31)⟩ : S52)) (wrap64 (x4 + 1))) else (none))) else (none)) else (some x3)
def laws_toDescS.f (k : Nat) (l0 : List (S201)) : Option ((List (S52))) := if 0 ≤ (l0.length : Int) then (if ((l0.length : Int) : Int).toNat ≤ 3909374676536 then (laws_toDescS.l0 k l0 (List.replicate ((l0.length : Int) : Int).toNat z52) 0) else (none)) else (none)
set_option maxHeartbeats 8000000 in
set_option maxRecDepth 100000 in
theorem laws_toDescS.calls (k : Nat) (A0 : Option Addr) (c0 : Nat) (l0 : List (S201)) (r : List (S52)) (w : World) (hr0 : Kd.C k201 w A0 l0.length l0) (hc0 : l0.length ≤ c0) (h : laws_toDescS.f k l0 = some r) :
  Calls Tryz.prog 145 #[.slice A0 l0.length c0] w fun e w' => ∃ v0_ : Value, e = .returned (v0_) ∧ Kd.S k52 52 w' w.heap.size (fun _ => True) v0_ r ∧ Below w.heap.size w w' := by
 have hu201 := Tryz.underlying201
 have hu52 := Tryz.underlying52
 have HR0 := Aside0.mk hr0
 have HC0 := Aside0.mk hc0
 clear hr0 hc0
 have HB := Aside0.mk (Below.refl w.heap.size w)
 have H := h
 clear h
 unfold laws_toDescS.f at H
 obtain ⟨c2b0, c2b1, H⟩ := itb H
 obtain ⟨c3b0, c3b1, H⟩ := itb H
 obtain ⟨y274, hy274⟩ : ∃ y_ : List (S52), y_ = (List.replicate ((l0.length : Int) : Int).toNat z52) := ⟨_, rfl⟩
 replace H : (laws_toDescS.l0 k l0 y274 0) = some r := by first | (rw [hy274]; with_reducible exact H) | (have H2_ := (Option.bind_some _ _).symm.trans H; rw [hy274]; with_reducible exact H2_) | (have H2_ := (Option.bind_some _ _).symm.trans H; with_reducible exact H2_) | with_reducible exact H | (rw [hy274]; exact H) | exact H
 have Ny274 := Aside0.mk hy274
 clear hy274
 have H' := Aside0.mk H
 clear H
 go_enter Tryz.func145, Tryz.ntmps145
 go_wp2_with (first | ((with_reducible refine gq 7 rfl ?_); refine Kd.S_make k52 _ 52 rfl (N := 7) rfl 25 _ _ rfl (l0.length : Int) rfl rfl Tryz.underlying25 (.agg #[(.int .i64 0), (.int .i64 0), (.slice none 0 0), (.int .i64 0), (.slice none 0 0)]) 72 info52 rfl (by decide) (by omega) z52 (ok := fun _ => True) (okp := fun _ => True) (k52_mkM _ _ _ z52 (Kd.R_nil _ _ _ _ _) (Kd.R_nil _ _ _ _ _)) (fun _ hk => hk) trivial (od) (Nat.le_trans (Nat.mul_le_mul_right _ (od : (l0.length : Int).toNat ≤ 3909374676536)) (by omega)) (Below.refl _ _) (Nat.le_refl _) ?_; intro v275 w4 ho5 hb hg_ hnew_; clear hg_ hnew_; (first | rw [← Ny274.out] at ho5 | (simp only [Int.reduceToNat] at ho5; rw [← Ny274.out] at ho5)); have HO276 := Aside0.mk (Kd.S_lower ho5 (below_size (tb HB))); replace HB := bs HB hb; clear hb ho5))
 go_loopg [4] k (fun kq v4 w' => ∃ (x3_1 : List (S52)) (x4_1 : Int), v4 = .int .i64 x4_1 ∧ Aside0 (laws_toDescS.l0 kq l0 x3_1 x4_1 = some r) ∧ Aside0 (kq ≤ k) ∧ Aside0 (Kd.S k52 52 w' w.heap.size (fun _ => True) v275 x3_1) ∧ Aside0 (Below w.heap.size w w'))
 case atStart => exact ⟨(y274), (0), rsd, H', ⟨Nat.le_refl _⟩, ⟨by (with_reducible repeat (first | apply Kd.S_alloc | apply Kd.S_drewN | apply Kd.S_drew)); exact HO276.out⟩, ⟨tb HB⟩⟩
 case round =>
  clear H'
  try clear c1
  try clear c2
  try clear c2b0
  try clear c2b1
  try clear p2
  try clear c3
  try clear c3b0
  try clear c3b1
  obtain ⟨x3_1, x4_1, rfl, HA, HK1, HO_3, HB⟩ := hrel
  cases gk with
  | zero => exact absurd HA.out (by simp [laws_toDescS.l0])
  | succ k1 =>
   have H := HA.out
   clear HA
   simp only [laws_toDescS.l0] at H
   revert H; refine icd (fun c6b0 H => ?_) fun c6b0 H => ?neg
   case neg =>
    obtain rfl := oin H
    go_wp2
    go_ret
    exact ⟨_, er, by (with_reducible repeat (first | apply Kd.S_alloc | apply Kd.S_drewN | apply Kd.S_drew)); exact HO_3.out, tb HB⟩
   obtain ⟨c7b0, H⟩ := itd H
   obtain ⟨⟨t278, t279, t280, t283, t284⟩, A8, H⟩ := bn H
   try dsimp only at H
   obtain ⟨c9b0, H⟩ := itd H
   obtain ⟨y287, hy287⟩ : ∃ y_ : List (S52), y_ = (x3_1.set (x4_1 : Int).toNat (⟨t278, t279, t280, (⟨t283, t284⟩ : S31)⟩ : S52)) := ⟨_, rfl⟩
   replace H : (laws_toDescS.l0 k1 l0 y287 (wrap64 (x4_1 + 1))) = some r := by first | (rw [hy287]; with_reducible exact H) | (have H2_ := (Option.bind_some _ _).symm.trans H; rw [hy287]; with_reducible exact H2_) | (have H2_ := (Option.bind_some _ _).symm.trans H; with_reducible exact H2_) | with_reducible exact H | (rw [hy287]; exact H) | exact H
   have Ny287 := Aside0.mk hy287
   clear hy287
   have H' := Aside0.mk H
   clear H
   have p277 : 0 ≤ (x4_1 : Int) := od
   have q277 : x4_1 < (l0.length : Int) := od
   obtain ⟨ad277, A277_2, c277_2, A277_4, c277_4, e277, hx277, hl277_2, hi277_2, hl277_4, hi277_4⟩ := att201 HR0.out x4_1 p277 q277
   cases e277
   replace hx277 := ox5 HB hx277
   have HR277_2 := Aside0.mk hi277_2
   have HC277_2 := Aside0.mk hl277_2
   clear hi277_2 hl277_2
   have HR277_4 := Aside0.mk hi277_4
   have HC277_4 := Aside0.mk hl277_4
   clear hi277_4 hl277_4
   replace p277 := eq_true p277
   replace q277 := eq_true q277
   go_wp2_with (first | ((with_reducible refine gf 175 rfl ?_); refine gL 20 Tryz.func175 #[.agg #[.int .i64 ((rd_T201 l0 x4_1).f0), .int .i64 ((rd_T201 l0 x4_1).f1), .slice A277_2 ((rd_T201 l0 x4_1).f2).length c277_2, .int .i64 ((rd_T201 l0 x4_1).f3.f0), .slice A277_4 ((rd_T201 l0 x4_1).f3.f1).length c277_4]] ?_; (with_reducible refine (laws_toDesc.calls k1 ((rd_T201 l0 x4_1).f0) ((rd_T201 l0 x4_1).f1) _ _ ((rd_T201 l0 x4_1).f2) ((rd_T201 l0 x4_1).f3.f0) _ _ ((rd_T201 l0 x4_1).f3.f1) t278 t279 t280 t283 t284 _ (kc HR277_2 HB) HC277_2.out (kc HR277_4 HB) HC277_4.out A8.out).mono ?_); rintro e w11 ⟨v281, v285, rfl, ho0, ho1, hb⟩; refine ⟨_, rfl, ?_⟩; replace HO_3 := Aside0.mk (Kd.S_mono (Kd.S_told (Kd.S_told (Kd.S_old (by (with_reducible repeat (first | apply Kd.S_alloc | apply Kd.S_drewN | apply Kd.S_drew)); exact HO_3.out) hb) (Kd.R_base ho0)) (Kd.R_base ho1)) (fun _ h_ => h_.1)); have HO282 := Aside0.mk (Kd.R_lower ho0 (below_size (tb HB))); have HO286 := Aside0.mk (Kd.R_lower ho1 (below_size (tb HB))); replace HB := bs HB hb; (try clear hb); (try clear ho0); (try clear ho1); have p10 : 0 ≤ (x4_1 : Int) := od; have q10 : (x4_1 : Int) < ((x3_1.length : Int) : Int) := od; obtain ⟨go10, co10, eo10, gb10, gl10, cl10, HG10⟩ := Kd.S_form HO_3.out (by omega); (first | cases eo10 | (injection eo10 with ea_ en_ ec_; (first | subst ea_ | (injection ea_ with ea_; subst ea_)); subst ec_; clear en_)); have GB10 := Aside0.mk gb10; have GG10 := Aside0.mk HG10; clear gb10 gl10 HG10; obtain ⟨_, ce10, hcl10, hM10, hcc10, hfr10, _, _⟩ := Kd.S_elem HO_3.out z52 (x4_1 : Int) p10 q10; obtain ⟨ve10_2, ve10_4, rfl, ge10_2, ge10_4⟩ := k52_openM hM10; have hx10_0 : w11.cell? ⟨go10, (x4_1 : Int).toNat * 5, none⟩ = some (.int .i64 ((rd_T52 x3_1 x4_1).f0)) := hcc10 0 _ rfl; have hx10_1 : w11.cell? ⟨go10, (x4_1 : Int).toNat * 5 + 1, none⟩ = some (.int .i64 ((rd_T52 x3_1 x4_1).f1)) := hcc10 1 _ rfl; have hx10_2 : w11.cell? ⟨go10, (x4_1 : Int).toNat * 5 + 2, none⟩ = some (ve10_2) := hcc10 2 _ rfl; have hx10_3 : w11.cell? ⟨go10, (x4_1 : Int).toNat * 5 + 3, none⟩ = some (.int .i64 ((rd_T52 x3_1 x4_1).f3.f0)) := hcc10 3 _ rfl; have hx10_4 : w11.cell? ⟨go10, (x4_1 : Int).toNat * 5 + 4, none⟩ = some (ve10_4) := hcc10 4 _ rfl; have hf10_0 : w11.frozen? ⟨go10, (x4_1 : Int).toNat * 5, none⟩ = false := hfr10 0; have hf10_1 : w11.frozen? ⟨go10, (x4_1 : Int).toNat * 5 + 1, none⟩ = false := hfr10 1; have hf10_2 : w11.frozen? ⟨go10, (x4_1 : Int).toNat * 5 + 2, none⟩ = false := hfr10 2; have hf10_3 : w11.frozen? ⟨go10, (x4_1 : Int).toNat * 5 + 3, none⟩ = false := hfr10 3; have hf10_4 : w11.frozen? ⟨go10, (x4_1 : Int).toNat * 5 + 4, none⟩ = false := hfr10 4; clear hcl10 hcc10 hfr10 hM10; replace p10 := eq_true p10; replace q10 := eq_true q10; obtain ⟨Ao14, co14, eo14⟩ := Kd.R_slice HO282.out; subst eo14; obtain ⟨Ao15, co15, eo15⟩ := Kd.R_slice HO286.out; subst eo15; have n_ := Aside0.mk (Kd.S_mono (ok' := (fun k_ => some k_ ≠ (.slice Ao14 t280.length co14 : Value).ownBlock ∧ some k_ ≠ (.slice Ao15 t284.length co15 : Value).ownBlock)) HO_3.out (fun k_ hk => ⟨hk.1.2, hk.2⟩)); clear HO_3; have HO_3 := n_; clear n_; have HX12 := Aside0.mk (show Kd.S k52 52 w11 w.heap.size (fun k_ => ((fun _ => True)) k_ ∧ ¬ ((fun k_ => some k_ = (.slice Ao14 t280.length co14 : Value).ownBlock ∨ some k_ = (.slice Ao15 t284.length co15 : Value).ownBlock)) k_) (.slice (some ⟨go10, 0, none⟩) x3_1.length co10) x3_1 from (by (with_reducible repeat (first | apply Kd.S_alloc | apply Kd.S_drewN | apply Kd.S_drew)); exact Kd.S_mono HO_3.out (fun k_ hk => ⟨trivial, fun e_ => e_.elim (fun h_ => hk.1 h_) (fun h_ => hk.2 h_)⟩))); obtain ⟨oki12, ce12, hcl12, hM12, hcc12, hfr12, hoki12, hH12⟩ := Kd.S_elem HX12.out z52 (x4_1 : Int) (od) (by have h_ : (x4_1 : Int) < ((x3_1.length : Int) : Int) := od; first | exact h_ | (have e_ := (Kd.S_reads' HO_3.out).1; omega) | simpa using h_); obtain ⟨ve12_2, ve12_4, rfl, ge12_2, ge12_4⟩ := k52_openM hM12; have HP12 := Kd.S_seg hH12 (od) (by have h_ : (x4_1 : Int) < ((x3_1.length : Int) : Int) := od; first | exact h_ | (have e_ := (Kd.S_reads' HO_3.out).1; omega) | simpa using h_) (seg := [.int .i64 t278, .int .i64 t279, .slice Ao14 t280.length co14, .int .i64 t283, .slice Ao15 t284.length co15]) (j := 0) (show 5 ≤ 5 from by decide) (x' := (⟨t278, t279, t280, (⟨t283, t284⟩ : S31)⟩ : S52)) (k52_mkM _ _ _ (⟨t278, t279, t280, (⟨t283, t284⟩ : S31)⟩ : S52) (Kd.R_mono (Kd.R_tight rfl (Kd.R_mono (ok' := fun k_ => ((fun _ => True)) k_ ∧ k_ ≠ go10) (Kd.R_apart' (HO282.out) (Kd.S_typed HO_3.out) (by decide)) (fun k_ hk => ⟨trivial, fun e_ => (hk.2) (by rw [e_]; rfl)⟩))) (fun _ h_ => Or.inr (Or.inl h_))) (Kd.R_mono (Kd.R_tight rfl (Kd.R_mono (ok' := fun k_ => ((fun _ => True)) k_ ∧ k_ ≠ go10) (Kd.R_apart' (HO286.out) (Kd.S_typed HO_3.out) (by decide)) (fun k_ hk => ⟨trivial, fun e_ => (hk.2) (by rw [e_]; rfl)⟩))) (fun _ h_ => Or.inr (Or.inr (h_))))) (fun _ hk => hk) (fun k_ hk_ => hk_.elim (fun h_ => ((Kd.R_mono (ok' := fun k_ => ((fun _ => True)) k_ ∧ k_ ≠ go10) (Kd.R_apart' (HO282.out) (Kd.S_typed HO_3.out) (by decide)) (fun k_ hk => ⟨trivial, fun e_ => (hk.2) (by rw [e_]; rfl)⟩))).1 k_ h_.symm) (fun h_ => ((Kd.R_mono (ok' := fun k_ => ((fun _ => True)) k_ ∧ k_ ≠ go10) (Kd.R_apart' (HO286.out) (Kd.S_typed HO_3.out) (by decide)) (fun k_ hk => ⟨trivial, fun e_ => (hk.2) (by rw [e_]; rfl)⟩))).1 k_ h_.symm)); have hx12_0 := hcc12 0 _ rfl; (try simp only [show (k52).sz = 5 from rfl, Nat.mul_one, Nat.add_zero] at hx12_0); have hf12_0 := hfr12 0; (try simp only [show (k52).sz = 5 from rfl, Nat.mul_one, Nat.add_zero] at hf12_0); have hx12_1 := hcc12 1 _ rfl; (try simp only [show (k52).sz = 5 from rfl, Nat.mul_one, Nat.add_zero] at hx12_1); have hf12_1 := hfr12 1; (try simp only [show (k52).sz = 5 from rfl, Nat.mul_one, Nat.add_zero] at hf12_1); have hx12_2 := hcc12 2 _ rfl; (try simp only [show (k52).sz = 5 from rfl, Nat.mul_one, Nat.add_zero] at hx12_2); have hf12_2 := hfr12 2; (try simp only [show (k52).sz = 5 from rfl, Nat.mul_one, Nat.add_zero] at hf12_2); have hx12_3 := hcc12 3 _ rfl; (try simp only [show (k52).sz = 5 from rfl, Nat.mul_one, Nat.add_zero] at hx12_3); have hf12_3 := hfr12 3; (try simp only [show (k52).sz = 5 from rfl, Nat.mul_one, Nat.add_zero] at hf12_3); have hx12_4 := hcc12 4 _ rfl; (try simp only [show (k52).sz = 5 from rfl, Nat.mul_one, Nat.add_zero] at hx12_4); have hf12_4 := hfr12 4; (try simp only [show (k52).sz = 5 from rfl, Nat.mul_one, Nat.add_zero] at hf12_4); clear hcl12 hcc12 hfr12 hM12 hoki12 hH12) | ((with_reducible refine gate_store (t := 52) (p := 21) rfl ?_); refine store_event (t := 52) (p := 21) (v := ?vo_w13) (w1 := (((((w11.setCell ⟨go10, (x4_1 : Int).toNat * 5, none⟩ (.int .i64 t278)).setCell ⟨go10, (x4_1 : Int).toNat * 5 + 1, none⟩ (.int .i64 t279)).setCell ⟨go10, (x4_1 : Int).toNat * 5 + 2, none⟩ (.slice Ao14 t280.length co14)).setCell ⟨go10, (x4_1 : Int).toNat * 5 + 3, none⟩ (.int .i64 t283)).setCell ⟨go10, (x4_1 : Int).toNat * 5 + 4, none⟩ (.slice Ao15 t284.length co15))) ?hg ?ho ?hn ?hr ?_; (case ho => rfl); (case hg => rfl); (case hn => rfl); (case hr => first | (go_simp; done) | (go_simp; rfl)); intro w13 hw; have hg : w11.grownBy w13 (some go10) := (by rw [hw]; exact HP12.2); have hp_ : Kd.S k52 52 w13 w.heap.size (fun _ => True) (.slice (some ⟨go10, 0, none⟩) x3_1.length co10) y287 := (by rw [hw, Ny287.out]; exact HP12.1); clear HP12; replace HO_3 := Aside0.mk (hp_); replace HB := Aside0.mk ((by rw [hw]; exact below_set (below_set (below_set (below_set (below_set (HB.out) GB10.out) GB10.out) GB10.out) GB10.out) GB10.out : Below w.heap.size w w13)); clear HO282 HO286; clear hg hw hp_))
   go_roundg k1
   case measure => have := HK1.out; omega
   case rel => exact ⟨(y287), (wrap64 (x4_1 + 1)), rsd, H', ⟨by have := HK1.out; omega⟩, ⟨by (with_reducible repeat (first | apply Kd.S_alloc | apply Kd.S_drewN | apply Kd.S_drew)); exact HO_3.out⟩, ⟨tb HB⟩⟩
end Go.Proofs.YtopikhjcbcpiaaaGreat.Q
