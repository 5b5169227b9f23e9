/- Part 10 of the steps by which the law is shown: what each function of the program, of the reference and of the law computes. No condition. -/
import Derived.Test.YtopikhjcbcpiaaaGreatFin0
import Derived.Test.YtopikhjcbcpiaaaGreatFin1
import Derived.Test.YtopikhjcbcpiaaaGreatFin2
import Derived.Test.YtopikhjcbcpiaaaGreatFin3
import Derived.Test.YtopikhjcbcpiaaaGreatFin4
import Derived.Test.YtopikhjcbcpiaaaGreatFin5
import Derived.Test.YtopikhjcbcpiaaaGreatFin6
import Derived.Test.YtopikhjcbcpiaaaGreatFin8
import Derived.Test.YtopikhjcbcpiaaaGreatFin9
namespace Go.Proofs.YtopikhjcbcpiaaaGreat.Q
open Go.RowKit Go.Proofs.YtopikhjcbcpiaaaGreatW.PrintWords Go.Proofs.YtopikhjcbcpiaaaGreatW.PrintLast Go.Proofs.YtopikhjcbcpiaaaGreatW.PrintMore
attribute [local go_sem] max2_int min2_int max_two min_two max_three min_three max_four min_four   -- for this text's walks alone
set_option linter.unusedVariables false
set_option linter.unusedSimpArgs false
def laws_szMachine.f (k : Nat) (l0_0 : List (S207)) (l0_1 : List (S201)) (l0_2 : List (S171)) (a0_3 : Int) (l0_4 : List (S176)) (l0_5 : List Int) (l0_6 : List Int) (a0_7 : Int) (a1 : Int) : Option (Int) := (laws_szMem.f k l0_0 l0_1 a1).bind fun t124 => (if t124 < 0 then (some (-1)) else ((laws_szThreadS.f k l0_2 t124).bind fun t125 => (if t125 < 0 then (some (-1)) else ((laws_szCallS.f k l0_4 t125).bind fun t126 => (if t126 < 0 then (some (-1)) else ((laws_szIntS.f l0_5 t126).bind fun t127 => (if t127 < 0 then (some (-1)) else ((laws_szRows.f l0_6 a0_7 t127).bind fun t128 => (if t128 < 0 then (some (-1)) else (some t128))))))))))
set_option maxHeartbeats 8000000 in
set_option maxRecDepth 100000 in
theorem laws_szMachine.calls (k : Nat) (A0_0 : Option Addr) (c0_0 : Nat) (l0_0 : List (S207)) (A0_1 : Option Addr) (c0_1 : Nat) (l0_1 : List (S201)) (A0_2 : Option Addr) (c0_2 : Nat) (l0_2 : List (S171)) (a0_3 : Int) (A0_4 : Option Addr) (c0_4 : Nat) (l0_4 : List (S176)) (A0_5 : Option Addr) (c0_5 : Nat) (l0_5 : List Int) (A0_6 : Option Addr) (c0_6 : Nat) (l0_6 : List Int) (a0_7 : Int) (a1 : Int) (r : Int) (w : World) (hr0_0 : Kd.C k207 w A0_0 l0_0.length l0_0) (hc0_0 : l0_0.length ≤ c0_0) (hr0_1 : Kd.C k201 w A0_1 l0_1.length l0_1) (hc0_1 : l0_1.length ≤ c0_1) (hr0_2 : Kd.C k171 w A0_2 l0_2.length l0_2) (hc0_2 : l0_2.length ≤ c0_2) (hr0_4 : Kd.C k176 w A0_4 l0_4.length l0_4) (hc0_4 : l0_4.length ≤ c0_4) (hr0_5 : Kd.C (Kd.int .i64) w A0_5 l0_5.length l0_5) (hc0_5 : l0_5.length ≤ c0_5) (hr0_6 : Kd.C (Kd.int .i64) w A0_6 l0_6.length l0_6) (hc0_6 : l0_6.length ≤ c0_6) (h : laws_szMachine.f k l0_0 l0_1 l0_2 a0_3 l0_4 l0_5 l0_6 a0_7 a1 = some r) :
  Calls Tryz.prog 24 #[.agg #[.slice A0_0 l0_0.length c0_0, .slice A0_1 l0_1.length c0_1, .slice A0_2 l0_2.length c0_2, .int .i64 a0_3, .slice A0_4 l0_4.length c0_4, .slice A0_5 l0_5.length c0_5, .slice A0_6 l0_6.length c0_6, .int .i64 a0_7], .int .i64 a1] w fun e w' => e = .returned (.int .i64 r) ∧ Below w.heap.size w w' := by
 have hu68 := Tryz.underlying68
 have hu62 := Tryz.underlying62
 have hu66 := Tryz.underlying66
 have HR0_0 := Aside0.mk hr0_0
 have HC0_0 := Aside0.mk hc0_0
 clear hr0_0 hc0_0
 have HR0_1 := Aside0.mk hr0_1
 have HC0_1 := Aside0.mk hc0_1
 clear hr0_1 hc0_1
 have HR0_2 := Aside0.mk hr0_2
 have HC0_2 := Aside0.mk hc0_2
 clear hr0_2 hc0_2
 have HR0_4 := Aside0.mk hr0_4
 have HC0_4 := Aside0.mk hc0_4
 clear hr0_4 hc0_4
 have HR0_5 := Aside0.mk hr0_5
 have HC0_5 := Aside0.mk hc0_5
 clear hr0_5 hc0_5
 have HR0_6 := Aside0.mk hr0_6
 have HC0_6 := Aside0.mk hc0_6
 clear hr0_6 hc0_6
 have HB := Aside0.mk (Below.refl w.heap.size w)
 have H := h
 clear h
 unfold laws_szMachine.f at H
 obtain ⟨t124, A3, H⟩ := bn H
 try dsimp only at H
 revert H; refine icd (fun c4b0 H => ?pos) fun c4b0 H => ?_
 case pos =>
  obtain rfl := oin H
  go_enter Tryz.func24, Tryz.ntmps24
  go_wp2_with (first | ((with_reducible refine gq 2 rfl ?_); refine bx0 HB (N := 2) (t := 68) ?_; clear HB; intro gb123 w5 BK123 GE123 HB; have hz6 := cs8_ BK123) | ((with_reducible refine gf 80 rfl ?_); refine gL 8 Tryz.func80 #[.agg #[.slice A0_0 l0_0.length c0_0, .slice A0_1 l0_1.length c0_1], .int .i64 a1] ?_; (with_reducible refine (laws_szMem.calls k _ _ l0_0 _ _ l0_1 a1 t124 _ (kc HR0_0 HB) HC0_0.out (kc HR0_1 HB) HC0_1.out A3.out).mono ?_); rintro e w7 ⟨rfl, hb⟩; refine ⟨_, rfl, ?_⟩; replace BK123 := bb BK123 hb; replace HB := bs HB hb; (try clear hb)))
  go_ret
  exact ⟨er, tb HB⟩
 obtain ⟨t125, A8, H⟩ := bn H
 try dsimp only at H
 revert H; refine icd (fun c9b0 H => ?pos) fun c9b0 H => ?_
 case pos =>
  obtain rfl := oin H
  go_enter Tryz.func24, Tryz.ntmps24
  go_wp2_with (first | ((with_reducible refine gq 2 rfl ?_); refine bx0 HB (N := 2) (t := 68) ?_; clear HB; intro gb123 w10 BK123 GE123 HB; have hz11 := cs8_ BK123) | ((with_reducible refine gf 80 rfl ?_); refine gL 8 Tryz.func80 #[.agg #[.slice A0_0 l0_0.length c0_0, .slice A0_1 l0_1.length c0_1], .int .i64 a1] ?_; (with_reducible refine (laws_szMem.calls k _ _ l0_0 _ _ l0_1 a1 t124 _ (kc HR0_0 HB) HC0_0.out (kc HR0_1 HB) HC0_1.out A3.out).mono ?_); rintro e w12 ⟨rfl, hb⟩; refine ⟨_, rfl, ?_⟩; replace BK123 := bb BK123 hb; replace HB := bs HB hb; (try clear hb); have hz13 := cs8_ BK123) | ((with_reducible refine gf 81 rfl ?_); refine gL 14 Tryz.func81 #[.slice A0_2 l0_2.length c0_2, .int .i64 t124] ?_; (with_reducible refine (laws_szThreadS.calls k _ _ l0_2 t124 t125 _ (kc HR0_2 HB) HC0_2.out A8.out).mono ?_); rintro e w14 ⟨rfl, hb⟩; refine ⟨_, rfl, ?_⟩; replace BK123 := bb BK123 hb; replace HB := bs HB hb; (try clear hb)))
  go_ret
  exact ⟨er, tb HB⟩
 obtain ⟨t126, A15, H⟩ := bn H
 try dsimp only at H
 revert H; refine icd (fun c16b0 H => ?pos) fun c16b0 H => ?_
 case pos =>
  obtain rfl := oin H
  go_enter Tryz.func24, Tryz.ntmps24
  go_wp2_with (first | ((with_reducible refine gq 2 rfl ?_); refine bx0 HB (N := 2) (t := 68) ?_; clear HB; intro gb123 w17 BK123 GE123 HB; have hz18 := cs8_ BK123) | ((with_reducible refine gf 80 rfl ?_); refine gL 8 Tryz.func80 #[.agg #[.slice A0_0 l0_0.length c0_0, .slice A0_1 l0_1.length c0_1], .int .i64 a1] ?_; (with_reducible refine (laws_szMem.calls k _ _ l0_0 _ _ l0_1 a1 t124 _ (kc HR0_0 HB) HC0_0.out (kc HR0_1 HB) HC0_1.out A3.out).mono ?_); rintro e w19 ⟨rfl, hb⟩; refine ⟨_, rfl, ?_⟩; replace BK123 := bb BK123 hb; replace HB := bs HB hb; (try clear hb); have hz20 := cs8_ BK123) | ((with_reducible refine gf 81 rfl ?_); refine gL 14 Tryz.func81 #[.slice A0_2 l0_2.length c0_2, .int .i64 t124] ?_; (with_reducible refine (laws_szThreadS.calls k _ _ l0_2 t124 t125 _ (kc HR0_2 HB) HC0_2.out A8.out).mono ?_); rintro e w21 ⟨rfl, hb⟩; refine ⟨_, rfl, ?_⟩; replace BK123 := bb BK123 hb; replace HB := bs HB hb; (try clear hb); have hz22 := cs8_ BK123) | ((with_reducible refine gf 82 rfl ?_); refine gL 20 Tryz.func82 #[.slice A0_4 l0_4.length c0_4, .int .i64 t125] ?_; (with_reducible refine (laws_szCallS.calls k _ _ l0_4 t125 t126 _ (kc HR0_4 HB) HC0_4.out A15.out).mono ?_); rintro e w23 ⟨rfl, hb⟩; refine ⟨_, rfl, ?_⟩; replace BK123 := bb BK123 hb; replace HB := bs HB hb; (try clear hb)))
  go_ret
  exact ⟨er, tb HB⟩
 obtain ⟨t127, A24, H⟩ := bn H
 try dsimp only at H
 revert H; refine icd (fun c25b0 H => ?pos) fun c25b0 H => ?_
 case pos =>
  obtain rfl := oin H
  go_enter Tryz.func24, Tryz.ntmps24
  go_wp2_with (first | ((with_reducible refine gq 2 rfl ?_); refine bx0 HB (N := 2) (t := 68) ?_; clear HB; intro gb123 w26 BK123 GE123 HB; have hz27 := cs8_ BK123) | ((with_reducible refine gf 80 rfl ?_); refine gL 8 Tryz.func80 #[.agg #[.slice A0_0 l0_0.length c0_0, .slice A0_1 l0_1.length c0_1], .int .i64 a1] ?_; (with_reducible refine (laws_szMem.calls k _ _ l0_0 _ _ l0_1 a1 t124 _ (kc HR0_0 HB) HC0_0.out (kc HR0_1 HB) HC0_1.out A3.out).mono ?_); rintro e w28 ⟨rfl, hb⟩; refine ⟨_, rfl, ?_⟩; replace BK123 := bb BK123 hb; replace HB := bs HB hb; (try clear hb); have hz29 := cs8_ BK123) | ((with_reducible refine gf 81 rfl ?_); refine gL 14 Tryz.func81 #[.slice A0_2 l0_2.length c0_2, .int .i64 t124] ?_; (with_reducible refine (laws_szThreadS.calls k _ _ l0_2 t124 t125 _ (kc HR0_2 HB) HC0_2.out A8.out).mono ?_); rintro e w30 ⟨rfl, hb⟩; refine ⟨_, rfl, ?_⟩; replace BK123 := bb BK123 hb; replace HB := bs HB hb; (try clear hb); have hz31 := cs8_ BK123) | ((with_reducible refine gf 82 rfl ?_); refine gL 20 Tryz.func82 #[.slice A0_4 l0_4.length c0_4, .int .i64 t125] ?_; (with_reducible refine (laws_szCallS.calls k _ _ l0_4 t125 t126 _ (kc HR0_4 HB) HC0_4.out A15.out).mono ?_); rintro e w32 ⟨rfl, hb⟩; refine ⟨_, rfl, ?_⟩; replace BK123 := bb BK123 hb; replace HB := bs HB hb; (try clear hb); have hz33 := cs8_ BK123) | ((with_reducible refine gf 83 rfl ?_); refine gL 26 Tryz.func83 #[.slice A0_5 l0_5.length c0_5, .int .i64 t126] ?_; (with_reducible refine (laws_szIntS.calls _ _ l0_5 t126 t127 _ (kc HR0_5 HB) HC0_5.out A24.out).mono ?_); rintro e w' ⟨rfl, ⟨nd, rfl⟩⟩; refine ⟨_, rfl, ?_⟩))
  go_ret
  exact ⟨er, tb HB⟩
 obtain ⟨t128, A34, H⟩ := bn H
 try dsimp only at H
 revert H; refine icd (fun c35b0 H => ?pos) fun c35b0 H => ?_
 case pos =>
  obtain rfl := oin H
  go_enter Tryz.func24, Tryz.ntmps24
  go_wp2_with (first | ((with_reducible refine gq 2 rfl ?_); refine bx0 HB (N := 2) (t := 68) ?_; clear HB; intro gb123 w36 BK123 GE123 HB; have hz37 := cs8_ BK123) | ((with_reducible refine gf 80 rfl ?_); refine gL 8 Tryz.func80 #[.agg #[.slice A0_0 l0_0.length c0_0, .slice A0_1 l0_1.length c0_1], .int .i64 a1] ?_; (with_reducible refine (laws_szMem.calls k _ _ l0_0 _ _ l0_1 a1 t124 _ (kc HR0_0 HB) HC0_0.out (kc HR0_1 HB) HC0_1.out A3.out).mono ?_); rintro e w38 ⟨rfl, hb⟩; refine ⟨_, rfl, ?_⟩; replace BK123 := bb BK123 hb; replace HB := bs HB hb; (try clear hb); have hz39 := cs8_ BK123) | ((with_reducible refine gf 81 rfl ?_); refine gL 14 Tryz.func81 #[.slice A0_2 l0_2.length c0_2, .int .i64 t124] ?_; (with_reducible refine (laws_szThreadS.calls k _ _ l0_2 t124 t125 _ (kc HR0_2 HB) HC0_2.out A8.out).mono ?_); rintro e w40 ⟨rfl, hb⟩; refine ⟨_, rfl, ?_⟩; replace BK123 := bb BK123 hb; replace HB := bs HB hb; (try clear hb); have hz41 := cs8_ BK123) | ((with_reducible refine gf 82 rfl ?_); refine gL 20 Tryz.func82 #[.slice A0_4 l0_4.length c0_4, .int .i64 t125] ?_; (with_reducible refine (laws_szCallS.calls k _ _ l0_4 t125 t126 _ (kc HR0_4 HB) HC0_4.out A15.out).mono ?_); rintro e w42 ⟨rfl, hb⟩; refine ⟨_, rfl, ?_⟩; replace BK123 := bb BK123 hb; replace HB := bs HB hb; (try clear hb); have hz43 := cs8_ BK123) | ((with_reducible refine gf 83 rfl ?_); refine gL 26 Tryz.func83 #[.slice A0_5 l0_5.length c0_5, .int .i64 t126] ?_; (with_reducible refine (laws_szIntS.calls _ _ l0_5 t126 t127 _ (kc HR0_5 HB) HC0_5.out A24.out).mono ?_); rintro e w' ⟨rfl, ⟨nd, rfl⟩⟩; refine ⟨_, rfl, ?_⟩) | ((with_reducible refine gf 84 rfl ?_); refine gL 32 Tryz.func84 #[.agg #[.slice A0_6 l0_6.length c0_6, .int .i64 a0_7], .int .i64 t127] ?_; (with_reducible refine (laws_szRows.calls _ _ l0_6 a0_7 t127 t128 _ ?side1 HC0_6.out A34.out).mono ?_); (case side1 => repeat (first | exact (Kd.C_below HR0_6.out (tb HB)) | (with_reducible refine Kd.C_alloc ?_ _) | (with_reducible refine Kd.C_drewN ?_ _) | (with_reducible refine Kd.C_drew ?_))); rintro e w44 ⟨rfl, hb⟩; refine ⟨_, rfl, ?_⟩; replace BK123 := bb BK123 hb; replace HB := bs HB hb; (try clear hb)))
  go_ret
  exact ⟨er, tb HB⟩
 obtain rfl := oin H
 go_enter Tryz.func24, Tryz.ntmps24
 go_wp2_with (first | ((with_reducible refine gq 2 rfl ?_); refine bx0 HB (N := 2) (t := 68) ?_; clear HB; intro gb123 w45 BK123 GE123 HB; have hz46 := cs8_ BK123) | ((with_reducible refine gf 80 rfl ?_); refine gL 8 Tryz.func80 #[.agg #[.slice A0_0 l0_0.length c0_0, .slice A0_1 l0_1.length c0_1], .int .i64 a1] ?_; (with_reducible refine (laws_szMem.calls k _ _ l0_0 _ _ l0_1 a1 t124 _ (kc HR0_0 HB) HC0_0.out (kc HR0_1 HB) HC0_1.out A3.out).mono ?_); rintro e w47 ⟨rfl, hb⟩; refine ⟨_, rfl, ?_⟩; replace BK123 := bb BK123 hb; replace HB := bs HB hb; (try clear hb); have hz48 := cs8_ BK123) | ((with_reducible refine gf 81 rfl ?_); refine gL 14 Tryz.func81 #[.slice A0_2 l0_2.length c0_2, .int .i64 t124] ?_; (with_reducible refine (laws_szThreadS.calls k _ _ l0_2 t124 t125 _ (kc HR0_2 HB) HC0_2.out A8.out).mono ?_); rintro e w49 ⟨rfl, hb⟩; refine ⟨_, rfl, ?_⟩; replace BK123 := bb BK123 hb; replace HB := bs HB hb; (try clear hb); have hz50 := cs8_ BK123) | ((with_reducible refine gf 82 rfl ?_); refine gL 20 Tryz.func82 #[.slice A0_4 l0_4.length c0_4, .int .i64 t125] ?_; (with_reducible refine (laws_szCallS.calls k _ _ l0_4 t125 t126 _ (kc HR0_4 HB) HC0_4.out A15.out).mono ?_); rintro e w51 ⟨rfl, hb⟩; refine ⟨_, rfl, ?_⟩; replace BK123 := bb BK123 hb; replace HB := bs HB hb; (try clear hb); have hz52 := cs8_ BK123) | ((with_reducible refine gf 83 rfl ?_); refine gL 26 Tryz.func83 #[.slice A0_5 l0_5.length c0_5, .int .i64 t126] ?_; (with_reducible refine (laws_szIntS.calls _ _ l0_5 t126 t127 _ (kc HR0_5 HB) HC0_5.out A24.out).mono ?_); rintro e w' ⟨rfl, ⟨nd, rfl⟩⟩; refine ⟨_, rfl, ?_⟩) | ((with_reducible refine gf 84 rfl ?_); refine gL 32 Tryz.func84 #[.agg #[.slice A0_6 l0_6.length c0_6, .int .i64 a0_7], .int .i64 t127] ?_; (with_reducible refine (laws_szRows.calls _ _ l0_6 a0_7 t127 t128 _ ?side1 HC0_6.out A34.out).mono ?_); (case side1 => repeat (first | exact (Kd.C_below HR0_6.out (tb HB)) | (with_reducible refine Kd.C_alloc ?_ _) | (with_reducible refine Kd.C_drewN ?_ _) | (with_reducible refine Kd.C_drew ?_))); rintro e w53 ⟨rfl, hb⟩; refine ⟨_, rfl, ?_⟩; replace BK123 := bb BK123 hb; replace HB := bs HB hb; (try clear hb)))
 go_ret
 exact ⟨er, tb HB⟩
def laws_toMachine.f (k : Nat) (l0_0 : List (S207)) (l0_1 : List (S201)) (l0_2 : List (S171)) (a0_3 : Int) (l0_4 : List (S176)) (l0_5 : List Int) (l0_6 : List Int) (a0_7 : Int) : Option ((List (S39)) × (List (S52)) × (List (S82)) × Int × (List (S134)) × List Int × List Int × Int) := (laws_toMem.f k l0_0 l0_1).bind fun bt393 => ((laws_toThreadS.f k l0_2).bind fun t399 => ((laws_toCallS.f k l0_4).bind fun t402 => ((laws_toIntS.f k l0_5).bind fun t405 => ((laws_toRows.f k l0_6 a0_7).bind fun bt408 => (some (bt393.1, bt393.2, t399, a0_3, t402, t405, bt408.1, bt408.2))))))
set_option maxHeartbeats 8000000 in
set_option maxRecDepth 100000 in
theorem laws_toMachine.calls (k : Nat) (A0_0 : Option Addr) (c0_0 : Nat) (l0_0 : List (S207)) (A0_1 : Option Addr) (c0_1 : Nat) (l0_1 : List (S201)) (A0_2 : Option Addr) (c0_2 : Nat) (l0_2 : List (S171)) (a0_3 : Int) (A0_4 : Option Addr) (c0_4 : Nat) (l0_4 : List (S176)) (A0_5 : Option Addr) (c0_5 : Nat) (l0_5 : List Int) (A0_6 : Option Addr) (c0_6 : Nat) (l0_6 : List Int) (a0_7 : Int) (r1 : List (S39)) (r2 : List (S52)) (r3 : List (S82)) (r4 : Int) (r5 : List (S134)) (r6 : List Int) (r7 : List Int) (r8 : Int) (w : World) (hr0_0 : Kd.C k207 w A0_0 l0_0.length l0_0) (hc0_0 : l0_0.length ≤ c0_0) (hr0_1 : Kd.C k201 w A0_1 l0_1.length l0_1) (hc0_1 : l0_1.length ≤ c0_1) (hr0_2 : Kd.C k171 w A0_2 l0_2.length l0_2) (hc0_2 : l0_2.length ≤ c0_2) (hr0_4 : Kd.C k176 w A0_4 l0_4.length l0_4) (hc0_4 : l0_4.length ≤ c0_4) (hr0_5 : Kd.C (Kd.int .i64) w A0_5 l0_5.length l0_5) (hc0_5 : l0_5.length ≤ c0_5) (hr0_6 : Kd.C (Kd.int .i64) w A0_6 l0_6.length l0_6) (hc0_6 : l0_6.length ≤ c0_6) (h : laws_toMachine.f k l0_0 l0_1 l0_2 a0_3 l0_4 l0_5 l0_6 a0_7 = some (r1, r2, r3, r4, r5, r6, r7, r8)) :
  Calls Tryz.prog 26 #[.agg #[.slice A0_0 l0_0.length c0_0, .slice A0_1 l0_1.length c0_1, .slice A0_2 l0_2.length c0_2, .int .i64 a0_3, .slice A0_4 l0_4.length c0_4, .slice A0_5 l0_5.length c0_5, .slice A0_6 l0_6.length c0_6, .int .i64 a0_7]] w fun e w' => ∃ v0_ v1_ v2_ v4_ v5_ v6_ : Value, e = .returned (.agg #[v0_, v1_, v2_, .int .i64 r4, v4_, v5_, v6_, .int .i64 r8]) ∧ Kd.R k39 39 w' w.heap.size (fun _ => True) v0_ r1 ∧ Kd.S k52 52 w' w.heap.size (fun k_ => some k_ ≠ (v5_ : Value).ownBlock ∧ some k_ ≠ (v6_ : Value).ownBlock) v1_ r2 ∧ Kd.S k82 82 w' w.heap.size (fun _ => True) v2_ r3 ∧ Kd.S k134 134 w' w.heap.size (fun k_ => some k_ ≠ (v5_ : Value).ownBlock ∧ some k_ ≠ (v6_ : Value).ownBlock) v4_ r5 ∧ Kd.R (Kd.int .i64) 3 w' w.heap.size (fun k_ => some k_ ≠ (v6_ : Value).ownBlock) v5_ r6 ∧ Kd.R (Kd.int .i64) 3 w' w.heap.size (fun k_ => some k_ ≠ (v5_ : Value).ownBlock) v6_ r7 ∧ Below w.heap.size w w' := by
 have hu68 := Tryz.underlying68
 have hu75 := Tryz.underlying75
 have hu62 := Tryz.underlying62
 have hu27 := Tryz.underlying27
 have hu66 := Tryz.underlying66
 have hu73 := Tryz.underlying73
 have HR0_0 := Aside0.mk hr0_0
 have HC0_0 := Aside0.mk hc0_0
 clear hr0_0 hc0_0
 have HR0_1 := Aside0.mk hr0_1
 have HC0_1 := Aside0.mk hc0_1
 clear hr0_1 hc0_1
 have HR0_2 := Aside0.mk hr0_2
 have HC0_2 := Aside0.mk hc0_2
 clear hr0_2 hc0_2
 have HR0_4 := Aside0.mk hr0_4
 have HC0_4 := Aside0.mk hc0_4
 clear hr0_4 hc0_4
 have HR0_5 := Aside0.mk hr0_5
 have HC0_5 := Aside0.mk hc0_5
 clear hr0_5 hc0_5
 have HR0_6 := Aside0.mk hr0_6
 have HC0_6 := Aside0.mk hc0_6
 clear hr0_6 hc0_6
 have HB := Aside0.mk (Below.refl w.heap.size w)
 have H := h
 clear h
 unfold laws_toMachine.f at H
 obtain ⟨⟨t393, t396⟩, A2, H⟩ := bn H
 try dsimp only at H
 obtain ⟨t399, A3, H⟩ := bn H
 try dsimp only at H
 obtain ⟨t402, A4, H⟩ := bn H
 try dsimp only at H
 obtain ⟨t405, A5, H⟩ := bn H
 try dsimp only at H
 obtain ⟨⟨t408, t411⟩, A6, H⟩ := bn H
 try dsimp only at H
 simp only [Option.some.injEq, Prod.mk.injEq] at H
 obtain ⟨rfl, rfl, rfl, rfl, rfl, rfl, rfl, rfl⟩ := H
 go_enter Tryz.func26, Tryz.ntmps26
 go_wp2_with (first | ((with_reducible refine gq 1 rfl ?_); refine bx0 HB (N := 1) (t := 68) ?_; clear HB; intro gb390 w7 BK390 GE390 HB) | ((with_reducible refine gq 2 rfl ?_); refine bx1 HB BK390 (N := 2) (cs := #[.slice none 0 0, .slice none 0 0, .slice none 0 0, .int .i64 0, .slice none 0 0, .slice none 0 0, .slice none 0 0, .int .i64 0]) (t := 75) ?_; clear HB BK390; intro gb391 w8 BK391 GE391 HB NB390_391 NB391_390 BK390) | ((with_reducible refine gq 3 rfl ?_); refine bx2 HB BK390 BK391 (N := 3) (cs := #[.slice none 0 0, .slice none 0 0, .slice none 0 0, .int .i64 0, .slice none 0 0, .slice none 0 0, .slice none 0 0, .int .i64 0]) (t := 75) ?_; clear HB BK390 BK391; intro gb392 w9 BK392 GE392 HB NB390_392 NB392_390 BK390 NB391_392 NB392_391 BK391; have hnb10 := NB390_391.out; have hnc10 := NB391_390.out; have hnb11 := NB390_392.out; have hnc11 := NB392_390.out; have hz12 := cs8_ BK390) | ((with_reducible refine gf 88 rfl ?_); refine gL 6 Tryz.func88 #[.agg #[.slice A0_0 l0_0.length c0_0, .slice A0_1 l0_1.length c0_1]] ?_; (with_reducible refine (laws_toMem.calls k _ _ l0_0 _ _ l0_1 t393 t396 _ (kc HR0_0 HB) HC0_0.out (kc HR0_1 HB) HC0_1.out A2.out).mono ?_); rintro e w13 ⟨v394, v397, rfl, ho0, ho1, hb⟩; refine ⟨_, rfl, ?_⟩; have HO395 := Aside0.mk (Kd.R_lower ho0 (below_size (tb HB))); have HO398 := Aside0.mk (Kd.S_lower ho1 (below_size (tb HB))); replace BK390 := bb BK390 hb; replace BK391 := bb BK391 hb; replace BK392 := bb BK392 hb; replace HB := bs HB hb; (try clear hb); (try clear ho0); (try clear ho1); obtain ⟨Ao14, co14, eo14⟩ := Kd.R_slice HO395.out; subst eo14; have hnb15 := NB392_391.out; have hnc15 := NB391_392.out; have hz16 := cs8_ BK392; obtain ⟨Ao17, co17, eo17⟩ := Kd.S_slice HO398.out; subst eo17; have hz18 := cs8_ BK390) | ((with_reducible refine gf 89 rfl ?_); refine gL 10 Tryz.func89 #[.slice A0_2 l0_2.length c0_2] ?_; (with_reducible refine (laws_toThreadS.calls k _ _ l0_2 t399 _ ?side1 HC0_2.out A3.out).mono ?_); (case side1 => exact Kd.C_below HR0_2.out (tb HB)); rintro e w19 ⟨v400, rfl, ho0, hb⟩; refine ⟨_, rfl, ?_⟩; replace HO395 := Aside0.mk (Kd.R_below (kr ((Kd.R_mono (Kd.R_far (p := ⟨gb392, 1, none⟩) (Kd.R_far (p := ⟨gb392, 0, none⟩) (Kd.R_types HO395.out BK392.out (by decide)) (fun _ hk => hk.2) (.slice Ao14 t393.length co14)) (fun _ hk => hk.2) (.slice Ao17 t396.length co17)) (fun _ h_ => h_.1)))) hb); replace HO398 := Aside0.mk (Kd.S_below (by (with_reducible repeat (first | apply Kd.S_alloc | apply Kd.S_drewN | apply Kd.S_drew)); exact (Kd.S_mono (Kd.S_far (p := ⟨gb392, 1, none⟩) (Kd.S_far (p := ⟨gb392, 0, none⟩) (Kd.S_types HO398.out BK392.out (by decide)) (fun _ hk => hk.2) (.slice Ao14 t393.length co14)) (fun _ hk => hk.2) (.slice Ao17 t396.length co17)) (fun _ h_ => h_.1))) hb); have HO401 := Aside0.mk (Kd.S_lower ho0 (below_size (tb HB))); replace BK390 := bbf BK390 hb; replace BK391 := bbf BK391 hb; replace BK392 := Aside0.mk (blk_below (g := gb392) (o := .cells #[.slice Ao14 t393.length co14, .slice Ao17 t396.length co17, .slice none 0 0, .int .i64 0, .slice none 0 0, .slice none 0 0, .slice none 0 0, .int .i64 0] 75 (0, 0)) (by (with_reducible repeat (first | refine blk_drewN ?_ _ | refine blk_drew ?_ | refine blk_alloc ?_ _)); refine blk_put (cs := #[.slice Ao14 t393.length co14, .slice none 0 0, .slice none 0 0, .int .i64 0, .slice none 0 0, .slice none 0 0, .slice none 0 0, .int .i64 0]) ?_ 1 _ rfl; (with_reducible repeat (first | refine blk_drewN ?_ _ | refine blk_drew ?_ | refine blk_alloc ?_ _)); refine blk_put (cs := #[.slice none 0 0, .slice none 0 0, .slice none 0 0, .int .i64 0, .slice none 0 0, .slice none 0 0, .slice none 0 0, .int .i64 0]) ?_ 0 _ rfl; (with_reducible repeat (first | refine blk_drewN ?_ _ | refine blk_drew ?_ | refine blk_alloc ?_ _)); exact BK392.out) hb); replace HB := bs HB hb; (try clear hb); (try clear hk); (try clear ho0); obtain ⟨Ao20, co20, eo20⟩ := Kd.S_slice HO401.out; subst eo20; have hz21 := cs8_ BK392; have hz22 := cs8_ BK390) | ((with_reducible refine gf 90 rfl ?_); refine gL 17 Tryz.func90 #[.slice A0_4 l0_4.length c0_4] ?_; (with_reducible refine (laws_toCallS.calls k _ _ l0_4 t402 _ ?side1 HC0_4.out A4.out).mono ?_); (case side1 => exact Kd.C_below HR0_4.out (tb HB)); rintro e w23 ⟨v403, rfl, ho0, hb⟩; refine ⟨_, rfl, ?_⟩; replace HO395 := Aside0.mk (Kd.R_below (kr ((Kd.R_mono (Kd.R_far (p := ⟨gb392, 3, none⟩) (Kd.R_far (p := ⟨gb392, 2, none⟩) (Kd.R_types HO395.out BK392.out (by decide)) (fun _ hk => hk.2) (.slice Ao20 t399.length co20)) (fun _ hk => hk.2) (.int .i64 a0_3)) (fun _ h_ => h_.1)))) hb); replace HO398 := Aside0.mk (Kd.S_below (by (with_reducible repeat (first | apply Kd.S_alloc | apply Kd.S_drewN | apply Kd.S_drew)); exact (Kd.S_mono (Kd.S_far (p := ⟨gb392, 3, none⟩) (Kd.S_far (p := ⟨gb392, 2, none⟩) (Kd.S_types HO398.out BK392.out (by decide)) (fun _ hk => hk.2) (.slice Ao20 t399.length co20)) (fun _ hk => hk.2) (.int .i64 a0_3)) (fun _ h_ => h_.1))) hb); replace HO401 := Aside0.mk (Kd.S_below (by (with_reducible repeat (first | apply Kd.S_alloc | apply Kd.S_drewN | apply Kd.S_drew)); exact (Kd.S_mono (Kd.S_far (p := ⟨gb392, 3, none⟩) (Kd.S_far (p := ⟨gb392, 2, none⟩) (Kd.S_types HO401.out BK392.out (by decide)) (fun _ hk => hk.2) (.slice Ao20 t399.length co20)) (fun _ hk => hk.2) (.int .i64 a0_3)) (fun _ h_ => h_.1))) hb); have HO404 := Aside0.mk (Kd.S_lower ho0 (below_size (tb HB))); replace BK390 := bbf BK390 hb; replace BK391 := bbf BK391 hb; replace BK392 := Aside0.mk (blk_below (g := gb392) (o := .cells #[.slice Ao14 t393.length co14, .slice Ao17 t396.length co17, .slice Ao20 t399.length co20, .int .i64 a0_3, .slice none 0 0, .slice none 0 0, .slice none 0 0, .int .i64 0] 75 (0, 0)) (by (with_reducible repeat (first | refine blk_drewN ?_ _ | refine blk_drew ?_ | refine blk_alloc ?_ _)); refine blk_put (cs := #[.slice Ao14 t393.length co14, .slice Ao17 t396.length co17, .slice Ao20 t399.length co20, .int .i64 0, .slice none 0 0, .slice none 0 0, .slice none 0 0, .int .i64 0]) ?_ 3 _ rfl; (with_reducible repeat (first | refine blk_drewN ?_ _ | refine blk_drew ?_ | refine blk_alloc ?_ _)); refine blk_put (cs := #[.slice Ao14 t393.length co14, .slice Ao17 t396.length co17, .slice none 0 0, .int .i64 0, .slice none 0 0, .slice none 0 0, .slice none 0 0, .int .i64 0]) ?_ 2 _ rfl; (with_reducible repeat (first | refine blk_drewN ?_ _ | refine blk_drew ?_ | refine blk_alloc ?_ _)); exact BK392.out) hb); replace HB := bs HB hb; (try clear hb); (try clear hk); (try clear ho0); obtain ⟨Ao24, co24, eo24⟩ := Kd.S_slice HO404.out; subst eo24; have hz25 := cs8_ BK392; have hz26 := cs8_ BK390) | ((with_reducible refine gf 91 rfl ?_); refine gL 21 Tryz.func91 #[.slice A0_5 l0_5.length c0_5] ?_; (with_reducible refine (laws_toIntS.calls k _ _ l0_5 t405 _ ?side1 HC0_5.out A5.out).mono ?_); (case side1 => exact Kd.C_below HR0_5.out (tb HB)); rintro e w27 ⟨v406, rfl, ho0, hb⟩; refine ⟨_, rfl, ?_⟩; replace HO395 := Aside0.mk (Kd.R_below (kr ((Kd.R_mono (Kd.R_far (p := ⟨gb392, 4, none⟩) (Kd.R_types HO395.out BK392.out (by decide)) (fun _ hk => hk.2) (.slice Ao24 t402.length co24)) (fun _ h_ => h_.1)))) hb); replace HO398 := Aside0.mk (Kd.S_elder' (by (with_reducible repeat (first | apply Kd.S_alloc | apply Kd.S_drewN | apply Kd.S_drew)); exact (Kd.S_mono (Kd.S_far (p := ⟨gb392, 4, none⟩) (Kd.S_types HO398.out BK392.out (by decide)) (fun _ hk => hk.2) (.slice Ao24 t402.length co24)) (fun _ h_ => h_.1))) (Kd.R_base ho0) hb); replace HO401 := Aside0.mk (Kd.S_below (by (with_reducible repeat (first | apply Kd.S_alloc | apply Kd.S_drewN | apply Kd.S_drew)); exact (Kd.S_mono (Kd.S_far (p := ⟨gb392, 4, none⟩) (Kd.S_types HO401.out BK392.out (by decide)) (fun _ hk => hk.2) (.slice Ao24 t402.length co24)) (fun _ h_ => h_.1))) hb); replace HO404 := Aside0.mk (Kd.S_elder' (by (with_reducible repeat (first | apply Kd.S_alloc | apply Kd.S_drewN | apply Kd.S_drew)); exact (Kd.S_mono (Kd.S_far (p := ⟨gb392, 4, none⟩) (Kd.S_types HO404.out BK392.out (by decide)) (fun _ hk => hk.2) (.slice Ao24 t402.length co24)) (fun _ h_ => h_.1))) (Kd.R_base ho0) hb); have HO407 := Aside0.mk (Kd.R_lower ho0 (below_size (tb HB))); replace BK390 := bbf BK390 hb; replace BK391 := bbf BK391 hb; replace BK392 := Aside0.mk (blk_below (g := gb392) (o := .cells #[.slice Ao14 t393.length co14, .slice Ao17 t396.length co17, .slice Ao20 t399.length co20, .int .i64 a0_3, .slice Ao24 t402.length co24, .slice none 0 0, .slice none 0 0, .int .i64 0] 75 (0, 0)) (by (with_reducible repeat (first | refine blk_drewN ?_ _ | refine blk_drew ?_ | refine blk_alloc ?_ _)); refine blk_put (cs := #[.slice Ao14 t393.length co14, .slice Ao17 t396.length co17, .slice Ao20 t399.length co20, .int .i64 a0_3, .slice none 0 0, .slice none 0 0, .slice none 0 0, .int .i64 0]) ?_ 4 _ rfl; (with_reducible repeat (first | refine blk_drewN ?_ _ | refine blk_drew ?_ | refine blk_alloc ?_ _)); exact BK392.out) hb); replace HB := bs HB hb; (try clear hb); (try clear hk); (try clear ho0); obtain ⟨Ao28, co28, eo28⟩ := Kd.R_slice HO407.out; subst eo28; have hz29 := cs8_ BK392; have hz30 := cs8_ BK390) | ((with_reducible refine gf 92 rfl ?_); refine gL 25 Tryz.func92 #[.agg #[.slice A0_6 l0_6.length c0_6, .int .i64 a0_7]] ?_; (with_reducible refine (laws_toRows.calls k _ _ l0_6 a0_7 t408 t411 _ ?side1 HC0_6.out A6.out).mono ?_); (case side1 => exact Kd.C_below HR0_6.out (tb HB)); rintro e w31 ⟨v409, rfl, ho0, hb⟩; refine ⟨_, rfl, ?_⟩; replace HO395 := Aside0.mk (Kd.R_below (kr ((Kd.R_mono (Kd.R_far (p := ⟨gb392, 5, none⟩) (Kd.R_types HO395.out BK392.out (by decide)) (fun _ hk => hk.2) (.slice Ao28 t405.length co28)) (fun _ h_ => h_.1)))) hb); replace HO398 := Aside0.mk (Kd.S_elder' (by (with_reducible repeat (first | apply Kd.S_alloc | apply Kd.S_drewN | apply Kd.S_drew)); exact (Kd.S_mono (Kd.S_far (p := ⟨gb392, 5, none⟩) (Kd.S_types HO398.out BK392.out (by decide)) (fun _ hk => hk.2) (.slice Ao28 t405.length co28)) (fun _ h_ => h_.1))) (Kd.R_base ho0) hb); replace HO401 := Aside0.mk (Kd.S_below (by (with_reducible repeat (first | apply Kd.S_alloc | apply Kd.S_drewN | apply Kd.S_drew)); exact (Kd.S_mono (Kd.S_far (p := ⟨gb392, 5, none⟩) (Kd.S_types HO401.out BK392.out (by decide)) (fun _ hk => hk.2) (.slice Ao28 t405.length co28)) (fun _ h_ => h_.1))) hb); replace HO404 := Aside0.mk (Kd.S_elder' (by (with_reducible repeat (first | apply Kd.S_alloc | apply Kd.S_drewN | apply Kd.S_drew)); exact (Kd.S_mono (Kd.S_far (p := ⟨gb392, 5, none⟩) (Kd.S_types HO404.out BK392.out (by decide)) (fun _ hk => hk.2) (.slice Ao28 t405.length co28)) (fun _ h_ => h_.1))) (Kd.R_base ho0) hb); have HO410 := Aside0.mk (Kd.R_lower (Kd.R_new' ho0 (Kd.R_lt (kr ((Kd.R_mono (Kd.R_far (p := ⟨gb392, 5, none⟩) (Kd.R_types HO407.out BK392.out (by decide)) (fun _ hk => hk.2) (.slice Ao28 t405.length co28)) (fun _ h_ => h_.1)))))) (below_size (tb HB))); replace HO407 := Aside0.mk (Kd.R_elder' (kr ((Kd.R_mono (Kd.R_far (p := ⟨gb392, 5, none⟩) (Kd.R_types HO407.out BK392.out (by decide)) (fun _ hk => hk.2) (.slice Ao28 t405.length co28)) (fun _ h_ => h_.1)))) (Kd.R_base ho0) hb); replace BK390 := bbf BK390 hb; replace BK391 := bbf BK391 hb; replace BK392 := Aside0.mk (blk_below (g := gb392) (o := .cells #[.slice Ao14 t393.length co14, .slice Ao17 t396.length co17, .slice Ao20 t399.length co20, .int .i64 a0_3, .slice Ao24 t402.length co24, .slice Ao28 t405.length co28, .slice none 0 0, .int .i64 0] 75 (0, 0)) (by (with_reducible repeat (first | refine blk_drewN ?_ _ | refine blk_drew ?_ | refine blk_alloc ?_ _)); refine blk_put (cs := #[.slice Ao14 t393.length co14, .slice Ao17 t396.length co17, .slice Ao20 t399.length co20, .int .i64 a0_3, .slice Ao24 t402.length co24, .slice none 0 0, .slice none 0 0, .int .i64 0]) ?_ 5 _ rfl; (with_reducible repeat (first | refine blk_drewN ?_ _ | refine blk_drew ?_ | refine blk_alloc ?_ _)); exact BK392.out) hb); replace HB := bs HB hb; (try clear hb); (try clear hk); (try clear ho0); obtain ⟨Ao32, co32, eo32⟩ := Kd.R_slice HO410.out; subst eo32; have hz33 := cs8_ BK392; have hz34 := cs8_ BK391))
 refine bodyPost_ret (results_cell_row rfl _ _ gb391 75 #[.slice Ao14 t393.length co14, .slice Ao17 t396.length co17, .slice Ao20 t399.length co20, .int .i64 a0_3, .slice Ao24 t402.length co24, .slice Ao28 t405.length co28, .slice Ao32 t408.length co32, .int .i64 t411] (0, 0) _ rfl (bfp8 BK391) Tryz.underlying75 rfl (by kernel_rfl)) rfl ?_
 exact ⟨_, _, _, _, _, _, er, by (with_reducible repeat (first | apply Kd.R_alloc | apply Kd.R_drewN | apply Kd.R_drew)); exact Kd.R_mono (Kd.R_far (p := ⟨gb391, 7, none⟩) (Kd.R_far (p := ⟨gb391, 6, none⟩) (Kd.R_far (p := ⟨gb391, 5, none⟩) (Kd.R_far (p := ⟨gb391, 4, none⟩) (Kd.R_far (p := ⟨gb391, 3, none⟩) (Kd.R_far (p := ⟨gb391, 2, none⟩) (Kd.R_far (p := ⟨gb391, 1, none⟩) (Kd.R_far (p := ⟨gb391, 0, none⟩) (Kd.R_far (p := ⟨gb392, 7, none⟩) (Kd.R_far (p := ⟨gb392, 6, none⟩) (Kd.R_types (Kd.R_types HO395.out BK392.out (by decide)) BK391.out (by decide)) (fun _ hk => hk.1.2) (.slice Ao32 t408.length co32)) (fun _ hk => hk.1.2) (.int .i64 t411)) (fun _ hk => hk.2) (.slice Ao14 t393.length co14)) (fun _ hk => hk.2) (.slice Ao17 t396.length co17)) (fun _ hk => hk.2) (.slice Ao20 t399.length co20)) (fun _ hk => hk.2) (.int .i64 a0_3)) (fun _ hk => hk.2) (.slice Ao24 t402.length co24)) (fun _ hk => hk.2) (.slice Ao28 t405.length co28)) (fun _ hk => hk.2) (.slice Ao32 t408.length co32)) (fun _ hk => hk.2) (.int .i64 t411)) (fun _ hk => trivial), by (with_reducible repeat (first | apply Kd.S_alloc | apply Kd.S_drewN | apply Kd.S_drew)); exact Kd.S_mono (Kd.S_far (p := ⟨gb391, 7, none⟩) (Kd.S_far (p := ⟨gb391, 6, none⟩) (Kd.S_far (p := ⟨gb391, 5, none⟩) (Kd.S_far (p := ⟨gb391, 4, none⟩) (Kd.S_far (p := ⟨gb391, 3, none⟩) (Kd.S_far (p := ⟨gb391, 2, none⟩) (Kd.S_far (p := ⟨gb391, 1, none⟩) (Kd.S_far (p := ⟨gb391, 0, none⟩) (Kd.S_far (p := ⟨gb392, 7, none⟩) (Kd.S_far (p := ⟨gb392, 6, none⟩) (Kd.S_types (Kd.S_types HO398.out BK392.out (by decide)) BK391.out (by decide)) (fun _ hk => hk.1.2) (.slice Ao32 t408.length co32)) (fun _ hk => hk.1.2) (.int .i64 t411)) (fun _ hk => hk.2) (.slice Ao14 t393.length co14)) (fun _ hk => hk.2) (.slice Ao17 t396.length co17)) (fun _ hk => hk.2) (.slice Ao20 t399.length co20)) (fun _ hk => hk.2) (.int .i64 a0_3)) (fun _ hk => hk.2) (.slice Ao24 t402.length co24)) (fun _ hk => hk.2) (.slice Ao28 t405.length co28)) (fun _ hk => hk.2) (.slice Ao32 t408.length co32)) (fun _ hk => hk.2) (.int .i64 t411)) (fun _ hk => ⟨hk.1.1.1.2, hk.1.1.2⟩), by (with_reducible repeat (first | apply Kd.S_alloc | apply Kd.S_drewN | apply Kd.S_drew)); exact Kd.S_mono (Kd.S_far (p := ⟨gb391, 7, none⟩) (Kd.S_far (p := ⟨gb391, 6, none⟩) (Kd.S_far (p := ⟨gb391, 5, none⟩) (Kd.S_far (p := ⟨gb391, 4, none⟩) (Kd.S_far (p := ⟨gb391, 3, none⟩) (Kd.S_far (p := ⟨gb391, 2, none⟩) (Kd.S_far (p := ⟨gb391, 1, none⟩) (Kd.S_far (p := ⟨gb391, 0, none⟩) (Kd.S_far (p := ⟨gb392, 7, none⟩) (Kd.S_far (p := ⟨gb392, 6, none⟩) (Kd.S_types (Kd.S_types HO401.out BK392.out (by decide)) BK391.out (by decide)) (fun _ hk => hk.1.2) (.slice Ao32 t408.length co32)) (fun _ hk => hk.1.2) (.int .i64 t411)) (fun _ hk => hk.2) (.slice Ao14 t393.length co14)) (fun _ hk => hk.2) (.slice Ao17 t396.length co17)) (fun _ hk => hk.2) (.slice Ao20 t399.length co20)) (fun _ hk => hk.2) (.int .i64 a0_3)) (fun _ hk => hk.2) (.slice Ao24 t402.length co24)) (fun _ hk => hk.2) (.slice Ao28 t405.length co28)) (fun _ hk => hk.2) (.slice Ao32 t408.length co32)) (fun _ hk => hk.2) (.int .i64 t411)) (fun _ hk => trivial), by (with_reducible repeat (first | apply Kd.S_alloc | apply Kd.S_drewN | apply Kd.S_drew)); exact Kd.S_mono (Kd.S_far (p := ⟨gb391, 7, none⟩) (Kd.S_far (p := ⟨gb391, 6, none⟩) (Kd.S_far (p := ⟨gb391, 5, none⟩) (Kd.S_far (p := ⟨gb391, 4, none⟩) (Kd.S_far (p := ⟨gb391, 3, none⟩) (Kd.S_far (p := ⟨gb391, 2, none⟩) (Kd.S_far (p := ⟨gb391, 1, none⟩) (Kd.S_far (p := ⟨gb391, 0, none⟩) (Kd.S_far (p := ⟨gb392, 7, none⟩) (Kd.S_far (p := ⟨gb392, 6, none⟩) (Kd.S_types (Kd.S_types HO404.out BK392.out (by decide)) BK391.out (by decide)) (fun _ hk => hk.1.2) (.slice Ao32 t408.length co32)) (fun _ hk => hk.1.2) (.int .i64 t411)) (fun _ hk => hk.2) (.slice Ao14 t393.length co14)) (fun _ hk => hk.2) (.slice Ao17 t396.length co17)) (fun _ hk => hk.2) (.slice Ao20 t399.length co20)) (fun _ hk => hk.2) (.int .i64 a0_3)) (fun _ hk => hk.2) (.slice Ao24 t402.length co24)) (fun _ hk => hk.2) (.slice Ao28 t405.length co28)) (fun _ hk => hk.2) (.slice Ao32 t408.length co32)) (fun _ hk => hk.2) (.int .i64 t411)) (fun _ hk => ⟨hk.1.1.1.2, hk.1.1.2⟩), by (with_reducible repeat (first | apply Kd.R_alloc | apply Kd.R_drewN | apply Kd.R_drew)); exact Kd.R_mono (Kd.R_far (p := ⟨gb391, 7, none⟩) (Kd.R_far (p := ⟨gb391, 6, none⟩) (Kd.R_far (p := ⟨gb391, 5, none⟩) (Kd.R_far (p := ⟨gb391, 4, none⟩) (Kd.R_far (p := ⟨gb391, 3, none⟩) (Kd.R_far (p := ⟨gb391, 2, none⟩) (Kd.R_far (p := ⟨gb391, 1, none⟩) (Kd.R_far (p := ⟨gb391, 0, none⟩) (Kd.R_far (p := ⟨gb392, 7, none⟩) (Kd.R_far (p := ⟨gb392, 6, none⟩) (Kd.R_types (Kd.R_types HO407.out BK392.out (by decide)) BK391.out (by decide)) (fun _ hk => hk.1.2) (.slice Ao32 t408.length co32)) (fun _ hk => hk.1.2) (.int .i64 t411)) (fun _ hk => hk.2) (.slice Ao14 t393.length co14)) (fun _ hk => hk.2) (.slice Ao17 t396.length co17)) (fun _ hk => hk.2) (.slice Ao20 t399.length co20)) (fun _ hk => hk.2) (.int .i64 a0_3)) (fun _ hk => hk.2) (.slice Ao24 t402.length co24)) (fun _ hk => hk.2) (.slice Ao28 t405.length co28)) (fun _ hk => hk.2) (.slice Ao32 t408.length co32)) (fun _ hk => hk.2) (.int .i64 t411)) (fun _ hk => hk.1.1.2), by (with_reducible repeat (first | apply Kd.R_alloc | apply Kd.R_drewN | apply Kd.R_drew)); exact Kd.R_mono (Kd.R_far (p := ⟨gb391, 7, none⟩) (Kd.R_far (p := ⟨gb391, 6, none⟩) (Kd.R_far (p := ⟨gb391, 5, none⟩) (Kd.R_far (p := ⟨gb391, 4, none⟩) (Kd.R_far (p := ⟨gb391, 3, none⟩) (Kd.R_far (p := ⟨gb391, 2, none⟩) (Kd.R_far (p := ⟨gb391, 1, none⟩) (Kd.R_far (p := ⟨gb391, 0, none⟩) (Kd.R_far (p := ⟨gb392, 7, none⟩) (Kd.R_far (p := ⟨gb392, 6, none⟩) (Kd.R_types (Kd.R_types HO410.out BK392.out (by decide)) BK391.out (by decide)) (fun _ hk => hk.1.2) (.slice Ao32 t408.length co32)) (fun _ hk => hk.1.2) (.int .i64 t411)) (fun _ hk => hk.2) (.slice Ao14 t393.length co14)) (fun _ hk => hk.2) (.slice Ao17 t396.length co17)) (fun _ hk => hk.2) (.slice Ao20 t399.length co20)) (fun _ hk => hk.2) (.int .i64 a0_3)) (fun _ hk => hk.2) (.slice Ao24 t402.length co24)) (fun _ hk => hk.2) (.slice Ao28 t405.length co28)) (fun _ hk => hk.2) (.slice Ao32 t408.length co32)) (fun _ hk => hk.2) (.int .i64 t411)) (fun _ hk => hk.1.1.2), tb HB⟩
def laws_eqMachine.f (k : Nat) (l0_0 : List (S39)) (l0_1 : List (S52)) (l0_2 : List (S82)) (a0_3 : Int) (l0_4 : List (S134)) (l0_5 : List Int) (l0_6 : List Int) (a0_7 : Int) (l1_0 : List (S39)) (l1_1 : List (S52)) (l1_2 : List (S82)) (a1_3 : Int) (l1_4 : List (S134)) (l1_5 : List Int) (l1_6 : List Int) (a1_7 : Int) : Option (Bool) := (laws_eqMem.f k l0_0 l0_1 l1_0 l1_1).bind fun t570 => (if t570 = true then ((laws_eqThreadS.f k l0_2 l1_2).bind fun t571 => (if t571 = true then (if a0_3 = a1_3 then ((laws_eqCallS.f k l0_4 l1_4).bind fun t572 => (if t572 = true then ((laws_eqIntS.f k l0_5 l1_5).bind fun t573 => (if t573 = true then ((laws_eqRows.f k l0_6 a0_7 l1_6 a1_7).bind fun t574 => (if t574 = true then (some true) else (some false))) else (some false))) else (some false))) else (some false)) else (some false))) else (some false))
set_option maxHeartbeats 8000000 in
set_option maxRecDepth 100000 in
theorem laws_eqMachine.calls (k : Nat) (A0_0 : Option Addr) (c0_0 : Nat) (l0_0 : List (S39)) (A0_1 : Option Addr) (c0_1 : Nat) (l0_1 : List (S52)) (A0_2 : Option Addr) (c0_2 : Nat) (l0_2 : List (S82)) (a0_3 : Int) (A0_4 : Option Addr) (c0_4 : Nat) (l0_4 : List (S134)) (A0_5 : Option Addr) (c0_5 : Nat) (l0_5 : List Int) (A0_6 : Option Addr) (c0_6 : Nat) (l0_6 : List Int) (a0_7 : Int) (A1_0 : Option Addr) (c1_0 : Nat) (l1_0 : List (S39)) (A1_1 : Option Addr) (c1_1 : Nat) (l1_1 : List (S52)) (A1_2 : Option Addr) (c1_2 : Nat) (l1_2 : List (S82)) (a1_3 : Int) (A1_4 : Option Addr) (c1_4 : Nat) (l1_4 : List (S134)) (A1_5 : Option Addr) (c1_5 : Nat) (l1_5 : List Int) (A1_6 : Option Addr) (c1_6 : Nat) (l1_6 : List Int) (a1_7 : Int) (r : Bool) (w : World) (hr0_0 : Kd.C k39 w A0_0 l0_0.length l0_0) (hc0_0 : l0_0.length ≤ c0_0) (hr0_1 : Kd.C k52 w A0_1 l0_1.length l0_1) (hc0_1 : l0_1.length ≤ c0_1) (hr0_2 : Kd.C k82 w A0_2 l0_2.length l0_2) (hc0_2 : l0_2.length ≤ c0_2) (hr0_4 : Kd.C k134 w A0_4 l0_4.length l0_4) (hc0_4 : l0_4.length ≤ c0_4) (hr0_5 : Kd.C (Kd.int .i64) w A0_5 l0_5.length l0_5) (hc0_5 : l0_5.length ≤ c0_5) (hr0_6 : Kd.C (Kd.int .i64) w A0_6 l0_6.length l0_6) (hc0_6 : l0_6.length ≤ c0_6) (hr1_0 : Kd.C k39 w A1_0 l1_0.length l1_0) (hc1_0 : l1_0.length ≤ c1_0) (hr1_1 : Kd.C k52 w A1_1 l1_1.length l1_1) (hc1_1 : l1_1.length ≤ c1_1) (hr1_2 : Kd.C k82 w A1_2 l1_2.length l1_2) (hc1_2 : l1_2.length ≤ c1_2) (hr1_4 : Kd.C k134 w A1_4 l1_4.length l1_4) (hc1_4 : l1_4.length ≤ c1_4) (hr1_5 : Kd.C (Kd.int .i64) w A1_5 l1_5.length l1_5) (hc1_5 : l1_5.length ≤ c1_5) (hr1_6 : Kd.C (Kd.int .i64) w A1_6 l1_6.length l1_6) (hc1_6 : l1_6.length ≤ c1_6) (h : laws_eqMachine.f k l0_0 l0_1 l0_2 a0_3 l0_4 l0_5 l0_6 a0_7 l1_0 l1_1 l1_2 a1_3 l1_4 l1_5 l1_6 a1_7 = some r) :
  Calls Tryz.prog 28 #[.agg #[.slice A0_0 l0_0.length c0_0, .slice A0_1 l0_1.length c0_1, .slice A0_2 l0_2.length c0_2, .int .i64 a0_3, .slice A0_4 l0_4.length c0_4, .slice A0_5 l0_5.length c0_5, .slice A0_6 l0_6.length c0_6, .int .i64 a0_7], .agg #[.slice A1_0 l1_0.length c1_0, .slice A1_1 l1_1.length c1_1, .slice A1_2 l1_2.length c1_2, .int .i64 a1_3, .slice A1_4 l1_4.length c1_4, .slice A1_5 l1_5.length c1_5, .slice A1_6 l1_6.length c1_6, .int .i64 a1_7]] w fun e w' => e = .returned (.bool r) ∧ Below w.heap.size w w' := by
 have hu75 := Tryz.underlying75
 have hu27 := Tryz.underlying27
 have hu73 := Tryz.underlying73
 have HR0_0 := Aside0.mk hr0_0
 have HC0_0 := Aside0.mk hc0_0
 clear hr0_0 hc0_0
 have HR0_1 := Aside0.mk hr0_1
 have HC0_1 := Aside0.mk hc0_1
 clear hr0_1 hc0_1
 have HR0_2 := Aside0.mk hr0_2
 have HC0_2 := Aside0.mk hc0_2
 clear hr0_2 hc0_2
 have HR0_4 := Aside0.mk hr0_4
 have HC0_4 := Aside0.mk hc0_4
 clear hr0_4 hc0_4
 have HR0_5 := Aside0.mk hr0_5
 have HC0_5 := Aside0.mk hc0_5
 clear hr0_5 hc0_5
 have HR0_6 := Aside0.mk hr0_6
 have HC0_6 := Aside0.mk hc0_6
 clear hr0_6 hc0_6
 have HR1_0 := Aside0.mk hr1_0
 have HC1_0 := Aside0.mk hc1_0
 clear hr1_0 hc1_0
 have HR1_1 := Aside0.mk hr1_1
 have HC1_1 := Aside0.mk hc1_1
 clear hr1_1 hc1_1
 have HR1_2 := Aside0.mk hr1_2
 have HC1_2 := Aside0.mk hc1_2
 clear hr1_2 hc1_2
 have HR1_4 := Aside0.mk hr1_4
 have HC1_4 := Aside0.mk hc1_4
 clear hr1_4 hc1_4
 have HR1_5 := Aside0.mk hr1_5
 have HC1_5 := Aside0.mk hc1_5
 clear hr1_5 hc1_5
 have HR1_6 := Aside0.mk hr1_6
 have HC1_6 := Aside0.mk hc1_6
 clear hr1_6 hc1_6
 have HB := Aside0.mk (Below.refl w.heap.size w)
 have H := h
 clear h
 unfold laws_eqMachine.f at H
 obtain ⟨t570, A3, H⟩ := bn H
 try dsimp only at H
 cases t570
 case false =>
  replace H := ipf H
  obtain rfl := oin H
  go_enter Tryz.func28, Tryz.ntmps28
  go_wp2_with (first | ((with_reducible refine gq 2 rfl ?_); refine bx0 HB (N := 2) (t := 75) ?_; clear HB; intro gb568 w90 BK568 GE568 HB) | ((with_reducible refine gq 3 rfl ?_); refine bx1 HB BK568 (N := 3) (t := 75) ?_; clear HB BK568; intro gb569 w91 BK569 GE569 HB NB568_569 NB569_568 BK568; have hnb92 := NB568_569.out; have hnc92 := NB569_568.out; have hz93 := cs8_ BK568; have hz94 := cs8_ BK569) | ((with_reducible refine gf 98 rfl ?_); refine gL 9 Tryz.func98 #[.agg #[.slice A0_0 l0_0.length c0_0, .slice A0_1 l0_1.length c0_1], .agg #[.slice A1_0 l1_0.length c1_0, .slice A1_1 l1_1.length c1_1]] ?_; (with_reducible refine (laws_eqMem.calls k _ _ l0_0 _ _ l0_1 _ _ l1_0 _ _ l1_1 false _ (kc HR0_0 HB) HC0_0.out (kc HR0_1 HB) HC0_1.out (kc HR1_0 HB) HC1_0.out (kc HR1_1 HB) HC1_1.out A3.out).mono ?_); rintro e w95 ⟨rfl, hb⟩; refine ⟨_, rfl, ?_⟩; replace BK568 := bb BK568 hb; replace BK569 := bb BK569 hb; replace HB := bs HB hb; (try clear hb)))
  go_ret
  exact ⟨er, tb HB⟩
 replace H := ipt H
 obtain ⟨t571, A5, H⟩ := bn H
 try dsimp only at H
 cases t571
 case false =>
  replace H := ipf H
  obtain rfl := oin H
  go_enter Tryz.func28, Tryz.ntmps28
  go_wp2_with (first | ((with_reducible refine gq 2 rfl ?_); refine bx0 HB (N := 2) (t := 75) ?_; clear HB; intro gb568 w81 BK568 GE568 HB) | ((with_reducible refine gq 3 rfl ?_); refine bx1 HB BK568 (N := 3) (t := 75) ?_; clear HB BK568; intro gb569 w82 BK569 GE569 HB NB568_569 NB569_568 BK568; have hnb83 := NB568_569.out; have hnc83 := NB569_568.out; have hz84 := cs8_ BK568; have hz85 := cs8_ BK569) | ((with_reducible refine gf 98 rfl ?_); refine gL 9 Tryz.func98 #[.agg #[.slice A0_0 l0_0.length c0_0, .slice A0_1 l0_1.length c0_1], .agg #[.slice A1_0 l1_0.length c1_0, .slice A1_1 l1_1.length c1_1]] ?_; (with_reducible refine (laws_eqMem.calls k _ _ l0_0 _ _ l0_1 _ _ l1_0 _ _ l1_1 true _ (kc HR0_0 HB) HC0_0.out (kc HR0_1 HB) HC0_1.out (kc HR1_0 HB) HC1_0.out (kc HR1_1 HB) HC1_1.out A3.out).mono ?_); rintro e w86 ⟨rfl, hb⟩; refine ⟨_, rfl, ?_⟩; replace BK568 := bb BK568 hb; replace BK569 := bb BK569 hb; replace HB := bs HB hb; (try clear hb); have hz87 := cs8_ BK568; have hz88 := cs8_ BK569) | ((with_reducible refine gf 99 rfl ?_); refine gL 15 Tryz.func99 #[.slice A0_2 l0_2.length c0_2, .slice A1_2 l1_2.length c1_2] ?_; (with_reducible refine (laws_eqThreadS.calls k _ _ l0_2 _ _ l1_2 false _ (kc HR0_2 HB) HC0_2.out (kc HR1_2 HB) HC1_2.out A5.out).mono ?_); rintro e w89 ⟨rfl, hb⟩; refine ⟨_, rfl, ?_⟩; replace BK568 := bb BK568 hb; replace BK569 := bb BK569 hb; replace HB := bs HB hb; (try clear hb)))
  go_ret
  exact ⟨er, tb HB⟩
 replace H := ipt H
 by_cases c7 : a0_3 = a1_3
 case neg =>
  rw [if_neg c7] at H
  have c7b0 : (a0_3 == a1_3) = false := beq_eq_false_iff_ne.mpr c7
  have c7b1 : (a0_3 != a1_3) = true := bne_iff_ne.mpr c7
  obtain rfl := oin H
  go_enter Tryz.func28, Tryz.ntmps28
  go_wp2_with (first | ((with_reducible refine gq 2 rfl ?_); refine bx0 HB (N := 2) (t := 75) ?_; clear HB; intro gb568 w70 BK568 GE568 HB) | ((with_reducible refine gq 3 rfl ?_); refine bx1 HB BK568 (N := 3) (t := 75) ?_; clear HB BK568; intro gb569 w71 BK569 GE569 HB NB568_569 NB569_568 BK568; have hnb72 := NB568_569.out; have hnc72 := NB569_568.out; have hz73 := cs8_ BK568; have hz74 := cs8_ BK569) | ((with_reducible refine gf 98 rfl ?_); refine gL 9 Tryz.func98 #[.agg #[.slice A0_0 l0_0.length c0_0, .slice A0_1 l0_1.length c0_1], .agg #[.slice A1_0 l1_0.length c1_0, .slice A1_1 l1_1.length c1_1]] ?_; (with_reducible refine (laws_eqMem.calls k _ _ l0_0 _ _ l0_1 _ _ l1_0 _ _ l1_1 true _ (kc HR0_0 HB) HC0_0.out (kc HR0_1 HB) HC0_1.out (kc HR1_0 HB) HC1_0.out (kc HR1_1 HB) HC1_1.out A3.out).mono ?_); rintro e w75 ⟨rfl, hb⟩; refine ⟨_, rfl, ?_⟩; replace BK568 := bb BK568 hb; replace BK569 := bb BK569 hb; replace HB := bs HB hb; (try clear hb); have hz76 := cs8_ BK568; have hz77 := cs8_ BK569) | ((with_reducible refine gf 99 rfl ?_); refine gL 15 Tryz.func99 #[.slice A0_2 l0_2.length c0_2, .slice A1_2 l1_2.length c1_2] ?_; (with_reducible refine (laws_eqThreadS.calls k _ _ l0_2 _ _ l1_2 true _ (kc HR0_2 HB) HC0_2.out (kc HR1_2 HB) HC1_2.out A5.out).mono ?_); rintro e w78 ⟨rfl, hb⟩; refine ⟨_, rfl, ?_⟩; replace BK568 := bb BK568 hb; replace BK569 := bb BK569 hb; replace HB := bs HB hb; (try clear hb); have hz79 := cs8_ BK568; have hz80 := cs8_ BK569))
  go_ret
  exact ⟨er, tb HB⟩
 rw [if_pos c7] at H
 have c7b0 : (a0_3 == a1_3) = true := beq_iff_eq.mpr c7
 have c7b1 : (a0_3 != a1_3) = false := bne_eq_false_iff_eq.mpr c7
 clear c7
 obtain ⟨t572, A8, H⟩ := bn H
 try dsimp only at H
 cases t572
 case false =>
  replace H := ipf H
  obtain rfl := oin H
  go_enter Tryz.func28, Tryz.ntmps28
  go_wp2_with (first | ((with_reducible refine gq 2 rfl ?_); refine bx0 HB (N := 2) (t := 75) ?_; clear HB; intro gb568 w58 BK568 GE568 HB) | ((with_reducible refine gq 3 rfl ?_); refine bx1 HB BK568 (N := 3) (t := 75) ?_; clear HB BK568; intro gb569 w59 BK569 GE569 HB NB568_569 NB569_568 BK568; have hnb60 := NB568_569.out; have hnc60 := NB569_568.out; have hz61 := cs8_ BK568; have hz62 := cs8_ BK569) | ((with_reducible refine gf 98 rfl ?_); refine gL 9 Tryz.func98 #[.agg #[.slice A0_0 l0_0.length c0_0, .slice A0_1 l0_1.length c0_1], .agg #[.slice A1_0 l1_0.length c1_0, .slice A1_1 l1_1.length c1_1]] ?_; (with_reducible refine (laws_eqMem.calls k _ _ l0_0 _ _ l0_1 _ _ l1_0 _ _ l1_1 true _ (kc HR0_0 HB) HC0_0.out (kc HR0_1 HB) HC0_1.out (kc HR1_0 HB) HC1_0.out (kc HR1_1 HB) HC1_1.out A3.out).mono ?_); rintro e w63 ⟨rfl, hb⟩; refine ⟨_, rfl, ?_⟩; replace BK568 := bb BK568 hb; replace BK569 := bb BK569 hb; replace HB := bs HB hb; (try clear hb); have hz64 := cs8_ BK568; have hz65 := cs8_ BK569) | ((with_reducible refine gf 99 rfl ?_); refine gL 15 Tryz.func99 #[.slice A0_2 l0_2.length c0_2, .slice A1_2 l1_2.length c1_2] ?_; (with_reducible refine (laws_eqThreadS.calls k _ _ l0_2 _ _ l1_2 true _ (kc HR0_2 HB) HC0_2.out (kc HR1_2 HB) HC1_2.out A5.out).mono ?_); rintro e w66 ⟨rfl, hb⟩; refine ⟨_, rfl, ?_⟩; replace BK568 := bb BK568 hb; replace BK569 := bb BK569 hb; replace HB := bs HB hb; (try clear hb); have hz67 := cs8_ BK568; have hz68 := cs8_ BK569) | ((with_reducible refine gf 100 rfl ?_); refine gL 26 Tryz.func100 #[.slice A0_4 l0_4.length c0_4, .slice A1_4 l1_4.length c1_4] ?_; (with_reducible refine (laws_eqCallS.calls k _ _ l0_4 _ _ l1_4 false _ (kc HR0_4 HB) HC0_4.out (kc HR1_4 HB) HC1_4.out A8.out).mono ?_); rintro e w69 ⟨rfl, hb⟩; refine ⟨_, rfl, ?_⟩; replace BK568 := bb BK568 hb; replace BK569 := bb BK569 hb; replace HB := bs HB hb; (try clear hb)))
  go_ret
  exact ⟨er, tb HB⟩
 replace H := ipt H
 obtain ⟨t573, A10, H⟩ := bn H
 try dsimp only at H
 cases t573
 case false =>
  replace H := ipf H
  obtain rfl := oin H
  go_enter Tryz.func28, Tryz.ntmps28
  go_wp2_with (first | ((with_reducible refine gq 2 rfl ?_); refine bx0 HB (N := 2) (t := 75) ?_; clear HB; intro gb568 w44 BK568 GE568 HB) | ((with_reducible refine gq 3 rfl ?_); refine bx1 HB BK568 (N := 3) (t := 75) ?_; clear HB BK568; intro gb569 w45 BK569 GE569 HB NB568_569 NB569_568 BK568; have hnb46 := NB568_569.out; have hnc46 := NB569_568.out; have hz47 := cs8_ BK568; have hz48 := cs8_ BK569) | ((with_reducible refine gf 98 rfl ?_); refine gL 9 Tryz.func98 #[.agg #[.slice A0_0 l0_0.length c0_0, .slice A0_1 l0_1.length c0_1], .agg #[.slice A1_0 l1_0.length c1_0, .slice A1_1 l1_1.length c1_1]] ?_; (with_reducible refine (laws_eqMem.calls k _ _ l0_0 _ _ l0_1 _ _ l1_0 _ _ l1_1 true _ (kc HR0_0 HB) HC0_0.out (kc HR0_1 HB) HC0_1.out (kc HR1_0 HB) HC1_0.out (kc HR1_1 HB) HC1_1.out A3.out).mono ?_); rintro e w49 ⟨rfl, hb⟩; refine ⟨_, rfl, ?_⟩; replace BK568 := bb BK568 hb; replace BK569 := bb BK569 hb; replace HB := bs HB hb; (try clear hb); have hz50 := cs8_ BK568; have hz51 := cs8_ BK569) | ((with_reducible refine gf 99 rfl ?_); refine gL 15 Tryz.func99 #[.slice A0_2 l0_2.length c0_2, .slice A1_2 l1_2.length c1_2] ?_; (with_reducible refine (laws_eqThreadS.calls k _ _ l0_2 _ _ l1_2 true _ (kc HR0_2 HB) HC0_2.out (kc HR1_2 HB) HC1_2.out A5.out).mono ?_); rintro e w52 ⟨rfl, hb⟩; refine ⟨_, rfl, ?_⟩; replace BK568 := bb BK568 hb; replace BK569 := bb BK569 hb; replace HB := bs HB hb; (try clear hb); have hz53 := cs8_ BK568; have hz54 := cs8_ BK569) | ((with_reducible refine gf 100 rfl ?_); refine gL 26 Tryz.func100 #[.slice A0_4 l0_4.length c0_4, .slice A1_4 l1_4.length c1_4] ?_; (with_reducible refine (laws_eqCallS.calls k _ _ l0_4 _ _ l1_4 true _ (kc HR0_4 HB) HC0_4.out (kc HR1_4 HB) HC1_4.out A8.out).mono ?_); rintro e w55 ⟨rfl, hb⟩; refine ⟨_, rfl, ?_⟩; replace BK568 := bb BK568 hb; replace BK569 := bb BK569 hb; replace HB := bs HB hb; (try clear hb); have hz56 := cs8_ BK568; have hz57 := cs8_ BK569) | ((with_reducible refine gf 101 rfl ?_); refine gL 32 Tryz.func101 #[.slice A0_5 l0_5.length c0_5, .slice A1_5 l1_5.length c1_5] ?_; (with_reducible refine (laws_eqIntS.calls k _ _ l0_5 _ _ l1_5 false _ (kc HR0_5 HB) HC0_5.out (kc HR1_5 HB) HC1_5.out A10.out).mono ?_); rintro e w' ⟨rfl, ⟨nd, rfl⟩⟩; refine ⟨_, rfl, ?_⟩))
  go_ret
  exact ⟨er, tb HB⟩
 replace H := ipt H
 obtain ⟨t574, A12, H⟩ := bn H
 try dsimp only at H
 cases t574
 case true =>
  replace H := ipt H
  obtain rfl := oin H
  go_enter Tryz.func28, Tryz.ntmps28
  go_wp2_with (first | ((with_reducible refine gq 2 rfl ?_); refine bx0 HB (N := 2) (t := 75) ?_; clear HB; intro gb568 w14 BK568 GE568 HB) | ((with_reducible refine gq 3 rfl ?_); refine bx1 HB BK568 (N := 3) (t := 75) ?_; clear HB BK568; intro gb569 w15 BK569 GE569 HB NB568_569 NB569_568 BK568; have hnb16 := NB568_569.out; have hnc16 := NB569_568.out; have hz17 := cs8_ BK568; have hz18 := cs8_ BK569) | ((with_reducible refine gf 98 rfl ?_); refine gL 9 Tryz.func98 #[.agg #[.slice A0_0 l0_0.length c0_0, .slice A0_1 l0_1.length c0_1], .agg #[.slice A1_0 l1_0.length c1_0, .slice A1_1 l1_1.length c1_1]] ?_; (with_reducible refine (laws_eqMem.calls k _ _ l0_0 _ _ l0_1 _ _ l1_0 _ _ l1_1 true _ (kc HR0_0 HB) HC0_0.out (kc HR0_1 HB) HC0_1.out (kc HR1_0 HB) HC1_0.out (kc HR1_1 HB) HC1_1.out A3.out).mono ?_); rintro e w19 ⟨rfl, hb⟩; refine ⟨_, rfl, ?_⟩; replace BK568 := bb BK568 hb; replace BK569 := bb BK569 hb; replace HB := bs HB hb; (try clear hb); have hz20 := cs8_ BK568; have hz21 := cs8_ BK569) | ((with_reducible refine gf 99 rfl ?_); refine gL 15 Tryz.func99 #[.slice A0_2 l0_2.length c0_2, .slice A1_2 l1_2.length c1_2] ?_; (with_reducible refine (laws_eqThreadS.calls k _ _ l0_2 _ _ l1_2 true _ (kc HR0_2 HB) HC0_2.out (kc HR1_2 HB) HC1_2.out A5.out).mono ?_); rintro e w22 ⟨rfl, hb⟩; refine ⟨_, rfl, ?_⟩; replace BK568 := bb BK568 hb; replace BK569 := bb BK569 hb; replace HB := bs HB hb; (try clear hb); have hz23 := cs8_ BK568; have hz24 := cs8_ BK569) | ((with_reducible refine gf 100 rfl ?_); refine gL 26 Tryz.func100 #[.slice A0_4 l0_4.length c0_4, .slice A1_4 l1_4.length c1_4] ?_; (with_reducible refine (laws_eqCallS.calls k _ _ l0_4 _ _ l1_4 true _ (kc HR0_4 HB) HC0_4.out (kc HR1_4 HB) HC1_4.out A8.out).mono ?_); rintro e w25 ⟨rfl, hb⟩; refine ⟨_, rfl, ?_⟩; replace BK568 := bb BK568 hb; replace BK569 := bb BK569 hb; replace HB := bs HB hb; (try clear hb); have hz26 := cs8_ BK568; have hz27 := cs8_ BK569) | ((with_reducible refine gf 101 rfl ?_); refine gL 32 Tryz.func101 #[.slice A0_5 l0_5.length c0_5, .slice A1_5 l1_5.length c1_5] ?_; (with_reducible refine (laws_eqIntS.calls k _ _ l0_5 _ _ l1_5 true _ (kc HR0_5 HB) HC0_5.out (kc HR1_5 HB) HC1_5.out A10.out).mono ?_); rintro e w' ⟨rfl, ⟨nd, rfl⟩⟩; refine ⟨_, rfl, ?_⟩) | ((with_reducible refine gf 102 rfl ?_); refine gL 38 Tryz.func102 #[.agg #[.slice A0_6 l0_6.length c0_6, .int .i64 a0_7], .agg #[.slice A1_6 l1_6.length c1_6, .int .i64 a1_7]] ?_; (with_reducible refine (laws_eqRows.calls k _ _ l0_6 a0_7 _ _ l1_6 a1_7 true _ ?side1 HC0_6.out ?side3 ?side4 A12.out).mono ?_); (case side1 => repeat (first | exact (Kd.C_below HR0_6.out (tb HB)) | (with_reducible refine Kd.C_alloc ?_ _) | (with_reducible refine Kd.C_drewN ?_ _) | (with_reducible refine Kd.C_drew ?_))); (case side3 => repeat (first | exact (Kd.C_below HR1_6.out (tb HB)) | (with_reducible refine Kd.C_alloc ?_ _) | (with_reducible refine Kd.C_drewN ?_ _) | (with_reducible refine Kd.C_drew ?_))); (case side4 => exact HC1_6.out); rintro e w28 ⟨rfl, hb⟩; refine ⟨_, rfl, ?_⟩; replace BK568 := bb BK568 hb; replace BK569 := bb BK569 hb; replace HB := bs HB hb; (try clear hb)))
  go_ret
  exact ⟨er, tb HB⟩
 replace H := ipf H
 obtain rfl := oin H
 go_enter Tryz.func28, Tryz.ntmps28
 go_wp2_with (first | ((with_reducible refine gq 2 rfl ?_); refine bx0 HB (N := 2) (t := 75) ?_; clear HB; intro gb568 w29 BK568 GE568 HB) | ((with_reducible refine gq 3 rfl ?_); refine bx1 HB BK568 (N := 3) (t := 75) ?_; clear HB BK568; intro gb569 w30 BK569 GE569 HB NB568_569 NB569_568 BK568; have hnb31 := NB568_569.out; have hnc31 := NB569_568.out; have hz32 := cs8_ BK568; have hz33 := cs8_ BK569) | ((with_reducible refine gf 98 rfl ?_); refine gL 9 Tryz.func98 #[.agg #[.slice A0_0 l0_0.length c0_0, .slice A0_1 l0_1.length c0_1], .agg #[.slice A1_0 l1_0.length c1_0, .slice A1_1 l1_1.length c1_1]] ?_; (with_reducible refine (laws_eqMem.calls k _ _ l0_0 _ _ l0_1 _ _ l1_0 _ _ l1_1 true _ (kc HR0_0 HB) HC0_0.out (kc HR0_1 HB) HC0_1.out (kc HR1_0 HB) HC1_0.out (kc HR1_1 HB) HC1_1.out A3.out).mono ?_); rintro e w34 ⟨rfl, hb⟩; refine ⟨_, rfl, ?_⟩; replace BK568 := bb BK568 hb; replace BK569 := bb BK569 hb; replace HB := bs HB hb; (try clear hb); have hz35 := cs8_ BK568; have hz36 := cs8_ BK569) | ((with_reducible refine gf 99 rfl ?_); refine gL 15 Tryz.func99 #[.slice A0_2 l0_2.length c0_2, .slice A1_2 l1_2.length c1_2] ?_; (with_reducible refine (laws_eqThreadS.calls k _ _ l0_2 _ _ l1_2 true _ (kc HR0_2 HB) HC0_2.out (kc HR1_2 HB) HC1_2.out A5.out).mono ?_); rintro e w37 ⟨rfl, hb⟩; refine ⟨_, rfl, ?_⟩; replace BK568 := bb BK568 hb; replace BK569 := bb BK569 hb; replace HB := bs HB hb; (try clear hb); have hz38 := cs8_ BK568; have hz39 := cs8_ BK569) | ((with_reducible refine gf 100 rfl ?_); refine gL 26 Tryz.func100 #[.slice A0_4 l0_4.length c0_4, .slice A1_4 l1_4.length c1_4] ?_; (with_reducible refine (laws_eqCallS.calls k _ _ l0_4 _ _ l1_4 true _ (kc HR0_4 HB) HC0_4.out (kc HR1_4 HB) HC1_4.out A8.out).mono ?_); rintro e w40 ⟨rfl, hb⟩; refine ⟨_, rfl, ?_⟩; replace BK568 := bb BK568 hb; replace BK569 := bb BK569 hb; replace HB := bs HB hb; (try clear hb); have hz41 := cs8_ BK568; have hz42 := cs8_ BK569) | ((with_reducible refine gf 101 rfl ?_); refine gL 32 Tryz.func101 #[.slice A0_5 l0_5.length c0_5, .slice A1_5 l1_5.length c1_5] ?_; (with_reducible refine (laws_eqIntS.calls k _ _ l0_5 _ _ l1_5 true _ (kc HR0_5 HB) HC0_5.out (kc HR1_5 HB) HC1_5.out A10.out).mono ?_); rintro e w' ⟨rfl, ⟨nd, rfl⟩⟩; refine ⟨_, rfl, ?_⟩) | ((with_reducible refine gf 102 rfl ?_); refine gL 38 Tryz.func102 #[.agg #[.slice A0_6 l0_6.length c0_6, .int .i64 a0_7], .agg #[.slice A1_6 l1_6.length c1_6, .int .i64 a1_7]] ?_; (with_reducible refine (laws_eqRows.calls k _ _ l0_6 a0_7 _ _ l1_6 a1_7 false _ ?side1 HC0_6.out ?side3 ?side4 A12.out).mono ?_); (case side1 => repeat (first | exact (Kd.C_below HR0_6.out (tb HB)) | (with_reducible refine Kd.C_alloc ?_ _) | (with_reducible refine Kd.C_drewN ?_ _) | (with_reducible refine Kd.C_drew ?_))); (case side3 => repeat (first | exact (Kd.C_below HR1_6.out (tb HB)) | (with_reducible refine Kd.C_alloc ?_ _) | (with_reducible refine Kd.C_drewN ?_ _) | (with_reducible refine Kd.C_drew ?_))); (case side4 => exact HC1_6.out); rintro e w43 ⟨rfl, hb⟩; refine ⟨_, rfl, ?_⟩; replace BK568 := bb BK568 hb; replace BK569 := bb BK569 hb; replace HB := bs HB hb; (try clear hb)))
 go_ret
 exact ⟨er, tb HB⟩
mutual
def spec_MachineOk.j0 : Nat → Bool → List (S39) → List (S52) → List (S82) → Int → List (S134) → List Int → List Int → Int → Option (Bool)
 | 0, _, _, _, _, _, _, _, _, _ => none
 | k + 1, x34, x224000, x224001, x224002, x224003, x224004, x224005, x224006, x224007 => if x34 = true then (some false) else (spec_MachineOk.l0 k 0 x224000 x224001 x224002 x224003 x224004 x224005 x224006 x224007)
def spec_MachineOk.l0 : Nat → Int → List (S39) → List (S52) → List (S82) → Int → List (S134) → List Int → List Int → Int → Option (Bool)
 | 0, _, _, _, _, _, _, _, _, _ => none
 | k + 1, x3, x224000, x224001, x224002, x224003, x224004, x224005, x224006, x224007 => if x3 < (x224002.length : Int) then (if 0 ≤ x3 then ((spec_ThreadOk.f k ((rd_T82 x224002 x3).f0) ((rd_T82 x224002 x3).f1) ((rd_T82 x224002 x3).f2) ((rd_T82 x224002 x3).f3) ((rd_T82 x224002 x3).f4) (x224002.length : Int)).bind fun t229 => (if t229 = true then ((spec_l9Thread.f k x224000 x224001 x224002 x224003 x224004 x224005 x224006 x224007 x3).bind fun t230 => (if t230 = true then (spec_MachineOk.l0 k (wrap64 (x3 + 1)) x224000 x224001 x224002 x224003 x224004 x224005 x224006 x224007) else (some false))) else (some false))) else (none)) else (some true)
end
def spec_MachineOk.f (k : Nat) (l0_0 : List (S39)) (l0_1 : List (S52)) (l0_2 : List (S82)) (a0_3 : Int) (l0_4 : List (S134)) (l0_5 : List Int) (l0_6 : List Int) (a0_7 : Int) : Option (Bool) := (spec_MemOk.f k l0_0 l0_1).bind fun t224 => (if t224 = true then (if (l0_1.length : Int) = (l0_2.length : Int) then ((spec_l1In.f a0_3 0 100000).bind fun t225 => (if t225 = true then ((spec_RowsOk.f k l0_6 a0_7).bind fun t226 => (if t226 = true then ((spec_l9Calls.f k l0_0 l0_1 l0_2 a0_3 l0_4 l0_5 l0_6 a0_7).bind fun t227 => (spec_MachineOk.j0 k (!t227) l0_0 l0_1 l0_2 a0_3 l0_4 l0_5 l0_6 a0_7)) else (spec_MachineOk.j0 k true l0_0 l0_1 l0_2 a0_3 l0_4 l0_5 l0_6 a0_7))) else (spec_MachineOk.j0 k true l0_0 l0_1 l0_2 a0_3 l0_4 l0_5 l0_6 a0_7))) else (spec_MachineOk.j0 k true l0_0 l0_1 l0_2 a0_3 l0_4 l0_5 l0_6 a0_7)) else (spec_MachineOk.j0 k true l0_0 l0_1 l0_2 a0_3 l0_4 l0_5 l0_6 a0_7))
def spec_MachineOk.T6 : Bool × List (List Nat × List Nat) := (true, [([], []), ([0], [0]), ([], []), ([1, 2], [1, 2]), ([3], [3]), ([], []), ([5], [5]), ([6], [6]), ([4, 7], [4, 7]), ([8], [8]), ([9, 8], [9]), ([10], [10]), ([10], [10]), ([11, 12, 10, 10], [10, 11, 12]), ([13, 10], [10, 13]), ([10, 14], [10, 14])])
def spec_MachineOk.B6 : List Nat := [0, 1, 0, 7, 15, 0, 32, 96, 255, 511, 1023, 2047, 2047, 8191, 16383, 32767]
theorem spec_MachineOk.tab6 : rtab .any (opsOf Tryz.f25 6) = spec_MachineOk.T6 := by kernel_rfl
theorem spec_MachineOk.bits6 : waitsOk spec_MachineOk.T6.2 spec_MachineOk.B6 = true := by kernel_rfl
set_option maxHeartbeats 8000000 in
set_option maxRecDepth 100000 in
theorem spec_MachineOk.calls (k : Nat) (A0_0 : Option Addr) (c0_0 : Nat) (l0_0 : List (S39)) (A0_1 : Option Addr) (c0_1 : Nat) (l0_1 : List (S52)) (A0_2 : Option Addr) (c0_2 : Nat) (l0_2 : List (S82)) (a0_3 : Int) (A0_4 : Option Addr) (c0_4 : Nat) (l0_4 : List (S134)) (A0_5 : Option Addr) (c0_5 : Nat) (l0_5 : List Int) (A0_6 : Option Addr) (c0_6 : Nat) (l0_6 : List Int) (a0_7 : Int) (r : Bool) (w : World) (hr0_0 : Kd.C k39 w A0_0 l0_0.length l0_0) (hc0_0 : l0_0.length ≤ c0_0) (hr0_1 : Kd.C k52 w A0_1 l0_1.length l0_1) (hc0_1 : l0_1.length ≤ c0_1) (hr0_2 : Kd.C k82 w A0_2 l0_2.length l0_2) (hc0_2 : l0_2.length ≤ c0_2) (hr0_4 : Kd.C k134 w A0_4 l0_4.length l0_4) (hc0_4 : l0_4.length ≤ c0_4) (hr0_5 : Kd.C (Kd.int .i64) w A0_5 l0_5.length l0_5) (hc0_5 : l0_5.length ≤ c0_5) (hr0_6 : Kd.C (Kd.int .i64) w A0_6 l0_6.length l0_6) (hc0_6 : l0_6.length ≤ c0_6) (h : spec_MachineOk.f k l0_0 l0_1 l0_2 a0_3 l0_4 l0_5 l0_6 a0_7 = some r) :
  Calls Tryz.prog 25 #[.agg #[.slice A0_0 l0_0.length c0_0, .slice A0_1 l0_1.length c0_1, .slice A0_2 l0_2.length c0_2, .int .i64 a0_3, .slice A0_4 l0_4.length c0_4, .slice A0_5 l0_5.length c0_5, .slice A0_6 l0_6.length c0_6, .int .i64 a0_7]] w fun e w' => e = .returned (.bool r) ∧ Below w.heap.size w w' := by
 have hu75 := Tryz.underlying75
 have hu27 := Tryz.underlying27
 have hu73 := Tryz.underlying73
 have hu82 := Tryz.underlying82
 have HR0_0 := Aside0.mk hr0_0
 have HC0_0 := Aside0.mk hc0_0
 clear hr0_0 hc0_0
 have HR0_1 := Aside0.mk hr0_1
 have HC0_1 := Aside0.mk hc0_1
 clear hr0_1 hc0_1
 have HR0_2 := Aside0.mk hr0_2
 have HC0_2 := Aside0.mk hc0_2
 clear hr0_2 hc0_2
 have HR0_4 := Aside0.mk hr0_4
 have HC0_4 := Aside0.mk hc0_4
 clear hr0_4 hc0_4
 have HR0_5 := Aside0.mk hr0_5
 have HC0_5 := Aside0.mk hc0_5
 clear hr0_5 hc0_5
 have HR0_6 := Aside0.mk hr0_6
 have HC0_6 := Aside0.mk hc0_6
 clear hr0_6 hc0_6
 have HB := Aside0.mk (Below.refl w.heap.size w)
 have H := h
 clear h
 unfold spec_MachineOk.f at H
 have HC2 := Aside0.mk H
 clear H
 go_enter Tryz.func25, Tryz.ntmps25
 go_upto_region 1 with (first | ((with_reducible refine gq 1 rfl ?_); (try (refine gate_guard (by rfl) ?_; dsimp only)); refine bx0 HB (N := 1) (t := 75) ?_; clear HB; intro gb223 w3 BK223 GE223 HB))
 (try simp only [Act.put, sA, sB, sC])
 go_cut [34] (fun v34 wc => ∃ (kq : Nat) (x34_1 : Bool), v34 = .bool x34_1 ∧ Aside0 (spec_MachineOk.j0 kq x34_1 l0_0 l0_1 l0_2 a0_3 l0_4 l0_5 l0_6 a0_7 = some r) ∧ Aside0 (kq ≤ k) ∧ Aside0 (wc.heap[gb223]? = some (.cells #[(.slice A0_0 l0_0.length c0_0), (.slice A0_1 l0_1.length c0_1), (.slice A0_2 l0_2.length c0_2), .int .i64 a0_3, (.slice A0_4 l0_4.length c0_4), (.slice A0_5 l0_5.length c0_5), (.slice A0_6 l0_6.length c0_6), .int .i64 a0_7] 75 (0, 0))) ∧ Aside0 (Below w.heap.size w wc))
 case first =>
  have H := HC2.out
  clear HC2
  obtain ⟨t224, A4, H⟩ := bn H
  try dsimp only at H
  cases t224
  case false =>
   replace H := ipf H
   have H' := Aside0.mk H
   clear H
   have hz28 := cs8_ BK223
   go_wp2_with (first | ((with_reducible refine gf 59 rfl ?_); refine gL 6 Tryz.func59 #[.agg #[.slice A0_0 l0_0.length c0_0, .slice A0_1 l0_1.length c0_1]] ?_; (with_reducible refine (spec_MemOk.calls k _ _ l0_0 _ _ l0_1 false _ (kc HR0_0 HB) HC0_0.out (kc HR0_1 HB) HC0_1.out A4.out).mono ?_); rintro e w29 ⟨rfl, hb⟩; refine ⟨_, rfl, ?_⟩; replace BK223 := bb BK223 hb; replace HB := bs HB hb; (try clear hb)))
   go_meet
   case rel => exact ⟨_, (true), rsd, H', ⟨by first | omega | exact Nat.le_refl _⟩, ⟨by (with_reducible repeat (first | refine blk_drewN ?_ _ | refine blk_drew ?_ | refine blk_alloc ?_ _)); exact BK223.out⟩, ⟨tb HB⟩⟩
  replace H := ipt H
  by_cases c6 : (l0_1.length : Int) = (l0_2.length : Int)
  case neg =>
   rw [if_neg c6] at H
   have c6b0 : ((l0_1.length : Int) == (l0_2.length : Int)) = false := beq_eq_false_iff_ne.mpr c6
   have c6b1 : ((l0_1.length : Int) != (l0_2.length : Int)) = true := bne_iff_ne.mpr c6
   have c6b2 : (l0_1.length == l0_2.length) = false := by first | simpa using c6 | (simp at c6 ⊢; omega)
   (first | rw [c6b0] | (simp only [i64_w, i32_w]; rw [c6b0]) | skip)
   have H' := Aside0.mk H
   clear H
   have hz25 := cs8_ BK223
   go_wp2_with (first | ((with_reducible refine gf 59 rfl ?_); refine gL 6 Tryz.func59 #[.agg #[.slice A0_0 l0_0.length c0_0, .slice A0_1 l0_1.length c0_1]] ?_; (with_reducible refine (spec_MemOk.calls k _ _ l0_0 _ _ l0_1 true _ (kc HR0_0 HB) HC0_0.out (kc HR0_1 HB) HC0_1.out A4.out).mono ?_); rintro e w26 ⟨rfl, hb⟩; refine ⟨_, rfl, ?_⟩; replace BK223 := bb BK223 hb; replace HB := bs HB hb; (try clear hb); have hz27 := cs8_ BK223))
   go_meet
   case rel => exact ⟨_, (true), rsd, H', ⟨by first | omega | exact Nat.le_refl _⟩, ⟨by (with_reducible repeat (first | refine blk_drewN ?_ _ | refine blk_drew ?_ | refine blk_alloc ?_ _)); exact BK223.out⟩, ⟨tb HB⟩⟩
  rw [if_pos c6] at H
  have c6b0 : ((l0_1.length : Int) == (l0_2.length : Int)) = true := beq_iff_eq.mpr c6
  have c6b1 : ((l0_1.length : Int) != (l0_2.length : Int)) = false := bne_eq_false_iff_eq.mpr c6
  have c6b2 : (l0_1.length == l0_2.length) = true := by first | simpa using c6 | (simp at c6 ⊢; omega)
  clear c6
  (first | rw [c6b0] | (simp only [i64_w, i32_w]; rw [c6b0]) | skip)
  obtain ⟨t225, A7, H⟩ := bn H
  try dsimp only at H
  cases t225
  case false =>
   replace H := ipf H
   have H' := Aside0.mk H
   clear H
   have hz22 := cs8_ BK223
   go_wp2_with (first | ((with_reducible refine gf 59 rfl ?_); refine gL 6 Tryz.func59 #[.agg #[.slice A0_0 l0_0.length c0_0, .slice A0_1 l0_1.length c0_1]] ?_; (with_reducible refine (spec_MemOk.calls k _ _ l0_0 _ _ l0_1 true _ (kc HR0_0 HB) HC0_0.out (kc HR0_1 HB) HC0_1.out A4.out).mono ?_); rintro e w23 ⟨rfl, hb⟩; refine ⟨_, rfl, ?_⟩; replace BK223 := bb BK223 hb; replace HB := bs HB hb; (try clear hb); have hz24 := cs8_ BK223) | (go_at_call 70; (with_reducible refine (spec_l1In.calls a0_3 0 100000 false _ A7.out).mono ?_); rintro e w' ⟨rfl, ⟨nd, rfl⟩⟩))
   go_meet
   case rel => exact ⟨_, (true), rsd, H', ⟨by first | omega | exact Nat.le_refl _⟩, ⟨by (with_reducible repeat (first | refine blk_drewN ?_ _ | refine blk_drew ?_ | refine blk_alloc ?_ _)); exact BK223.out⟩, ⟨tb HB⟩⟩
  replace H := ipt H
  obtain ⟨t226, A9, H⟩ := bn H
  try dsimp only at H
  cases t226
  case false =>
   replace H := ipf H
   have H' := Aside0.mk H
   clear H
   have hz18 := cs8_ BK223
   go_wp2_with (first | ((with_reducible refine gf 59 rfl ?_); refine gL 6 Tryz.func59 #[.agg #[.slice A0_0 l0_0.length c0_0, .slice A0_1 l0_1.length c0_1]] ?_; (with_reducible refine (spec_MemOk.calls k _ _ l0_0 _ _ l0_1 true _ (kc HR0_0 HB) HC0_0.out (kc HR0_1 HB) HC0_1.out A4.out).mono ?_); rintro e w19 ⟨rfl, hb⟩; refine ⟨_, rfl, ?_⟩; replace BK223 := bb BK223 hb; replace HB := bs HB hb; (try clear hb); have hz20 := cs8_ BK223) | (go_at_call 70; (with_reducible refine (spec_l1In.calls a0_3 0 100000 true _ A7.out).mono ?_); rintro e w' ⟨rfl, ⟨nd, rfl⟩⟩) | (go_at_call 85; (with_reducible refine (spec_RowsOk.calls k _ _ l0_6 a0_7 false _ ?side1 HC0_6.out A9.out).mono ?_); (case side1 => repeat (first | exact (Kd.C_below HR0_6.out (tb HB)) | (with_reducible refine Kd.C_alloc ?_ _) | (with_reducible refine Kd.C_drewN ?_ _) | (with_reducible refine Kd.C_drew ?_))); rintro e w21 ⟨rfl, hb⟩; replace BK223 := bb BK223 hb; replace HB := bs HB hb; (try clear hb)))
   go_meet
   case rel => exact ⟨_, (true), rsd, H', ⟨by first | omega | exact Nat.le_refl _⟩, ⟨by (with_reducible repeat (first | refine blk_drewN ?_ _ | refine blk_drew ?_ | refine blk_alloc ?_ _)); exact BK223.out⟩, ⟨tb HB⟩⟩
  replace H := ipt H
  obtain ⟨t227, A11, H⟩ := bn H
  try dsimp only at H
  have H' := Aside0.mk H
  clear H
  have hz12 := cs8_ BK223
  go_wp2_with (first | ((with_reducible refine gf 59 rfl ?_); refine gL 6 Tryz.func59 #[.agg #[.slice A0_0 l0_0.length c0_0, .slice A0_1 l0_1.length c0_1]] ?_; (with_reducible refine (spec_MemOk.calls k _ _ l0_0 _ _ l0_1 true _ (kc HR0_0 HB) HC0_0.out (kc HR0_1 HB) HC0_1.out A4.out).mono ?_); rintro e w13 ⟨rfl, hb⟩; refine ⟨_, rfl, ?_⟩; replace BK223 := bb BK223 hb; replace HB := bs HB hb; (try clear hb); have hz14 := cs8_ BK223) | (go_at_call 70; (with_reducible refine (spec_l1In.calls a0_3 0 100000 true _ A7.out).mono ?_); rintro e w' ⟨rfl, ⟨nd, rfl⟩⟩) | (go_at_call 85; (with_reducible refine (spec_RowsOk.calls k _ _ l0_6 a0_7 true _ ?side1 HC0_6.out A9.out).mono ?_); (case side1 => repeat (first | exact (Kd.C_below HR0_6.out (tb HB)) | (with_reducible refine Kd.C_alloc ?_ _) | (with_reducible refine Kd.C_drewN ?_ _) | (with_reducible refine Kd.C_drew ?_))); rintro e w15 ⟨rfl, hb⟩; replace BK223 := bb BK223 hb; replace HB := bs HB hb; (try clear hb); have hz16 := cs8_ BK223) | (go_at_call 86; (with_reducible refine (spec_l9Calls.calls k _ _ l0_0 _ _ l0_1 _ _ l0_2 a0_3 _ _ l0_4 _ _ l0_5 _ _ l0_6 a0_7 t227 _ (kc HR0_0 HB) HC0_0.out (kc HR0_1 HB) HC0_1.out (kc HR0_2 HB) HC0_2.out (kc HR0_4 HB) HC0_4.out (kc HR0_5 HB) HC0_5.out (kc HR0_6 HB) HC0_6.out A11.out).mono ?_); rintro e w17 ⟨rfl, hb⟩; replace BK223 := bb BK223 hb; replace HB := bs HB hb; (try clear hb)))
  go_meet
  case rel => exact ⟨_, (!t227), rsd, H', ⟨by first | omega | exact Nat.le_refl _⟩, ⟨by (with_reducible repeat (first | refine blk_drewN ?_ _ | refine blk_drew ?_ | refine blk_alloc ?_ _)); exact BK223.out⟩, ⟨tb HB⟩⟩
 case rest =>
  clear HC2
  obtain ⟨kq, x34_1, rfl, HA, HJ1, BK223, HB⟩ := hcut
  cases kq with
  | zero => exact absurd HA.out (by simp [spec_MachineOk.j0])
  | succ kj1 =>
   have H := HA.out
   clear HA
   simp only [spec_MachineOk.j0] at H
   cases x34_1
   case true =>
    replace H := ipt H
    obtain rfl := oin H
    go_wp2
    go_ret
    exact ⟨er, tb HB⟩
   replace H := ipf H
   have H' := Aside0.mk H
   clear H
   go_wp2
   go_loopg [3] kj1 (fun kq v3 w' => ∃ (x3_2 : Int), v3 = .int .i64 x3_2 ∧ Aside0 (spec_MachineOk.l0 kq x3_2 l0_0 l0_1 l0_2 a0_3 l0_4 l0_5 l0_6 a0_7 = some r) ∧ Aside0 (kq ≤ kj1) ∧ Aside0 (w'.heap[gb223]? = some (.cells #[(.slice A0_0 l0_0.length c0_0), (.slice A0_1 l0_1.length c0_1), (.slice A0_2 l0_2.length c0_2), .int .i64 a0_3, (.slice A0_4 l0_4.length c0_4), (.slice A0_5 l0_5.length c0_5), (.slice A0_6 l0_6.length c0_6), .int .i64 a0_7] 75 (0, 0))) ∧ Aside0 (Below w.heap.size w w'))
   case atStart => exact ⟨(0), rsd, H', ⟨Nat.le_refl _⟩, ⟨by (with_reducible repeat (first | refine blk_drewN ?_ _ | refine blk_drew ?_ | refine blk_alloc ?_ _)); exact BK223.out⟩, ⟨tb HB⟩⟩
   case round =>
    clear H'
    obtain ⟨x3_2, rfl, HA, HK2, BK223, HB⟩ := hrel
    cases gk with
    | zero => exact absurd HA.out (by simp [spec_MachineOk.l0])
    | succ k2 =>
     have H := HA.out
     clear HA
     simp only [spec_MachineOk.l0] at H
     revert H; refine icd (fun c31b0 H => ?_) fun c31b0 H => ?neg
     case neg =>
      obtain rfl := oin H
      have hz48 := cs8_ BK223
      go_wp2
      go_ret
      exact ⟨er, tb HB⟩
     obtain ⟨c32b0, H⟩ := itd H
     obtain ⟨t229, A33, H⟩ := bn H
     try dsimp only at H
     cases t229
     case false =>
      replace H := ipf H
      obtain rfl := oin H
      have hz45 := cs8_ BK223
      try go_wp2
      replace BK223 := bd BK223
      replace HB := Aside0.mk (below_drew1 HB.out)
      have p228 : 0 ≤ (x3_2 : Int) := od
      have q228 : x3_2 < (l0_2.length : Int) := od
      obtain ⟨ad228, A228_0, c228_0, A228_3, c228_3, A228_4, c228_4, e228, hx228, hl228_0, hi228_0, hl228_3, hi228_3, hl228_4, hi228_4⟩ := att82 HR0_2.out x3_2 p228 q228
      have hw228 := hx228
      cases e228
      replace hx228 := ox5 HB hx228
      have HR228_0 := Aside0.mk hi228_0
      have HC228_0 := Aside0.mk hl228_0
      clear hi228_0 hl228_0
      have HR228_3 := Aside0.mk hi228_3
      have HC228_3 := Aside0.mk hl228_3
      clear hi228_3 hl228_3
      have HR228_4 := Aside0.mk hi228_4
      have HC228_4 := Aside0.mk hl228_4
      clear hi228_4 hl228_4
      replace p228 := eq_true p228
      replace q228 := eq_true q228
      refine start_ (n := 16) (S := fun w' => cS8 gb223 (.slice A0_0 l0_0.length c0_0) (.slice A0_1 l0_1.length c0_1) (.slice (some ad228) l0_2.length c0_2) (.int .i64 a0_3) (.slice A0_4 l0_4.length c0_4) (.slice A0_5 l0_5.length c0_5) (.slice A0_6 l0_6.length c0_6) (.int .i64 a0_7) w' ∧ eT82 (ad228.add ((x3_2).toNat * 5)) (rd_T82 l0_2 x3_2) A228_0 c228_0 A228_3 c228_3 A228_4 c228_4 w') (ds := []) #[false, false, false, false, false, false, false, false, false, false, false, false, false, false, false, false] (by kernel_rfl) rfl rfl ⟨ds8_ BK223, (ox5 HB hw228 :)⟩ (fun hHeld => ?_); refine with_tabW spec_MachineOk.tab6 spec_MachineOk.bits6 (fun HT_ HW_ => ?_)
      generalize wr.drew = w46 at BK223 HB HR228_0 HR228_3 HR228_4 hx228 hHeld ⊢
      refine pu 0 42 ?_; refine pu 2 44 ?_; refine pu 5 47 ?_; refine ta 1 43 ?_; refine pu 3 45 ?_; refine ta 4 46 ?_; refine ta 6 48 ?_; refine pu 7 49 ?_
      refine on1 8 (some 50) (fun K hK => ?_)
      refine gS Tryz.func48 #[.agg #[.slice A228_0 ((rd_T82 l0_2 x3_2).f0).length c228_0, .int .i64 ((rd_T82 l0_2 x3_2).f1), .bool ((rd_T82 l0_2 x3_2).f2), .slice A228_3 ((rd_T82 l0_2 x3_2).f3).length c228_3, .slice A228_4 ((rd_T82 l0_2 x3_2).f4).length c228_4], .int .i64 (l0_2.length : Int)] ?_
      with_reducible refine (spec_ThreadOk.calls k2 _ _ ((rd_T82 l0_2 x3_2).f0) ((rd_T82 l0_2 x3_2).f1) ((rd_T82 l0_2 x3_2).f2) _ _ ((rd_T82 l0_2 x3_2).f3) _ _ ((rd_T82 l0_2 x3_2).f4) (l0_2.length : Int) false _ ?side1 ?side2 ?side3 ?side4 ?side5 ?side6 A33.out).mono ?_
      (case side1 => exact kc HR228_0 HB)
      (case side2 => exact HC228_0.out)
      (case side3 => exact kc HR228_3 HB)
      (case side4 => exact HC228_3.out)
      (case side5 => exact kc HR228_4 HB)
      (case side6 => exact HC228_4.out)
      rintro e w47 ⟨rfl, hb⟩
      refine ⟨_, rfl, ?_⟩
      replace BK223 := bb BK223 hb
      replace HB := bs HB hb
      (try clear hb)
      (try clear hb2)
      (try clear hk)
      (try clear hi)
      refine hK.out _ _ ⟨ds8_ BK223, (ox5 HB hw228 :)⟩ (fun hHeld => ?_)
      clear hK K
      refine nm 50 ?_
      refine pu 9 51 ?_; refine pu 10 52 ?_; refine pn 11 53 ?_; refine pn 12 54 ?_; refine pn 13 55 ?_; refine pn 14 56 ?_; refine pu 15 57 ?_
      refine done_ (done_of HT_.out (by kernel_rfl)) ?_
      try go_wp2
      go_ret
      exact ⟨er, tb HB⟩
     replace H := ipt H
     obtain ⟨t230, A35, H⟩ := bn H
     try dsimp only at H
     cases t230
     case false =>
      replace H := ipf H
      obtain rfl := oin H
      have hz41 := cs8_ BK223
      try go_wp2
      replace BK223 := bd BK223
      replace HB := Aside0.mk (below_drew1 HB.out)
      have p228 : 0 ≤ (x3_2 : Int) := od
      have q228 : x3_2 < (l0_2.length : Int) := od
      obtain ⟨ad228, A228_0, c228_0, A228_3, c228_3, A228_4, c228_4, e228, hx228, hl228_0, hi228_0, hl228_3, hi228_3, hl228_4, hi228_4⟩ := att82 HR0_2.out x3_2 p228 q228
      have hw228 := hx228
      cases e228
      replace hx228 := ox5 HB hx228
      have HR228_0 := Aside0.mk hi228_0
      have HC228_0 := Aside0.mk hl228_0
      clear hi228_0 hl228_0
      have HR228_3 := Aside0.mk hi228_3
      have HC228_3 := Aside0.mk hl228_3
      clear hi228_3 hl228_3
      have HR228_4 := Aside0.mk hi228_4
      have HC228_4 := Aside0.mk hl228_4
      clear hi228_4 hl228_4
      replace p228 := eq_true p228
      replace q228 := eq_true q228
      refine start_ (n := 16) (S := fun w' => cS8 gb223 (.slice A0_0 l0_0.length c0_0) (.slice A0_1 l0_1.length c0_1) (.slice (some ad228) l0_2.length c0_2) (.int .i64 a0_3) (.slice A0_4 l0_4.length c0_4) (.slice A0_5 l0_5.length c0_5) (.slice A0_6 l0_6.length c0_6) (.int .i64 a0_7) w' ∧ eT82 (ad228.add ((x3_2).toNat * 5)) (rd_T82 l0_2 x3_2) A228_0 c228_0 A228_3 c228_3 A228_4 c228_4 w') (ds := []) #[false, false, false, false, false, false, false, false, false, false, false, false, false, false, false, false] (by kernel_rfl) rfl rfl ⟨ds8_ BK223, (ox5 HB hw228 :)⟩ (fun hHeld => ?_); refine with_tabW spec_MachineOk.tab6 spec_MachineOk.bits6 (fun HT_ HW_ => ?_)
      generalize wr.drew = w42 at BK223 HB HR228_0 HR228_3 HR228_4 hx228 hHeld ⊢
      refine pu 0 42 ?_; refine pu 2 44 ?_; refine pu 5 47 ?_; refine ta 1 43 ?_; refine pu 3 45 ?_; refine ta 4 46 ?_; refine ta 6 48 ?_; refine pu 7 49 ?_
      refine on1 8 (some 50) (fun K hK => ?_)
      refine gS Tryz.func48 #[.agg #[.slice A228_0 ((rd_T82 l0_2 x3_2).f0).length c228_0, .int .i64 ((rd_T82 l0_2 x3_2).f1), .bool ((rd_T82 l0_2 x3_2).f2), .slice A228_3 ((rd_T82 l0_2 x3_2).f3).length c228_3, .slice A228_4 ((rd_T82 l0_2 x3_2).f4).length c228_4], .int .i64 (l0_2.length : Int)] ?_
      with_reducible refine (spec_ThreadOk.calls k2 _ _ ((rd_T82 l0_2 x3_2).f0) ((rd_T82 l0_2 x3_2).f1) ((rd_T82 l0_2 x3_2).f2) _ _ ((rd_T82 l0_2 x3_2).f3) _ _ ((rd_T82 l0_2 x3_2).f4) (l0_2.length : Int) true _ ?side1 ?side2 ?side3 ?side4 ?side5 ?side6 A33.out).mono ?_
      (case side1 => exact kc HR228_0 HB)
      (case side2 => exact HC228_0.out)
      (case side3 => exact kc HR228_3 HB)
      (case side4 => exact HC228_3.out)
      (case side5 => exact kc HR228_4 HB)
      (case side6 => exact HC228_4.out)
      rintro e w43 ⟨rfl, hb⟩
      refine ⟨_, rfl, ?_⟩
      replace BK223 := bb BK223 hb
      replace HB := bs HB hb
      (try clear hb)
      (try clear hb2)
      (try clear hk)
      (try clear hi)
      refine hK.out _ _ ⟨ds8_ BK223, (ox5 HB hw228 :)⟩ (fun hHeld => ?_)
      clear hK K
      refine nm 50 ?_
      refine pu 9 51 ?_; refine pu 10 52 ?_; refine pu 12 54 ?_; refine ta 11 53 ?_
      refine on1 13 (some 55) (fun K hK => ?_)
      refine gS Tryz.func87 #[.agg #[.slice A0_0 l0_0.length c0_0, .slice A0_1 l0_1.length c0_1, .slice (some ad228) l0_2.length c0_2, .int .i64 a0_3, .slice A0_4 l0_4.length c0_4, .slice A0_5 l0_5.length c0_5, .slice A0_6 l0_6.length c0_6, .int .i64 a0_7], .int .i64 x3_2] ?_
      with_reducible refine (spec_l9Thread.calls k2 _ _ l0_0 _ _ l0_1 _ _ l0_2 a0_3 _ _ l0_4 _ _ l0_5 _ _ l0_6 a0_7 x3_2 false _ ?side1 ?side2 ?side3 ?side4 ?side5 ?side6 ?side7 ?side8 ?side9 ?side10 ?side11 ?side12 A35.out).mono ?_
      (case side1 => exact kc HR0_0 HB)
      (case side2 => exact HC0_0.out)
      (case side3 => exact kc HR0_1 HB)
      (case side4 => exact HC0_1.out)
      (case side5 => exact kc HR0_2 HB)
      (case side6 => exact HC0_2.out)
      (case side7 => exact kc HR0_4 HB)
      (case side8 => exact HC0_4.out)
      (case side9 => exact kc HR0_5 HB)
      (case side10 => exact HC0_5.out)
      (case side11 => exact kc HR0_6 HB)
      (case side12 => exact HC0_6.out)
      rintro e w44 ⟨rfl, hb⟩
      refine ⟨_, rfl, ?_⟩
      replace BK223 := bb BK223 hb
      replace HB := bs HB hb
      (try clear hb)
      (try clear hb2)
      (try clear hk)
      (try clear hi)
      refine hK.out _ _ ⟨ds8_ BK223, (ox5 HB hw228 :)⟩ (fun hHeld => ?_)
      clear hK K
      refine nm 55 ?_
      refine pu 14 56 ?_; refine pu 15 57 ?_
      refine done_ (done_of HT_.out (by kernel_rfl)) ?_
      try go_wp2
      go_ret
      exact ⟨er, tb HB⟩
     replace H := ipt H
     have H' := Aside0.mk H
     clear H
     have hz37 := cs8_ BK223
     try go_wp2
     replace BK223 := bd BK223
     replace HB := Aside0.mk (below_drew1 HB.out)
     have p228 : 0 ≤ (x3_2 : Int) := od
     have q228 : x3_2 < (l0_2.length : Int) := od
     obtain ⟨ad228, A228_0, c228_0, A228_3, c228_3, A228_4, c228_4, e228, hx228, hl228_0, hi228_0, hl228_3, hi228_3, hl228_4, hi228_4⟩ := att82 HR0_2.out x3_2 p228 q228
     have hw228 := hx228
     cases e228
     replace hx228 := ox5 HB hx228
     have HR228_0 := Aside0.mk hi228_0
     have HC228_0 := Aside0.mk hl228_0
     clear hi228_0 hl228_0
     have HR228_3 := Aside0.mk hi228_3
     have HC228_3 := Aside0.mk hl228_3
     clear hi228_3 hl228_3
     have HR228_4 := Aside0.mk hi228_4
     have HC228_4 := Aside0.mk hl228_4
     clear hi228_4 hl228_4
     replace p228 := eq_true p228
     replace q228 := eq_true q228
     refine start_ (n := 16) (S := fun w' => cS8 gb223 (.slice A0_0 l0_0.length c0_0) (.slice A0_1 l0_1.length c0_1) (.slice (some ad228) l0_2.length c0_2) (.int .i64 a0_3) (.slice A0_4 l0_4.length c0_4) (.slice A0_5 l0_5.length c0_5) (.slice A0_6 l0_6.length c0_6) (.int .i64 a0_7) w' ∧ eT82 (ad228.add ((x3_2).toNat * 5)) (rd_T82 l0_2 x3_2) A228_0 c228_0 A228_3 c228_3 A228_4 c228_4 w') (ds := []) #[false, false, false, false, false, false, false, false, false, false, false, false, false, false, false, false] (by kernel_rfl) rfl rfl ⟨ds8_ BK223, (ox5 HB hw228 :)⟩ (fun hHeld => ?_); refine with_tabW spec_MachineOk.tab6 spec_MachineOk.bits6 (fun HT_ HW_ => ?_)
     generalize wr.drew = w38 at BK223 HB HR228_0 HR228_3 HR228_4 hx228 hHeld ⊢
     refine pu 0 42 ?_; refine pu 2 44 ?_; refine pu 5 47 ?_; refine ta 1 43 ?_; refine pu 3 45 ?_; refine ta 4 46 ?_; refine ta 6 48 ?_; refine pu 7 49 ?_
     refine on1 8 (some 50) (fun K hK => ?_)
     refine gS Tryz.func48 #[.agg #[.slice A228_0 ((rd_T82 l0_2 x3_2).f0).length c228_0, .int .i64 ((rd_T82 l0_2 x3_2).f1), .bool ((rd_T82 l0_2 x3_2).f2), .slice A228_3 ((rd_T82 l0_2 x3_2).f3).length c228_3, .slice A228_4 ((rd_T82 l0_2 x3_2).f4).length c228_4], .int .i64 (l0_2.length : Int)] ?_
     with_reducible refine (spec_ThreadOk.calls k2 _ _ ((rd_T82 l0_2 x3_2).f0) ((rd_T82 l0_2 x3_2).f1) ((rd_T82 l0_2 x3_2).f2) _ _ ((rd_T82 l0_2 x3_2).f3) _ _ ((rd_T82 l0_2 x3_2).f4) (l0_2.length : Int) true _ ?side1 ?side2 ?side3 ?side4 ?side5 ?side6 A33.out).mono ?_
     (case side1 => exact kc HR228_0 HB)
     (case side2 => exact HC228_0.out)
     (case side3 => exact kc HR228_3 HB)
     (case side4 => exact HC228_3.out)
     (case side5 => exact kc HR228_4 HB)
     (case side6 => exact HC228_4.out)
     rintro e w39 ⟨rfl, hb⟩
     refine ⟨_, rfl, ?_⟩
     replace BK223 := bb BK223 hb
     replace HB := bs HB hb
     (try clear hb)
     (try clear hb2)
     (try clear hk)
     (try clear hi)
     refine hK.out _ _ ⟨ds8_ BK223, (ox5 HB hw228 :)⟩ (fun hHeld => ?_)
     clear hK K
     refine nm 50 ?_
     refine pu 9 51 ?_; refine pu 10 52 ?_; refine pu 12 54 ?_; refine ta 11 53 ?_
     refine on1 13 (some 55) (fun K hK => ?_)
     refine gS Tryz.func87 #[.agg #[.slice A0_0 l0_0.length c0_0, .slice A0_1 l0_1.length c0_1, .slice (some ad228) l0_2.length c0_2, .int .i64 a0_3, .slice A0_4 l0_4.length c0_4, .slice A0_5 l0_5.length c0_5, .slice A0_6 l0_6.length c0_6, .int .i64 a0_7], .int .i64 x3_2] ?_
     with_reducible refine (spec_l9Thread.calls k2 _ _ l0_0 _ _ l0_1 _ _ l0_2 a0_3 _ _ l0_4 _ _ l0_5 _ _ l0_6 a0_7 x3_2 true _ ?side1 ?side2 ?side3 ?side4 ?side5 ?side6 ?side7 ?side8 ?side9 ?side10 ?side11 ?side12 A35.out).mono ?_
     (case side1 => exact kc HR0_0 HB)
     (case side2 => exact HC0_0.out)
     (case side3 => exact kc HR0_1 HB)
     (case side4 => exact HC0_1.out)
     (case side5 => exact kc HR0_2 HB)
     (case side6 => exact HC0_2.out)
     (case side7 => exact kc HR0_4 HB)
     (case side8 => exact HC0_4.out)
     (case side9 => exact kc HR0_5 HB)
     (case side10 => exact HC0_5.out)
     (case side11 => exact kc HR0_6 HB)
     (case side12 => exact HC0_6.out)
     rintro e w40 ⟨rfl, hb⟩
     refine ⟨_, rfl, ?_⟩
     replace BK223 := bb BK223 hb
     replace HB := bs HB hb
     (try clear hb)
     (try clear hb2)
     (try clear hk)
     (try clear hi)
     refine hK.out _ _ ⟨ds8_ BK223, (ox5 HB hw228 :)⟩ (fun hHeld => ?_)
     clear hK K
     refine nm 55 ?_
     refine pu 14 56 ?_; refine pu 15 57 ?_
     refine done_ (done_of HT_.out (by kernel_rfl)) ?_
     try go_wp2
     go_roundg k2
     case measure => have := HJ1.out; have := HK2.out; omega
     case rel => exact ⟨(wrap64 (x3_2 + 1)), rsd, H', ⟨by have := HJ1.out; have := HK2.out; omega⟩, ⟨by (with_reducible repeat (first | refine blk_drewN ?_ _ | refine blk_drew ?_ | refine blk_alloc ?_ _)); exact BK223.out⟩, ⟨tb HB⟩⟩
mutual
def impl_MemOk.j0 : Nat → Bool → List (S39) → List (S52) → Option (Bool)
 | 0, _, _, _ => none
 | k + 1, x23, x434000, x434001 => if x23 = true then (some false) else (impl_MemOk.l0 k x434000 (x434000.length : Int) 0 x434000 x434001)
def impl_MemOk.l0 : Nat → List (S39) → Int → Int → List (S39) → List (S52) → Option (Bool)
 | 0, _, _, _, _, _ => none
 | k + 1, x25, x26, x27, x434000, x434001 => if x27 < x26 then (if 0 ≤ x27 then (if x27 < (x25.length : Int) then ((impl_WordOk.f ((rd_T39 x25 x27).f0) ((rd_T39 x25 x27).f1) ((rd_T39 x25 x27).f2) (x434001.length : Int)).bind fun t438 => (if t438 = true then (if ((rd_T39 x25 x27).f1) = 0 then (impl_MemOk.l0 k x25 x26 (wrap64 (x27 + 1)) x434000 x434001) else (if 0 ≤ (wrap64 (((rd_T39 x25 x27).f1) - 1)) then (if (wrap64 (((rd_T39 x25 x27).f1) - 1)) < (x434001.length : Int) then ((impl_Entries.f k ((rd_T52 x434001 (wrap64 (((rd_T39 x25 x27).f1) - 1))).f0) ((rd_T52 x434001 (wrap64 (((rd_T39 x25 x27).f1) - 1))).f1) ((rd_T52 x434001 (wrap64 (((rd_T39 x25 x27).f1) - 1))).f2) ((rd_T52 x434001 (wrap64 (((rd_T39 x25 x27).f1) - 1))).f3.f0) ((rd_T52 x434001 (wrap64 (((rd_T39 x25 x27).f1) - 1))).f3.f1) x27).bind fun bt441 => (if bt441.2.2.2 = true then (if ((rd_T52 x434001 (wrap64 (((rd_T39 x25 x27).f1) - 1))).f0) = ((rd_T39 x25 x27).f2) then (impl_MemOk.l0 k x25 x26 (wrap64 (x27 + 1)) x434000 x434001) else (some false)) else (some false))) else (none)) else (none))) else (some false))) else (none)) else (none)) else (some true)
end
def impl_MemOk.f (k : Nat) (l0_0 : List (S39)) (l0_1 : List (S52)) : Option (Bool) := if (l0_0.length : Int) = 20 then ((impl_from.f (l0_1.length : Int) 1 4).bind fun t434 => (if t434 = true then ((impl_MemOk_1_any.f k l0_1).bind fun t435 => (impl_MemOk.j0 k t435 l0_0 l0_1)) else (impl_MemOk.j0 k true l0_0 l0_1))) else (impl_MemOk.j0 k true l0_0 l0_1)
set_option maxHeartbeats 8000000 in
set_option maxRecDepth 100000 in
theorem impl_MemOk.calls (k : Nat) (A0_0 : Option Addr) (c0_0 : Nat) (l0_0 : List (S39)) (A0_1 : Option Addr) (c0_1 : Nat) (l0_1 : List (S52)) (r : Bool) (w : World) (hr0_0 : Kd.C k39 w A0_0 l0_0.length l0_0) (hc0_0 : l0_0.length ≤ c0_0) (hr0_1 : Kd.C k52 w A0_1 l0_1.length l0_1) (hc0_1 : l0_1.length ≤ c0_1) (h : impl_MemOk.f k l0_0 l0_1 = some r) :
  Calls Tryz.prog 22 #[.agg #[.slice A0_0 l0_0.length c0_0, .slice A0_1 l0_1.length c0_1]] w fun e w' => e = .returned (.bool r) ∧ Below w.heap.size w w' := by
 have hu27 := Tryz.underlying27
 have hu39 := Tryz.underlying39
 have hu52 := Tryz.underlying52
 have hu37 := Tryz.underlying37
 have HR0_0 := Aside0.mk hr0_0
 have HC0_0 := Aside0.mk hc0_0
 clear hr0_0 hc0_0
 have HR0_1 := Aside0.mk hr0_1
 have HC0_1 := Aside0.mk hc0_1
 clear hr0_1 hc0_1
 have HB := Aside0.mk (Below.refl w.heap.size w)
 have H := h
 clear h
 unfold impl_MemOk.f at H
 have HC2 := Aside0.mk H
 clear H
 go_enter Tryz.func22, Tryz.ntmps22
 go_upto_region 1 with (first | ((with_reducible refine gq 1 rfl ?_); (try (refine gate_guard (by rfl) ?_; dsimp only)); refine bx0 HB (N := 1) (t := 27) ?_; clear HB; intro gb433 w3 BK433 GE433 HB))
 (try simp only [Act.put, sA, sB, sC])
 go_cut [23] (fun v23 wc => ∃ (kq : Nat) (x23_1 : Bool), v23 = .bool x23_1 ∧ Aside0 (impl_MemOk.j0 kq x23_1 l0_0 l0_1 = some r) ∧ Aside0 (kq ≤ k) ∧ Aside0 (wc.heap[gb433]? = some (.cells #[(.slice A0_0 l0_0.length c0_0), (.slice A0_1 l0_1.length c0_1)] 27 (0, 0))) ∧ Aside0 (Below w.heap.size w wc))
 case first =>
  have H := HC2.out
  clear HC2
  by_cases c4 : (l0_0.length : Int) = 20
  case neg =>
   rw [if_neg c4] at H
   have c4b0 : ((l0_0.length : Int) == 20) = false := beq_eq_false_iff_ne.mpr c4
   have c4b1 : ((l0_0.length : Int) != 20) = true := bne_iff_ne.mpr c4
   (first | rw [c4b0] | (simp only [i64_w, i32_w]; rw [c4b0]) | skip)
   have H' := Aside0.mk H
   clear H
   have hz11 := cs2_ BK433
   go_wp2
   go_meet
   case rel => exact ⟨_, (true), rsd, H', ⟨by first | omega | exact Nat.le_refl _⟩, ⟨by (with_reducible repeat (first | refine blk_drewN ?_ _ | refine blk_drew ?_ | refine blk_alloc ?_ _)); exact BK433.out⟩, ⟨tb HB⟩⟩
  rw [if_pos c4] at H
  have c4b0 : ((l0_0.length : Int) == 20) = true := beq_iff_eq.mpr c4
  have c4b1 : ((l0_0.length : Int) != 20) = false := bne_eq_false_iff_eq.mpr c4
  clear c4
  (first | rw [c4b0] | (simp only [i64_w, i32_w]; rw [c4b0]) | skip)
  obtain ⟨t434, A5, H⟩ := bn H
  try dsimp only at H
  cases t434
  case false =>
   replace H := ipf H
   have H' := Aside0.mk H
   clear H
   have hz10 := cs2_ BK433
   go_wp2_with (first | (go_at_call 62; (with_reducible refine (impl_from.calls (l0_1.length : Int) 1 4 false _ A5.out).mono ?_); rintro e w' ⟨rfl, ⟨nd, rfl⟩⟩))
   go_meet
   case rel => exact ⟨_, (true), rsd, H', ⟨by first | omega | exact Nat.le_refl _⟩, ⟨by (with_reducible repeat (first | refine blk_drewN ?_ _ | refine blk_drew ?_ | refine blk_alloc ?_ _)); exact BK433.out⟩, ⟨tb HB⟩⟩
  replace H := ipt H
  obtain ⟨t435, A7, H⟩ := bn H
  try dsimp only at H
  have H' := Aside0.mk H
  clear H
  have hz8 := cs2_ BK433
  go_wp2_with (first | (go_at_call 62; (with_reducible refine (impl_from.calls (l0_1.length : Int) 1 4 true _ A5.out).mono ?_); rintro e w' ⟨rfl, ⟨nd, rfl⟩⟩) | (go_at_call 76; (with_reducible refine (impl_MemOk_1_any.calls k _ _ l0_1 t435 _ ?side1 HC0_1.out A7.out).mono ?_); (case side1 => repeat (first | exact (Kd.C_below HR0_1.out (tb HB)) | (with_reducible refine Kd.C_alloc ?_ _) | (with_reducible refine Kd.C_drewN ?_ _) | (with_reducible refine Kd.C_drew ?_))); rintro e w9 ⟨rfl, hb⟩; replace BK433 := bb BK433 hb; replace HB := bs HB hb; (try clear hb)))
  go_meet
  case rel => exact ⟨_, (t435), rsd, H', ⟨by first | omega | exact Nat.le_refl _⟩, ⟨by (with_reducible repeat (first | refine blk_drewN ?_ _ | refine blk_drew ?_ | refine blk_alloc ?_ _)); exact BK433.out⟩, ⟨tb HB⟩⟩
 case rest =>
  clear HC2
  obtain ⟨kq, x23_1, rfl, HA, HJ1, BK433, HB⟩ := hcut
  cases kq with
  | zero => exact absurd HA.out (by simp [impl_MemOk.j0])
  | succ kj1 =>
   have H := HA.out
   clear HA
   simp only [impl_MemOk.j0] at H
   cases x23_1
   case true =>
    replace H := ipt H
    obtain rfl := oin H
    go_wp2
    go_ret
    exact ⟨er, tb HB⟩
   replace H := ipf H
   have H' := Aside0.mk H
   clear H
   have hz13 := cs2_ BK433
   go_wp2
   go_loopg [27] kj1 (fun kq v27 w' => ∃ (x27_2 : Int), v27 = .int .i64 x27_2 ∧ Aside0 (impl_MemOk.l0 kq l0_0 (l0_0.length : Int) x27_2 l0_0 l0_1 = some r) ∧ Aside0 (kq ≤ kj1) ∧ Aside0 (w'.heap[gb433]? = some (.cells #[(.slice A0_0 l0_0.length c0_0), (.slice A0_1 l0_1.length c0_1)] 27 (0, 0))) ∧ Aside0 (Below w.heap.size w w'))
   case atStart => exact ⟨(0), rsd, H', ⟨Nat.le_refl _⟩, ⟨by (with_reducible repeat (first | refine blk_drewN ?_ _ | refine blk_drew ?_ | refine blk_alloc ?_ _)); exact BK433.out⟩, ⟨tb HB⟩⟩
   case round =>
    clear H'
    obtain ⟨x27_2, rfl, HA, HK2, BK433, HB⟩ := hrel
    cases gk with
    | zero => exact absurd HA.out (by simp [impl_MemOk.l0])
    | succ k2 =>
     have H := HA.out
     clear HA
     simp only [impl_MemOk.l0] at H
     revert H; refine icd (fun c14b0 H => ?_) fun c14b0 H => ?neg
     case neg =>
      obtain rfl := oin H
      go_wp2
      go_ret
      exact ⟨er, tb HB⟩
     obtain ⟨c15b0, H⟩ := itd H
     obtain ⟨c16b0, H⟩ := itd H
     obtain ⟨t438, A17, H⟩ := bn H
     try dsimp only at H
     cases t438
     case false =>
      replace H := ipf H
      obtain rfl := oin H
      have p436 : 0 ≤ (x27_2 : Int) := od
      have q436 : x27_2 < (l0_0.length : Int) := od
      obtain ⟨ad436, e436, hx436⟩ := att39 HR0_0.out x27_2 p436 q436
      cases e436
      replace hx436 := ox3 HB hx436
      replace p436 := eq_true p436
      replace q436 := eq_true q436
      go_wp2_with (first | ((with_reducible refine gq 4 rfl ?_); (try (refine gate_guard (by rfl) ?_; dsimp only)); refine bx1 HB BK433 (N := 4) (cs := #[.int .i64 0, .int .i64 0, .int .i64 0]) (t := 39) ?_; clear HB BK433; intro gb437 w87 BK437 GE437 HB NB433_437 NB437_433 BK433; have hnb88 := NB437_433.out; have hnc88 := NB433_437.out; have hz89 := cs3_ BK437; have hz90 := cs2_ BK433) | ((with_reducible refine gf 79 rfl ?_); refine gL 36 Tryz.func79 #[.agg #[.int .i64 ((rd_T39 l0_0 x27_2).f0), .int .i64 ((rd_T39 l0_0 x27_2).f1), .int .i64 ((rd_T39 l0_0 x27_2).f2)], .int .i64 (l0_1.length : Int)] ?_; (with_reducible refine (impl_WordOk.calls ((rd_T39 l0_0 x27_2).f0) ((rd_T39 l0_0 x27_2).f1) ((rd_T39 l0_0 x27_2).f2) (l0_1.length : Int) false _ A17.out).mono ?_); rintro e w91 ⟨rfl, hb⟩; refine ⟨_, rfl, ?_⟩; replace BK433 := bbf BK433 hb; replace BK437 := bbp3 BK437 hb; replace HB := bs HB hb; (try clear hb)))
      go_ret
      exact ⟨er, tb HB⟩
     replace H := ipt H
     by_cases c19 : ((rd_T39 l0_0 x27_2).f1) = 0
     case pos =>
      rw [if_pos c19] at H
      have c19b0 : (((rd_T39 l0_0 x27_2).f1) == 0) = true := beq_iff_eq.mpr c19
      have c19b1 : (((rd_T39 l0_0 x27_2).f1) != 0) = false := bne_eq_false_iff_eq.mpr c19
      clear c19
      have H' := Aside0.mk H
      clear H
      have p436 : 0 ≤ (x27_2 : Int) := od
      have q436 : x27_2 < (l0_0.length : Int) := od
      obtain ⟨ad436, e436, hx436_0, hx436_1, hx436_2⟩ := at_T39 HR0_0.out x27_2 p436 q436
      cases e436
      replace hx436_0 := ox HB hx436_0
      replace hx436_1 := ox HB hx436_1
      replace hx436_2 := ox HB hx436_2
      replace p436 := eq_true p436
      replace q436 := eq_true q436
      go_wp2_with (first | ((with_reducible refine gq 4 rfl ?_); (try (refine gate_guard (by rfl) ?_; dsimp only)); refine bx1 HB BK433 (N := 4) (cs := #[.int .i64 0, .int .i64 0, .int .i64 0]) (t := 39) ?_; clear HB BK433; intro gb437 w20 BK437 GE437 HB NB433_437 NB437_433 BK433; have hnb21 := NB437_433.out; have hnc21 := NB433_437.out; have hz22 := cs3_ BK437; have hz23 := cs2_ BK433) | ((with_reducible refine gf 79 rfl ?_); refine gL 36 Tryz.func79 #[.agg #[.int .i64 ((rd_T39 l0_0 x27_2).f0), .int .i64 ((rd_T39 l0_0 x27_2).f1), .int .i64 ((rd_T39 l0_0 x27_2).f2)], .int .i64 (l0_1.length : Int)] ?_; (with_reducible refine (impl_WordOk.calls ((rd_T39 l0_0 x27_2).f0) ((rd_T39 l0_0 x27_2).f1) ((rd_T39 l0_0 x27_2).f2) (l0_1.length : Int) true _ A17.out).mono ?_); rintro e w24 ⟨rfl, hb⟩; refine ⟨_, rfl, ?_⟩; replace BK433 := bbf BK433 hb; replace BK437 := bbp3 BK437 hb; replace HB := bs HB hb; (try clear hb); have hz25 := cs3_ BK437))
      go_roundg k2
      case measure => have := HJ1.out; have := HK2.out; omega
      case rel => exact ⟨(wrap64 (x27_2 + 1)), rsd, H', ⟨by have := HJ1.out; have := HK2.out; omega⟩, ⟨by (with_reducible repeat (first | refine blk_drewN ?_ _ | refine blk_drew ?_ | refine blk_alloc ?_ _)); exact BK433.out⟩, ⟨tb HB⟩⟩
     rw [if_neg c19] at H
     have c19b0 : (((rd_T39 l0_0 x27_2).f1) == 0) = false := beq_eq_false_iff_ne.mpr c19
     have c19b1 : (((rd_T39 l0_0 x27_2).f1) != 0) = true := bne_iff_ne.mpr c19
     obtain ⟨ji26, hji26⟩ : ∃ j_ : Int, (wrap64 (((rd_T39 l0_0 x27_2).f1) - 1)) = j_ := ⟨_, rfl⟩
     replace H : (if 0 ≤ (ji26) then (if (ji26) < (l0_1.length : Int) then ((impl_Entries.f k2 ((rd_T52 l0_1 (ji26)).f0) ((rd_T52 l0_1 (ji26)).f1) ((rd_T52 l0_1 (ji26)).f2) ((rd_T52 l0_1 (ji26)).f3.f0) ((rd_T52 l0_1 (ji26)).f3.f1) x27_2).bind fun bt441 => (if bt441.2.2.2 = true then (if ((rd_T52 l0_1 (ji26)).f0) = ((rd_T39 l0_0 x27_2).f2) then (impl_MemOk.l0 k2 l0_0 (l0_0.length : Int) (wrap64 (x27_2 + 1)) l0_0 l0_1) else (some false)) else (some false))) else (none)) else (none)) = some r := by first | (rw [hji26] at H; exact H) | (simp only [hji26] at H ⊢; exact H)
     (try rw [hji26] at A17)
     have hji26w : (IntKind.i64.wrap (((rd_T39 l0_0 x27_2).f1) - 1)) = ji26 := (i64_w _).trans hji26
     obtain ⟨c27b0, H⟩ := itd H
     obtain ⟨c28b0, H⟩ := itd H
     obtain ⟨⟨t441, t442, t443, t444⟩, A29, H⟩ := bn H
     try dsimp only at H
     cases t444
     case false =>
      replace H := ipf H
      obtain rfl := oin H
      have p436 : 0 ≤ (x27_2 : Int) := od
      have q436 : x27_2 < (l0_0.length : Int) := od
      obtain ⟨ad436, e436, hx436_0, hx436_1, hx436_2⟩ := at_T39 HR0_0.out x27_2 p436 q436
      cases e436
      replace hx436_0 := ox HB hx436_0
      replace hx436_1 := ox HB hx436_1
      replace hx436_2 := ox HB hx436_2
      replace p436 := eq_true p436
      replace q436 := eq_true q436
      go_wp2_with (first | ((with_reducible refine gq 4 rfl ?_); (try (refine gate_guard (by rfl) ?_; dsimp only)); refine bx1 HB BK433 (N := 4) (cs := #[.int .i64 0, .int .i64 0, .int .i64 0]) (t := 39) ?_; clear HB BK433; intro gb437 w70 BK437 GE437 HB NB433_437 NB437_433 BK433; have hnb71 := NB437_433.out; have hnc71 := NB433_437.out; have hz72 := cs3_ BK437; have hz73 := cs2_ BK433) | ((with_reducible refine gf 79 rfl ?_); refine gL 36 Tryz.func79 #[.agg #[.int .i64 ((rd_T39 l0_0 x27_2).f0), .int .i64 ((rd_T39 l0_0 x27_2).f1), .int .i64 ((rd_T39 l0_0 x27_2).f2)], .int .i64 (l0_1.length : Int)] ?_; (with_reducible refine (impl_WordOk.calls ((rd_T39 l0_0 x27_2).f0) ((rd_T39 l0_0 x27_2).f1) ((rd_T39 l0_0 x27_2).f2) (l0_1.length : Int) true _ A17.out).mono ?_); rintro e w74 ⟨rfl, hb⟩; refine ⟨_, rfl, ?_⟩; replace BK433 := bbf BK433 hb; replace BK437 := bbp3 BK437 hb; replace HB := bs HB hb; (try clear hb); have hz75 := cs3_ BK437; have hz76 := cs2_ BK433; have p439 : 0 ≤ ((ji26) : Int) := od; have q439 : (ji26) < (l0_1.length : Int) := od; obtain ⟨ad439, A439_2, c439_2, A439_4, c439_4, e439, hx439_0, hx439_1, hx439_2, hx439_3, hx439_4, hl439_2, hi439_2, hl439_4, hi439_4⟩ := at_T52 HR0_1.out (ji26) p439 q439; cases e439; replace hx439_0 := ox HB hx439_0; replace hx439_1 := ox HB hx439_1; replace hx439_2 := ox HB hx439_2; replace hx439_3 := ox HB hx439_3; replace hx439_4 := ox HB hx439_4; have HR439_2 := Aside0.mk hi439_2; have HC439_2 := Aside0.mk hl439_2; clear hi439_2 hl439_2; have HR439_4 := Aside0.mk hi439_4; have HC439_4 := Aside0.mk hl439_4; clear hi439_4 hl439_4; replace p439 := eq_true p439; replace q439 := eq_true q439) | ((with_reducible refine gq 5 rfl ?_); (try (refine gate_guard (by rfl) ?_; dsimp only)); refine bx2 HB BK433 BK437 (N := 5) (cs := #[.int .i64 0, .int .i64 0, .slice none 0 0, .int .i64 0, .slice none 0 0]) (t := 52) ?_; clear HB BK433 BK437; intro gb440 w77 BK440 GE440 HB NB433_440 NB440_433 BK433 NB437_440 NB440_437 BK437; have hnb78 := NB440_433.out; have hnc78 := NB433_440.out; have hnb79 := NB440_437.out; have hnc79 := NB437_440.out; have hz80 := cs5_ BK440) | ((with_reducible refine gf 23 rfl ?_); refine goesL_ (some 51) rfl rfl Tryz.func23 (by kernel_rfl) rfl #[.agg #[.int .i64 ((rd_T52 l0_1 (ji26)).f0), .int .i64 ((rd_T52 l0_1 (ji26)).f1), .slice A439_2 ((rd_T52 l0_1 (ji26)).f2).length c439_2, .int .i64 ((rd_T52 l0_1 (ji26)).f3.f0), .slice A439_4 ((rd_T52 l0_1 (ji26)).f3.f1).length c439_4], .int .i64 x27_2] rfl (by (try simp only [List.map_toArray, List.map_cons, List.map_nil]); first | done | (simp only [hji26]; rfl) | rfl | (simp only [List.length_drop, List.length_take]; rfl)) ?_; (with_reducible refine (impl_Entries.calls k2 ((rd_T52 l0_1 (ji26)).f0) ((rd_T52 l0_1 (ji26)).f1) _ _ ((rd_T52 l0_1 (ji26)).f2) ((rd_T52 l0_1 (ji26)).f3.f0) _ _ ((rd_T52 l0_1 (ji26)).f3.f1) x27_2 t441 t442 t443 false _ ?side1 HC439_2.out ?side3 HC439_4.out A29.out).mono ?_); (case side1 => exact Kd.C_below HR439_2.out (tb HB)); (case side3 => exact Kd.C_below HR439_4.out (tb HB)); rintro e w81 ⟨rfl, hb⟩; refine ⟨_, rfl, ?_⟩; replace BK433 := bbf BK433 hb; replace BK437 := bbf BK437 hb; replace BK440 := bbp5 BK440 hb; replace HB := bs HB hb; (try clear hb)) | ((with_reducible refine gq 6 rfl ?_); (try (refine gate_guard (by rfl) ?_; dsimp only)); refine bx3 HB BK433 BK437 BK440 (N := 6) (cs := #[.int .i64 0, .int .i64 0, .int .i64 0]) (t := 37) ?_; clear HB BK433 BK437 BK440; intro gb445 w82 BK445 GE445 HB NB433_445 NB445_433 BK433 NB437_445 NB445_437 BK437 NB440_445 NB445_440 BK440; have hnb83 := NB445_433.out; have hnc83 := NB433_445.out; have hnb84 := NB445_437.out; have hnc84 := NB437_445.out; have hnb85 := NB445_440.out; have hnc85 := NB440_445.out; have hz86 := cs3_ BK445))
      go_ret
      exact ⟨by first | rfl | (simp [errW_none, errW_some] <;> rfl) | (simp only [← hji26]; first | rfl | (simp [errW_none, errW_some] <;> rfl)) | (simp [*, errW_none, errW_some] <;> rfl), tb HB⟩
     replace H := ipt H
     by_cases c31 : ((rd_T52 l0_1 (ji26)).f0) = ((rd_T39 l0_0 x27_2).f2)
     case neg =>
      rw [if_neg c31] at H
      have c31b0 : (((rd_T52 l0_1 (ji26)).f0) == ((rd_T39 l0_0 x27_2).f2)) = false := beq_eq_false_iff_ne.mpr c31
      have c31b1 : (((rd_T52 l0_1 (ji26)).f0) != ((rd_T39 l0_0 x27_2).f2)) = true := bne_iff_ne.mpr c31
      obtain rfl := oin H
      have p436 : 0 ≤ (x27_2 : Int) := od
      have q436 : x27_2 < (l0_0.length : Int) := od
      obtain ⟨ad436, e436, hx436_0, hx436_1, hx436_2⟩ := at_T39 HR0_0.out x27_2 p436 q436
      cases e436
      replace hx436_0 := ox HB hx436_0
      replace hx436_1 := ox HB hx436_1
      replace hx436_2 := ox HB hx436_2
      replace p436 := eq_true p436
      replace q436 := eq_true q436
      go_wp2_with (first | ((with_reducible refine gq 4 rfl ?_); (try (refine gate_guard (by rfl) ?_; dsimp only)); refine bx1 HB BK433 (N := 4) (cs := #[.int .i64 0, .int .i64 0, .int .i64 0]) (t := 39) ?_; clear HB BK433; intro gb437 w51 BK437 GE437 HB NB433_437 NB437_433 BK433; have hnb52 := NB437_433.out; have hnc52 := NB433_437.out; have hz53 := cs3_ BK437; have hz54 := cs2_ BK433) | ((with_reducible refine gf 79 rfl ?_); refine gL 36 Tryz.func79 #[.agg #[.int .i64 ((rd_T39 l0_0 x27_2).f0), .int .i64 ((rd_T39 l0_0 x27_2).f1), .int .i64 ((rd_T39 l0_0 x27_2).f2)], .int .i64 (l0_1.length : Int)] ?_; (with_reducible refine (impl_WordOk.calls ((rd_T39 l0_0 x27_2).f0) ((rd_T39 l0_0 x27_2).f1) ((rd_T39 l0_0 x27_2).f2) (l0_1.length : Int) true _ A17.out).mono ?_); rintro e w55 ⟨rfl, hb⟩; refine ⟨_, rfl, ?_⟩; replace BK433 := bbf BK433 hb; replace BK437 := bbp3 BK437 hb; replace HB := bs HB hb; (try clear hb); have hz56 := cs3_ BK437; have hz57 := cs2_ BK433; have p439 : 0 ≤ ((ji26) : Int) := od; have q439 : (ji26) < (l0_1.length : Int) := od; obtain ⟨ad439, A439_2, c439_2, A439_4, c439_4, e439, hx439_0, hx439_1, hx439_2, hx439_3, hx439_4, hl439_2, hi439_2, hl439_4, hi439_4⟩ := at_T52 HR0_1.out (ji26) p439 q439; cases e439; replace hx439_0 := ox HB hx439_0; replace hx439_1 := ox HB hx439_1; replace hx439_2 := ox HB hx439_2; replace hx439_3 := ox HB hx439_3; replace hx439_4 := ox HB hx439_4; have HR439_2 := Aside0.mk hi439_2; have HC439_2 := Aside0.mk hl439_2; clear hi439_2 hl439_2; have HR439_4 := Aside0.mk hi439_4; have HC439_4 := Aside0.mk hl439_4; clear hi439_4 hl439_4; replace p439 := eq_true p439; replace q439 := eq_true q439) | ((with_reducible refine gq 5 rfl ?_); (try (refine gate_guard (by rfl) ?_; dsimp only)); refine bx2 HB BK433 BK437 (N := 5) (cs := #[.int .i64 0, .int .i64 0, .slice none 0 0, .int .i64 0, .slice none 0 0]) (t := 52) ?_; clear HB BK433 BK437; intro gb440 w58 BK440 GE440 HB NB433_440 NB440_433 BK433 NB437_440 NB440_437 BK437; have hnb59 := NB440_433.out; have hnc59 := NB433_440.out; have hnb60 := NB440_437.out; have hnc60 := NB437_440.out; have hz61 := cs5_ BK440) | ((with_reducible refine gf 23 rfl ?_); refine goesL_ (some 51) rfl rfl Tryz.func23 (by kernel_rfl) rfl #[.agg #[.int .i64 ((rd_T52 l0_1 (ji26)).f0), .int .i64 ((rd_T52 l0_1 (ji26)).f1), .slice A439_2 ((rd_T52 l0_1 (ji26)).f2).length c439_2, .int .i64 ((rd_T52 l0_1 (ji26)).f3.f0), .slice A439_4 ((rd_T52 l0_1 (ji26)).f3.f1).length c439_4], .int .i64 x27_2] rfl (by (try simp only [List.map_toArray, List.map_cons, List.map_nil]); first | done | (simp only [hji26]; rfl) | rfl | (simp only [List.length_drop, List.length_take]; rfl)) ?_; (with_reducible refine (impl_Entries.calls k2 ((rd_T52 l0_1 (ji26)).f0) ((rd_T52 l0_1 (ji26)).f1) _ _ ((rd_T52 l0_1 (ji26)).f2) ((rd_T52 l0_1 (ji26)).f3.f0) _ _ ((rd_T52 l0_1 (ji26)).f3.f1) x27_2 t441 t442 t443 true _ ?side1 HC439_2.out ?side3 HC439_4.out A29.out).mono ?_); (case side1 => exact Kd.C_below HR439_2.out (tb HB)); (case side3 => exact Kd.C_below HR439_4.out (tb HB)); rintro e w62 ⟨rfl, hb⟩; refine ⟨_, rfl, ?_⟩; replace BK433 := bbf BK433 hb; replace BK437 := bbf BK437 hb; replace BK440 := bbp5 BK440 hb; replace HB := bs HB hb; (try clear hb)) | ((with_reducible refine gq 6 rfl ?_); (try (refine gate_guard (by rfl) ?_; dsimp only)); refine bx3 HB BK433 BK437 BK440 (N := 6) (cs := #[.int .i64 0, .int .i64 0, .int .i64 0]) (t := 37) ?_; clear HB BK433 BK437 BK440; intro gb445 w63 BK445 GE445 HB NB433_445 NB445_433 BK433 NB437_445 NB445_437 BK437 NB440_445 NB445_440 BK440; have hnb64 := NB445_433.out; have hnc64 := NB433_445.out; have hnb65 := NB445_437.out; have hnc65 := NB437_445.out; have hnb66 := NB445_440.out; have hnc66 := NB440_445.out; have hz67 := cs3_ BK445; have hz68 := cs5_ BK440; have hz69 := cs3_ BK437))
      go_ret
      exact ⟨by first | rfl | (simp [errW_none, errW_some] <;> rfl) | (simp only [← hji26]; first | rfl | (simp [errW_none, errW_some] <;> rfl)) | (simp [*, errW_none, errW_some] <;> rfl), tb HB⟩
     rw [if_pos c31] at H
     have c31b0 : (((rd_T52 l0_1 (ji26)).f0) == ((rd_T39 l0_0 x27_2).f2)) = true := beq_iff_eq.mpr c31
     have c31b1 : (((rd_T52 l0_1 (ji26)).f0) != ((rd_T39 l0_0 x27_2).f2)) = false := bne_eq_false_iff_eq.mpr c31
     clear c31
     have H' := Aside0.mk H
     clear H
     have p436 : 0 ≤ (x27_2 : Int) := od
     have q436 : x27_2 < (l0_0.length : Int) := od
     obtain ⟨ad436, e436, hx436_0, hx436_1, hx436_2⟩ := at_T39 HR0_0.out x27_2 p436 q436
     cases e436
     replace hx436_0 := ox HB hx436_0
     replace hx436_1 := ox HB hx436_1
     replace hx436_2 := ox HB hx436_2
     replace p436 := eq_true p436
     replace q436 := eq_true q436
     go_wp2_with (first | ((with_reducible refine gq 4 rfl ?_); (try (refine gate_guard (by rfl) ?_; dsimp only)); refine bx1 HB BK433 (N := 4) (cs := #[.int .i64 0, .int .i64 0, .int .i64 0]) (t := 39) ?_; clear HB BK433; intro gb437 w32 BK437 GE437 HB NB433_437 NB437_433 BK433; have hnb33 := NB437_433.out; have hnc33 := NB433_437.out; have hz34 := cs3_ BK437; have hz35 := cs2_ BK433) | ((with_reducible refine gf 79 rfl ?_); refine gL 36 Tryz.func79 #[.agg #[.int .i64 ((rd_T39 l0_0 x27_2).f0), .int .i64 ((rd_T39 l0_0 x27_2).f1), .int .i64 ((rd_T39 l0_0 x27_2).f2)], .int .i64 (l0_1.length : Int)] ?_; (with_reducible refine (impl_WordOk.calls ((rd_T39 l0_0 x27_2).f0) ((rd_T39 l0_0 x27_2).f1) ((rd_T39 l0_0 x27_2).f2) (l0_1.length : Int) true _ A17.out).mono ?_); rintro e w36 ⟨rfl, hb⟩; refine ⟨_, rfl, ?_⟩; replace BK433 := bbf BK433 hb; replace BK437 := bbp3 BK437 hb; replace HB := bs HB hb; (try clear hb); have hz37 := cs3_ BK437; have hz38 := cs2_ BK433; have p439 : 0 ≤ ((ji26) : Int) := od; have q439 : (ji26) < (l0_1.length : Int) := od; obtain ⟨ad439, A439_2, c439_2, A439_4, c439_4, e439, hx439_0, hx439_1, hx439_2, hx439_3, hx439_4, hl439_2, hi439_2, hl439_4, hi439_4⟩ := at_T52 HR0_1.out (ji26) p439 q439; cases e439; replace hx439_0 := ox HB hx439_0; replace hx439_1 := ox HB hx439_1; replace hx439_2 := ox HB hx439_2; replace hx439_3 := ox HB hx439_3; replace hx439_4 := ox HB hx439_4; have HR439_2 := Aside0.mk hi439_2; have HC439_2 := Aside0.mk hl439_2; clear hi439_2 hl439_2; have HR439_4 := Aside0.mk hi439_4; have HC439_4 := Aside0.mk hl439_4; clear hi439_4 hl439_4; replace p439 := eq_true p439; replace q439 := eq_true q439) | ((with_reducible refine gq 5 rfl ?_); (try (refine gate_guard (by rfl) ?_; dsimp only)); refine bx2 HB BK433 BK437 (N := 5) (cs := #[.int .i64 0, .int .i64 0, .slice none 0 0, .int .i64 0, .slice none 0 0]) (t := 52) ?_; clear HB BK433 BK437; intro gb440 w39 BK440 GE440 HB NB433_440 NB440_433 BK433 NB437_440 NB440_437 BK437; have hnb40 := NB440_433.out; have hnc40 := NB433_440.out; have hnb41 := NB440_437.out; have hnc41 := NB437_440.out; have hz42 := cs5_ BK440) | ((with_reducible refine gf 23 rfl ?_); refine goesL_ (some 51) rfl rfl Tryz.func23 (by kernel_rfl) rfl #[.agg #[.int .i64 ((rd_T52 l0_1 (ji26)).f0), .int .i64 ((rd_T52 l0_1 (ji26)).f1), .slice A439_2 ((rd_T52 l0_1 (ji26)).f2).length c439_2, .int .i64 ((rd_T52 l0_1 (ji26)).f3.f0), .slice A439_4 ((rd_T52 l0_1 (ji26)).f3.f1).length c439_4], .int .i64 x27_2] rfl (by (try simp only [List.map_toArray, List.map_cons, List.map_nil]); first | done | (simp only [hji26]; rfl) | rfl | (simp only [List.length_drop, List.length_take]; rfl)) ?_; (with_reducible refine (impl_Entries.calls k2 ((rd_T52 l0_1 (ji26)).f0) ((rd_T52 l0_1 (ji26)).f1) _ _ ((rd_T52 l0_1 (ji26)).f2) ((rd_T52 l0_1 (ji26)).f3.f0) _ _ ((rd_T52 l0_1 (ji26)).f3.f1) x27_2 t441 t442 t443 true _ ?side1 HC439_2.out ?side3 HC439_4.out A29.out).mono ?_); (case side1 => exact Kd.C_below HR439_2.out (tb HB)); (case side3 => exact Kd.C_below HR439_4.out (tb HB)); rintro e w43 ⟨rfl, hb⟩; refine ⟨_, rfl, ?_⟩; replace BK433 := bbf BK433 hb; replace BK437 := bbf BK437 hb; replace BK440 := bbp5 BK440 hb; replace HB := bs HB hb; (try clear hb)) | ((with_reducible refine gq 6 rfl ?_); (try (refine gate_guard (by rfl) ?_; dsimp only)); refine bx3 HB BK433 BK437 BK440 (N := 6) (cs := #[.int .i64 0, .int .i64 0, .int .i64 0]) (t := 37) ?_; clear HB BK433 BK437 BK440; intro gb445 w44 BK445 GE445 HB NB433_445 NB445_433 BK433 NB437_445 NB445_437 BK437 NB440_445 NB445_440 BK440; have hnb45 := NB445_433.out; have hnc45 := NB433_445.out; have hnb46 := NB445_437.out; have hnc46 := NB437_445.out; have hnb47 := NB445_440.out; have hnc47 := NB440_445.out; have hz48 := cs3_ BK445; have hz49 := cs5_ BK440; have hz50 := cs3_ BK437))
     go_roundg k2
     case measure => have := HJ1.out; have := HK2.out; omega
     case rel => exact ⟨(wrap64 (x27_2 + 1)), rsd, H', ⟨by have := HJ1.out; have := HK2.out; omega⟩, ⟨bf BK433⟩, ⟨tb HB⟩⟩
mutual
def impl_ThreadOk.j0 : Nat → Bool → List (S132) → Int → Bool → List (S145) → List (S42) → Int → Option (Bool)
 | 0, _, _, _, _, _, _, _ => none
 | k + 1, x46, x461000, x461001, x461002, x461003, x461004, x462000 => if x46 = true then (some false) else (if x461002 = true then (impl_ThreadOk.j1 k false x461000 x461001 x461002 x461003 x461004 x462000) else (impl_ThreadOk.j1 k (decide ((wrap64 ((x461003.length : Int) + (x461004.length : Int))) > 0)) x461000 x461001 x461002 x461003 x461004 x462000))
def impl_ThreadOk.j1 : Nat → Bool → List (S132) → Int → Bool → List (S145) → List (S42) → Int → Option (Bool)
 | 0, _, _, _, _, _, _, _ => none
 | k + 1, x59, x461000, x461001, x461002, x461003, x461004, x462000 => if x59 = true then (some false) else ((impl_ThreadOk_2_any.f x461003).bind fun t464 => (if t464 = true then (some false) else ((impl_ThreadOk_3_any.f x461004 x462000).bind fun t465 => (some (!t465)))))
end
def impl_ThreadOk.f (k : Nat) (l0_0 : List (S132)) (a0_1 : Int) (a0_2 : Bool) (l0_3 : List (S145)) (l0_4 : List (S42)) (a1 : Int) : Option (Bool) := if (l0_0.length : Int) > 8 then (impl_ThreadOk.j0 k true l0_0 a0_1 a0_2 l0_3 l0_4 a1) else ((impl_ThreadOk_1_any.f k l0_0).bind fun t462 => (if t462 = true then (impl_ThreadOk.j0 k true l0_0 a0_1 a0_2 l0_3 l0_4 a1) else ((impl_from.f a0_1 0 (l0_0.length : Int)).bind fun t463 => (if t463 = true then (if a0_2 = true then (if a0_1 = (l0_0.length : Int) then (impl_ThreadOk.j0 k true l0_0 a0_1 a0_2 l0_3 l0_4 a1) else (if (l0_3.length : Int) > 12 then (impl_ThreadOk.j0 k true l0_0 a0_1 a0_2 l0_3 l0_4 a1) else (impl_ThreadOk.j0 k (decide ((l0_4.length : Int) > 2)) l0_0 a0_1 a0_2 l0_3 l0_4 a1))) else (if (l0_3.length : Int) > 12 then (impl_ThreadOk.j0 k true l0_0 a0_1 a0_2 l0_3 l0_4 a1) else (impl_ThreadOk.j0 k (decide ((l0_4.length : Int) > 2)) l0_0 a0_1 a0_2 l0_3 l0_4 a1))) else (impl_ThreadOk.j0 k true l0_0 a0_1 a0_2 l0_3 l0_4 a1)))))
set_option maxHeartbeats 8000000 in
set_option maxRecDepth 100000 in
theorem impl_ThreadOk.calls (k : Nat) (A0_0 : Option Addr) (c0_0 : Nat) (l0_0 : List (S132)) (a0_1 : Int) (a0_2 : Bool) (A0_3 : Option Addr) (c0_3 : Nat) (l0_3 : List (S145)) (A0_4 : Option Addr) (c0_4 : Nat) (l0_4 : List (S42)) (a1 : Int) (r : Bool) (w : World) (hr0_0 : Kd.C k132 w A0_0 l0_0.length l0_0) (hc0_0 : l0_0.length ≤ c0_0) (hr0_3 : Kd.C k145 w A0_3 l0_3.length l0_3) (hc0_3 : l0_3.length ≤ c0_3) (hr0_4 : Kd.C k42 w A0_4 l0_4.length l0_4) (hc0_4 : l0_4.length ≤ c0_4) (h : impl_ThreadOk.f k l0_0 a0_1 a0_2 l0_3 l0_4 a1 = some r) :
  Calls Tryz.prog 47 #[.agg #[.slice A0_0 l0_0.length c0_0, .int .i64 a0_1, .bool a0_2, .slice A0_3 l0_3.length c0_3, .slice A0_4 l0_4.length c0_4], .int .i64 a1] w fun e w' => e = .returned (.bool r) ∧ Below w.heap.size w w' := by
 have hu82 := Tryz.underlying82
 have HR0_0 := Aside0.mk hr0_0
 have HC0_0 := Aside0.mk hc0_0
 clear hr0_0 hc0_0
 have HR0_3 := Aside0.mk hr0_3
 have HC0_3 := Aside0.mk hc0_3
 clear hr0_3 hc0_3
 have HR0_4 := Aside0.mk hr0_4
 have HC0_4 := Aside0.mk hc0_4
 clear hr0_4 hc0_4
 have HB := Aside0.mk (Below.refl w.heap.size w)
 have H := h
 clear h
 unfold impl_ThreadOk.f at H
 have HC3 := Aside0.mk H
 clear H
 go_enter Tryz.func47, Tryz.ntmps47
 go_upto_region 1 with (first | ((with_reducible refine gq 2 rfl ?_); (try (refine gate_guard (by rfl) ?_; dsimp only)); refine bx0 HB (N := 2) (t := 82) ?_; clear HB; intro gb460 w4 BK460 GE460 HB) | ((with_reducible refine gq 3 rfl ?_); (try (refine gate_guard (by rfl) ?_; dsimp only)); refine bx1 HB BK460 (N := 3) (t := 3) ?_; clear HB BK460; intro gb461 w5 BK461 GE461 HB NB460_461 NB461_460 BK460))
 (try simp only [Act.put, sA, sB, sC])
 go_cut [46] (fun v46 wc => ∃ (kq : Nat) (x46_2 : Bool), v46 = .bool x46_2 ∧ Aside0 (impl_ThreadOk.j0 kq x46_2 l0_0 a0_1 a0_2 l0_3 l0_4 a1 = some r) ∧ Aside0 (kq ≤ k) ∧ Aside0 (wc.heap[gb460]? = some (.cells #[(.slice A0_0 l0_0.length c0_0), .int .i64 a0_1, .bool a0_2, (.slice A0_3 l0_3.length c0_3), (.slice A0_4 l0_4.length c0_4)] 82 (0, 0))) ∧ Aside0 (wc.heap[gb461]? = some (.cells #[.int .i64 a1] 3 (0, 0))) ∧ Aside0 (Below w.heap.size w wc))
 case first =>
  have H := HC3.out
  clear HC3
  by_cases c6 : (l0_0.length : Int) > 8
  case pos =>
   rw [if_pos c6] at H
   have c6b0 := decide_eq_true c6
   have c6b1 : decide (8 < l0_0.length) = true := decide_eq_true (by omega)
   clear c6
   (first | rw [c6b0] | (simp only [i64_w, i32_w]; rw [c6b0]) | skip)
   have H' := Aside0.mk H
   clear H
   have hnb7 := NB460_461.out
   have hnc7 := NB461_460.out
   have hz8 := cs5_ BK460
   go_wp2
   go_meet
   case rel => exact ⟨_, (true), rsd, H', ⟨by first | omega | exact Nat.le_refl _⟩, ⟨by (with_reducible repeat (first | refine blk_drewN ?_ _ | refine blk_drew ?_ | refine blk_alloc ?_ _)); exact BK460.out⟩, ⟨by (with_reducible repeat (first | refine blk_drewN ?_ _ | refine blk_drew ?_ | refine blk_alloc ?_ _)); exact BK461.out⟩, ⟨tb HB⟩⟩
  rw [if_neg c6] at H
  have c6b0 := decide_eq_false c6
  have c6b1 : decide (8 < l0_0.length) = false := decide_eq_false (by omega)
  clear c6
  (first | rw [c6b0] | (simp only [i64_w, i32_w]; rw [c6b0]) | skip)
  obtain ⟨t462, A9, H⟩ := bn H
  try dsimp only at H
  cases t462
  case true =>
   replace H := ipt H
   have H' := Aside0.mk H
   clear H
   have hnb11 := NB460_461.out
   have hnc11 := NB461_460.out
   have hz12 := cs5_ BK460
   go_wp2_with (first | (go_at_call 110; (with_reducible refine (impl_ThreadOk_1_any.calls k _ _ l0_0 true _ (kc HR0_0 HB) HC0_0.out A9.out).mono ?_); rintro e w13 ⟨rfl, hb⟩; replace BK460 := bb BK460 hb; replace BK461 := bb BK461 hb; replace HB := bs HB hb; (try clear hb)))
   go_meet
   case rel => exact ⟨_, (true), rsd, H', ⟨by first | omega | exact Nat.le_refl _⟩, ⟨by (with_reducible repeat (first | refine blk_drewN ?_ _ | refine blk_drew ?_ | refine blk_alloc ?_ _)); exact BK460.out⟩, ⟨by (with_reducible repeat (first | refine blk_drewN ?_ _ | refine blk_drew ?_ | refine blk_alloc ?_ _)); exact BK461.out⟩, ⟨tb HB⟩⟩
  replace H := ipf H
  obtain ⟨t463, A14, H⟩ := bn H
  try dsimp only at H
  cases t463
  case false =>
   replace H := ipf H
   have H' := Aside0.mk H
   clear H
   have hnb40 := NB460_461.out
   have hnc40 := NB461_460.out
   have hz41 := cs5_ BK460
   go_wp2_with (first | (go_at_call 110; (with_reducible refine (impl_ThreadOk_1_any.calls k _ _ l0_0 false _ (kc HR0_0 HB) HC0_0.out A9.out).mono ?_); rintro e w42 ⟨rfl, hb⟩; replace BK460 := bb BK460 hb; replace BK461 := bb BK461 hb; replace HB := bs HB hb; (try clear hb); have hz43 := cs5_ BK460) | (go_at_call 62; (with_reducible refine (impl_from.calls a0_1 0 (l0_0.length : Int) false _ A14.out).mono ?_); rintro e w' ⟨rfl, ⟨nd, rfl⟩⟩))
   go_meet
   case rel => exact ⟨_, (true), rsd, H', ⟨by first | omega | exact Nat.le_refl _⟩, ⟨by (with_reducible repeat (first | refine blk_drewN ?_ _ | refine blk_drew ?_ | refine blk_alloc ?_ _)); exact BK460.out⟩, ⟨by (with_reducible repeat (first | refine blk_drewN ?_ _ | refine blk_drew ?_ | refine blk_alloc ?_ _)); exact BK461.out⟩, ⟨tb HB⟩⟩
  replace H := ipt H
  cases a0_2
  case false =>
   replace H := ipf H
   by_cases c31 : (l0_3.length : Int) > 12
   case neg =>
    rw [if_neg c31] at H
    have c31b0 := decide_eq_false c31
    have c31b1 : decide (12 < l0_3.length) = false := decide_eq_false (by omega)
    clear c31
    have H' := Aside0.mk H
    clear H
    have hnb36 := NB460_461.out
    have hnc36 := NB461_460.out
    have hz37 := cs5_ BK460
    go_wp2_with (first | (go_at_call 110; (with_reducible refine (impl_ThreadOk_1_any.calls k _ _ l0_0 false _ (kc HR0_0 HB) HC0_0.out A9.out).mono ?_); rintro e w38 ⟨rfl, hb⟩; replace BK460 := bb BK460 hb; replace BK461 := bb BK461 hb; replace HB := bs HB hb; (try clear hb); have hz39 := cs5_ BK460) | (go_at_call 62; (with_reducible refine (impl_from.calls a0_1 0 (l0_0.length : Int) true _ A14.out).mono ?_); rintro e w' ⟨rfl, ⟨nd, rfl⟩⟩))
    go_meet
    case rel => exact ⟨_, (decide ((l0_4.length : Int) > 2)), rsd, H', ⟨by first | omega | exact Nat.le_refl _⟩, ⟨by (with_reducible repeat (first | refine blk_drewN ?_ _ | refine blk_drew ?_ | refine blk_alloc ?_ _)); exact BK460.out⟩, ⟨by (with_reducible repeat (first | refine blk_drewN ?_ _ | refine blk_drew ?_ | refine blk_alloc ?_ _)); exact BK461.out⟩, ⟨tb HB⟩⟩
   rw [if_pos c31] at H
   have c31b0 := decide_eq_true c31
   have c31b1 : decide (12 < l0_3.length) = true := decide_eq_true (by omega)
   clear c31
   have H' := Aside0.mk H
   clear H
   have hnb32 := NB460_461.out
   have hnc32 := NB461_460.out
   have hz33 := cs5_ BK460
   go_wp2_with (first | (go_at_call 110; (with_reducible refine (impl_ThreadOk_1_any.calls k _ _ l0_0 false _ (kc HR0_0 HB) HC0_0.out A9.out).mono ?_); rintro e w34 ⟨rfl, hb⟩; replace BK460 := bb BK460 hb; replace BK461 := bb BK461 hb; replace HB := bs HB hb; (try clear hb); have hz35 := cs5_ BK460) | (go_at_call 62; (with_reducible refine (impl_from.calls a0_1 0 (l0_0.length : Int) true _ A14.out).mono ?_); rintro e w' ⟨rfl, ⟨nd, rfl⟩⟩))
   go_meet
   case rel => exact ⟨_, (true), rsd, H', ⟨by first | omega | exact Nat.le_refl _⟩, ⟨by (with_reducible repeat (first | refine blk_drewN ?_ _ | refine blk_drew ?_ | refine blk_alloc ?_ _)); exact BK460.out⟩, ⟨by (with_reducible repeat (first | refine blk_drewN ?_ _ | refine blk_drew ?_ | refine blk_alloc ?_ _)); exact BK461.out⟩, ⟨tb HB⟩⟩
  replace H := ipt H
  by_cases c17 : a0_1 = (l0_0.length : Int)
  case pos =>
   rw [if_pos c17] at H
   have c17b0 : (a0_1 == (l0_0.length : Int)) = true := beq_iff_eq.mpr c17
   have c17b1 : (a0_1 != (l0_0.length : Int)) = false := bne_eq_false_iff_eq.mpr c17
   clear c17
   have H' := Aside0.mk H
   clear H
   have hnb18 := NB460_461.out
   have hnc18 := NB461_460.out
   have hz19 := cs5_ BK460
   go_wp2_with (first | (go_at_call 110; (with_reducible refine (impl_ThreadOk_1_any.calls k _ _ l0_0 false _ (kc HR0_0 HB) HC0_0.out A9.out).mono ?_); rintro e w20 ⟨rfl, hb⟩; replace BK460 := bb BK460 hb; replace BK461 := bb BK461 hb; replace HB := bs HB hb; (try clear hb); have hz21 := cs5_ BK460) | (go_at_call 62; (with_reducible refine (impl_from.calls a0_1 0 (l0_0.length : Int) true _ A14.out).mono ?_); rintro e w' ⟨rfl, ⟨nd, rfl⟩⟩))
   go_meet
   case rel => exact ⟨_, (true), rsd, H', ⟨by first | omega | exact Nat.le_refl _⟩, ⟨by (with_reducible repeat (first | refine blk_drewN ?_ _ | refine blk_drew ?_ | refine blk_alloc ?_ _)); exact BK460.out⟩, ⟨by (with_reducible repeat (first | refine blk_drewN ?_ _ | refine blk_drew ?_ | refine blk_alloc ?_ _)); exact BK461.out⟩, ⟨tb HB⟩⟩
  rw [if_neg c17] at H
  have c17b0 : (a0_1 == (l0_0.length : Int)) = false := beq_eq_false_iff_ne.mpr c17
  have c17b1 : (a0_1 != (l0_0.length : Int)) = true := bne_iff_ne.mpr c17
  by_cases c22 : (l0_3.length : Int) > 12
  case neg =>
   rw [if_neg c22] at H
   have c22b0 := decide_eq_false c22
   have c22b1 : decide (12 < l0_3.length) = false := decide_eq_false (by omega)
   clear c22
   have H' := Aside0.mk H
   clear H
   have hnb27 := NB460_461.out
   have hnc27 := NB461_460.out
   have hz28 := cs5_ BK460
   go_wp2_with (first | (go_at_call 110; (with_reducible refine (impl_ThreadOk_1_any.calls k _ _ l0_0 false _ (kc HR0_0 HB) HC0_0.out A9.out).mono ?_); rintro e w29 ⟨rfl, hb⟩; replace BK460 := bb BK460 hb; replace BK461 := bb BK461 hb; replace HB := bs HB hb; (try clear hb); have hz30 := cs5_ BK460) | (go_at_call 62; (with_reducible refine (impl_from.calls a0_1 0 (l0_0.length : Int) true _ A14.out).mono ?_); rintro e w' ⟨rfl, ⟨nd, rfl⟩⟩))
   go_meet
   case rel => exact ⟨_, (decide ((l0_4.length : Int) > 2)), rsd, H', ⟨by first | omega | exact Nat.le_refl _⟩, ⟨by (with_reducible repeat (first | refine blk_drewN ?_ _ | refine blk_drew ?_ | refine blk_alloc ?_ _)); exact BK460.out⟩, ⟨by (with_reducible repeat (first | refine blk_drewN ?_ _ | refine blk_drew ?_ | refine blk_alloc ?_ _)); exact BK461.out⟩, ⟨tb HB⟩⟩
  rw [if_pos c22] at H
  have c22b0 := decide_eq_true c22
  have c22b1 : decide (12 < l0_3.length) = true := decide_eq_true (by omega)
  clear c22
  have H' := Aside0.mk H
  clear H
  have hnb23 := NB460_461.out
  have hnc23 := NB461_460.out
  have hz24 := cs5_ BK460
  go_wp2_with (first | (go_at_call 110; (with_reducible refine (impl_ThreadOk_1_any.calls k _ _ l0_0 false _ (kc HR0_0 HB) HC0_0.out A9.out).mono ?_); rintro e w25 ⟨rfl, hb⟩; replace BK460 := bb BK460 hb; replace BK461 := bb BK461 hb; replace HB := bs HB hb; (try clear hb); have hz26 := cs5_ BK460) | (go_at_call 62; (with_reducible refine (impl_from.calls a0_1 0 (l0_0.length : Int) true _ A14.out).mono ?_); rintro e w' ⟨rfl, ⟨nd, rfl⟩⟩))
  go_meet
  case rel => exact ⟨_, (true), rsd, H', ⟨by first | omega | exact Nat.le_refl _⟩, ⟨by (with_reducible repeat (first | refine blk_drewN ?_ _ | refine blk_drew ?_ | refine blk_alloc ?_ _)); exact BK460.out⟩, ⟨by (with_reducible repeat (first | refine blk_drewN ?_ _ | refine blk_drew ?_ | refine blk_alloc ?_ _)); exact BK461.out⟩, ⟨tb HB⟩⟩
 case rest =>
  clear HC3
  obtain ⟨kq, x46_2, rfl, HA, HJ2, BK460, BK461, HB⟩ := hcut
  cases kq with
  | zero => exact absurd HA.out (by simp [impl_ThreadOk.j0])
  | succ kj2 =>
   have H := HA.out
   clear HA
   simp only [impl_ThreadOk.j0] at H
   cases x46_2
   case true =>
    replace H := ipt H
    obtain rfl := oin H
    go_wp2
    go_ret
    exact ⟨er, tb HB⟩
   replace H := ipf H
   have HC45 := Aside0.mk H
   clear H
   go_upto_region 3 with (fail)
   go_cut [59] (fun v59 wc => ∃ (kq : Nat) (x59_44 : Bool), v59 = .bool x59_44 ∧ Aside0 (impl_ThreadOk.j1 kq x59_44 l0_0 a0_1 a0_2 l0_3 l0_4 a1 = some r) ∧ Aside0 (kq ≤ kj2) ∧ Aside0 (wc.heap[gb460]? = some (.cells #[(.slice A0_0 l0_0.length c0_0), .int .i64 a0_1, .bool a0_2, (.slice A0_3 l0_3.length c0_3), (.slice A0_4 l0_4.length c0_4)] 82 (0, 0))) ∧ Aside0 (wc.heap[gb461]? = some (.cells #[.int .i64 a1] 3 (0, 0))) ∧ Aside0 (Below w.heap.size w wc))
   case first =>
    have H := HC45.out
    clear HC45
    cases a0_2
    case true =>
     replace H := ipt H
     have H' := Aside0.mk H
     clear H
     have hnb47 := NB460_461.out
     have hnc47 := NB461_460.out
     have hz48 := cs5_ BK460
     go_wp2
     go_meet
     case rel => exact ⟨_, (false), rsd, H', ⟨by have := HJ2.out; first | omega | exact Nat.le_refl _⟩, ⟨by (with_reducible repeat (first | refine blk_drewN ?_ _ | refine blk_drew ?_ | refine blk_alloc ?_ _)); exact BK460.out⟩, ⟨by (with_reducible repeat (first | refine blk_drewN ?_ _ | refine blk_drew ?_ | refine blk_alloc ?_ _)); exact BK461.out⟩, ⟨tb HB⟩⟩
    replace H := ipf H
    have H' := Aside0.mk H
    clear H
    have hnb49 := NB460_461.out
    have hnc49 := NB461_460.out
    have hz50 := cs5_ BK460
    go_wp2
    go_meet
    case rel => exact ⟨_, (decide ((wrap64 ((l0_3.length : Int) + (l0_4.length : Int))) > 0)), rsd, H', ⟨by have := HJ2.out; first | omega | exact Nat.le_refl _⟩, ⟨by (with_reducible repeat (first | refine blk_drewN ?_ _ | refine blk_drew ?_ | refine blk_alloc ?_ _)); exact BK460.out⟩, ⟨by (with_reducible repeat (first | refine blk_drewN ?_ _ | refine blk_drew ?_ | refine blk_alloc ?_ _)); exact BK461.out⟩, ⟨tb HB⟩⟩
   case rest =>
    clear HC45
    obtain ⟨kq, x59_44, rfl, HA, HJ44, BK460, BK461, HB⟩ := hcut
    cases kq with
    | zero => exact absurd HA.out (by simp [impl_ThreadOk.j1])
    | succ kj44 =>
     have H := HA.out
     clear HA
     simp only [impl_ThreadOk.j1] at H
     cases x59_44
     case true =>
      replace H := ipt H
      obtain rfl := oin H
      go_wp2
      go_ret
      exact ⟨er, tb HB⟩
     replace H := ipf H
     obtain ⟨t464, A52, H⟩ := bn H
     try dsimp only at H
     cases t464
     case true =>
      replace H := ipt H
      obtain rfl := oin H
      have hnb54 := NB460_461.out
      have hnc54 := NB461_460.out
      have hz55 := cs5_ BK460
      go_wp2_with (first | ((with_reducible refine gf 112 rfl ?_); refine gL 62 Tryz.func112 #[.slice A0_3 l0_3.length c0_3, .func (.func 113) #[] #[]] ?_; (with_reducible refine (impl_ThreadOk_2_any.calls _ _ l0_3 true _ (kc HR0_3 HB) HC0_3.out A52.out).mono ?_); rintro e w56 ⟨rfl, hb⟩; refine ⟨_, rfl, ?_⟩; replace BK460 := bb BK460 hb; replace BK461 := bb BK461 hb; replace HB := bs HB hb; (try clear hb)))
      go_ret
      exact ⟨er, tb HB⟩
     replace H := ipf H
     obtain ⟨t465, A57, H⟩ := bn H
     try dsimp only at H
     obtain rfl := oin H
     have hnb58 := NB460_461.out
     have hnc58 := NB461_460.out
     have hz59 := cs5_ BK460
     go_wp2_with (first | ((with_reducible refine gf 112 rfl ?_); refine gL 62 Tryz.func112 #[.slice A0_3 l0_3.length c0_3, .func (.func 113) #[] #[]] ?_; (with_reducible refine (impl_ThreadOk_2_any.calls _ _ l0_3 false _ (kc HR0_3 HB) HC0_3.out A52.out).mono ?_); rintro e w60 ⟨rfl, hb⟩; refine ⟨_, rfl, ?_⟩; replace BK460 := bb BK460 hb; replace BK461 := bb BK461 hb; replace HB := bs HB hb; (try clear hb); have hz61 := cs5_ BK460) | ((with_reducible refine gf 116 rfl ?_); refine gL 66 Tryz.func116 #[.slice A0_4 l0_4.length c0_4, .func (.func 117) #[] #[.pointer (some ⟨gb461, 0, none⟩)]] ?_; (with_reducible refine (impl_ThreadOk_3_any.calls _ _ l0_4 gb461 a1 t465 _ (kc HR0_4 HB) HC0_4.out ?side3 A57.out).mono ?_); (case side3 => exact (bk BK461)); rintro e w62 ⟨rfl, hb⟩; refine ⟨_, rfl, ?_⟩; replace BK460 := bb BK460 hb; replace BK461 := bb BK461 hb; replace HB := bs HB hb; (try clear hb)))
     go_ret
     exact ⟨er, tb HB⟩
end Go.Proofs.YtopikhjcbcpiaaaGreat.Q
section
namespace Go.Proofs.YtopikhjcbcpiaaaGreat.Q
open Go.RowKit Go.Proofs.YtopikhjcbcpiaaaGreatW.PrintWords Go.Proofs.YtopikhjcbcpiaaaGreatW.PrintLast Go.Proofs.YtopikhjcbcpiaaaGreatW.PrintMore
def impl_Finished_1_any.f (l0 : List S82) : Option Bool := anyO (fun x : S82 => impl_Finished_1.f x.f0 x.f1 x.f2 x.f3 x.f4) l0
set_option maxHeartbeats 4000000 in
set_option maxRecDepth 100000 in
theorem impl_Finished_1_idx (A0 : Option Addr) (c0 : Nat) (l0 : List S82) (r : Bool) (w : World) (hr0 : Kd.C k82 w A0 l0.length l0) (h : impl_Finished_1_any.f l0 = some r) :
    Calls Tryz.prog 156 #[.slice A0 l0.length c0, .func (.func 104) #[] #[]] w fun e w' => ∃ n : Int, e = .returned (.int .i64 n) ∧ decide (n ≥ 0) = r ∧ Below w.heap.size w w' := by
  have huE := Tryz.underlying82
  have HR0 := Aside0.mk hr0
  have HM : l0.length ≤ 9223372036854775807 := hr0.2.1
  clear hr0
  have H0 := Aside0.mk h
  clear h
  have HW := Aside0.mk (Below.refl w.heap.size w)
  go_enter Tryz.func156, Tryz.ntmps156
  go_wp2
  go_loopg [5, 8] l0.length (fun gg _ s8 wr => ∃ kk : Nat, kk ≤ l0.length ∧ Aside0 (l0.length - kk ≤ gg) ∧ s8 = .int .i64 kk ∧ Aside0 (anyO (fun x : S82 => impl_Finished_1.f x.f0 x.f1 x.f2 x.f3 x.f4) (l0.drop kk) = some r) ∧ Aside0 (Below w.heap.size w wr))
  case atStart => exact ⟨0, Nat.zero_le _, ⟨by omega⟩, rfl, H0, HW⟩
  case round =>
    obtain ⟨kk, hkk, HF, rfl, HA, HB⟩ := hrel
    clear H0 HW
    by_cases hlt : kk < l0.length
    · have hltz : (kk : Int) < (l0.length : Int) := by omega
      obtain ⟨ad, A0, c0, A3, c3, A4, c4, e, hx0, hx1, hx2, hx3, hx4, hl0, hi0, hl3, hi3, hl4, hi4⟩ := at_T82 HR0.out (kk : Int) (by omega) hltz
      cases e
      replace hx0 := (HB.out.cell (World.block_lt_of_cell? w _ hx0)).trans hx0
      replace hx1 := (HB.out.cell (World.block_lt_of_cell? w _ hx1)).trans hx1
      replace hx2 := (HB.out.cell (World.block_lt_of_cell? w _ hx2)).trans hx2
      replace hx3 := (HB.out.cell (World.block_lt_of_cell? w _ hx3)).trans hx3
      replace hx4 := (HB.out.cell (World.block_lt_of_cell? w _ hx4)).trans hx4
      replace hi0 := Kd.C_below hi0 HB.out
      replace hi3 := Kd.C_below hi3 HB.out
      replace hi4 := Kd.C_below hi4 HB.out
      simp only [Int.toNat_natCast] at hx0 hx1 hx2 hx3 hx4
      have HI0 := Aside0.mk hi0
      have HL0 := Aside0.mk hl0
      clear hi0 hl0
      have HI3 := Aside0.mk hi3
      have HL3 := Aside0.mk hl3
      clear hi3 hl3
      have HI4 := Aside0.mk hi4
      have HL4 := Aside0.mk hl4
      clear hi4 hl4
      obtain ⟨b, hb, ht, hf⟩ := anyO.cons (z := z82) HA.out hlt
      have hb := Aside0.mk (show impl_Finished_1.f (rd_T82 l0 (kk : Int)).f0 (rd_T82 l0 (kk : Int)).f1 (rd_T82 l0 (kk : Int)).f2 (rd_T82 l0 (kk : Int)).f3 (rd_T82 l0 (kk : Int)).f4 = some b from hb)
      replace ht := Aside0.mk ht
      replace hf := Aside0.mk hf
      clear HA
      cases b with
      | true =>
        have HT := Aside0.mk (ht.out rfl)
        clear ht hf
        go_wp2_with (go_at_call 104; (with_reducible refine (impl_Finished_1.calls _ _ (rd_T82 l0 (kk : Int)).f0 (rd_T82 l0 (kk : Int)).f1 (rd_T82 l0 (kk : Int)).f2 _ _ (rd_T82 l0 (kk : Int)).f3 _ _ (rd_T82 l0 (kk : Int)).f4 _ _ HI0.out HL0.out HI3.out HL3.out HI4.out HL4.out hb.out).mono ?_); rintro e w' ⟨rfl, hb'⟩; have HB' := Aside0.mk (below_step HB.out hb'); clear hb')
        go_ret
        exact ⟨_, rfl, by rw [HT.out]; simp, HB'.out⟩
      | false =>
        have HA := Aside0.mk (hf.out rfl)
        clear ht hf
        go_wp2_with (go_at_call 104; (with_reducible refine (impl_Finished_1.calls _ _ (rd_T82 l0 (kk : Int)).f0 (rd_T82 l0 (kk : Int)).f1 (rd_T82 l0 (kk : Int)).f2 _ _ (rd_T82 l0 (kk : Int)).f3 _ _ (rd_T82 l0 (kk : Int)).f4 _ _ HI0.out HL0.out HI3.out HL3.out HI4.out HL4.out hb.out).mono ?_); rintro e w' ⟨rfl, hb'⟩; have HB' := Aside0.mk (below_step HB.out hb'); clear hb')
        go_roundg (l0.length - (kk + 1))
        case measure => have := HF.out; omega
        case rel => exact ⟨kk + 1, by omega, ⟨by omega⟩, by go_num, HA, HB'⟩
    · have hltz : ¬ (kk : Int) < (l0.length : Int) := by omega
      have hr : r = false := anyO.nil HA.out (by omega)
      subst hr
      go_wp2
      go_ret
      exact ⟨_, rfl, by decide, HB.out⟩
set_option maxHeartbeats 2000000 in
theorem impl_Finished_1_any.calls (A0 : Option Addr) (c0 : Nat) (l0 : List S82) (r : Bool) (w : World) (hr0 : Kd.C k82 w A0 l0.length l0) (_hc0 : l0.length ≤ c0) (h : impl_Finished_1_any.f l0 = some r) :
    Calls Tryz.prog 103 #[.slice A0 l0.length c0, .func (.func 104) #[] #[]] w fun e w' => e = .returned (.bool r) ∧ Below w.heap.size w w' := by
  have HC := Aside0.mk (impl_Finished_1_idx A0 c0 l0 r w hr0 h)
  clear hr0 h
  go_enter Tryz.func103, Tryz.ntmps103
  go_wp2_with (go_at_call 156; refine HC.out.mono ?_; rintro e w' ⟨n, rfl, hn, hb⟩; have HN := Aside0.mk hn; have HB := Aside0.mk hb; clear hn hb)
  go_ret
  exact ⟨by rw [← HN.out]; rfl, HB.out⟩
end Go.Proofs.YtopikhjcbcpiaaaGreat.Q
end
