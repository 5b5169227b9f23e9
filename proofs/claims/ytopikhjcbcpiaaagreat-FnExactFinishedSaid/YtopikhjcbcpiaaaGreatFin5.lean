/- Part 5 of the steps by which the law is shown: what each function of the program, of the reference and of the law computes. No condition. -/
import Derived.Test.YtopikhjcbcpiaaaGreatFin0
import Derived.Test.YtopikhjcbcpiaaaGreatFin1
import Derived.Test.YtopikhjcbcpiaaaGreatFin2
import Derived.Test.YtopikhjcbcpiaaaGreatFin3
namespace Go.Proofs.YtopikhjcbcpiaaaGreat.Q
open Go.RowKit Go.Proofs.YtopikhjcbcpiaaaGreatW.PrintWords Go.Proofs.YtopikhjcbcpiaaaGreatW.PrintLast Go.Proofs.YtopikhjcbcpiaaaGreatW.PrintMore
attribute [local go_sem] max2_int min2_int max_two min_two max_three min_three max_four min_four   -- for this text's walks alone
set_option linter.unusedVariables false
set_option linter.unusedSimpArgs false
def laws_szDesc.f (a0_0 : Int) (a0_1 : Int) (l0_2 : List (S236)) (a0_3 : Int) (l0_4 : List Int) (a1 : Int) : Option (Int) := (laws_szEntryS.f l0_2 a1).bind fun t104 => (if t104 < 0 then (some (-1)) else ((laws_szRes.f a0_3 l0_4 t104).bind fun t105 => (if t105 < 0 then (some (-1)) else (some t105))))
set_option maxHeartbeats 8000000 in
set_option maxRecDepth 100000 in
theorem laws_szDesc.calls (a0_0 : Int) (a0_1 : Int) (A0_2 : Option Addr) (c0_2 : Nat) (l0_2 : List (S236)) (a0_3 : Int) (A0_4 : Option Addr) (c0_4 : Nat) (l0_4 : List Int) (a1 : Int) (r : Int) (w : World) (hr0_2 : Kd.C k236 w A0_2 l0_2.length l0_2) (hc0_2 : l0_2.length ≤ c0_2) (hr0_4 : Kd.C (Kd.int .i64) w A0_4 l0_4.length l0_4) (hc0_4 : l0_4.length ≤ c0_4) (h : laws_szDesc.f a0_0 a0_1 l0_2 a0_3 l0_4 a1 = some r) :
  Calls Tryz.prog 169 #[.agg #[.int .i64 a0_0, .int .i64 a0_1, .slice A0_2 l0_2.length c0_2, .int .i64 a0_3, .slice A0_4 l0_4.length c0_4], .int .i64 a1] w fun e w' => e = .returned (.int .i64 r) ∧ Below w.heap.size w w' := by
 have hu201 := Tryz.underlying201
 have hu174 := Tryz.underlying174
 have HR0_2 := Aside0.mk hr0_2
 have HC0_2 := Aside0.mk hc0_2
 clear hr0_2 hc0_2
 have HR0_4 := Aside0.mk hr0_4
 have HC0_4 := Aside0.mk hc0_4
 clear hr0_4 hc0_4
 have HB := Aside0.mk (Below.refl w.heap.size w)
 have H := h
 clear h
 unfold laws_szDesc.f at H
 obtain ⟨t104, A3, H⟩ := bn H
 try dsimp only at H
 revert H; refine icd (fun c4b0 H => ?pos) fun c4b0 H => ?_
 case pos =>
  obtain rfl := oin H
  go_enter Tryz.func169, Tryz.ntmps169
  go_wp2_with (first | ((with_reducible refine gq 2 rfl ?_); refine bx0 HB (N := 2) (t := 201) ?_; clear HB; intro gb103 w5 BK103 GE103 HB; have hz6 := cs5_ BK103) | ((with_reducible refine gf 190 rfl ?_); refine gL 8 Tryz.func190 #[.slice A0_2 l0_2.length c0_2, .int .i64 a1] ?_; (with_reducible refine (laws_szEntryS.calls _ _ l0_2 a1 t104 _ (kc HR0_2 HB) HC0_2.out A3.out).mono ?_); rintro e w' ⟨rfl, ⟨nd, rfl⟩⟩; refine ⟨_, rfl, ?_⟩))
  go_ret
  exact ⟨er, tb HB⟩
 obtain ⟨t105, A7, H⟩ := bn H
 try dsimp only at H
 revert H; refine icd (fun c8b0 H => ?pos) fun c8b0 H => ?_
 case pos =>
  obtain rfl := oin H
  go_enter Tryz.func169, Tryz.ntmps169
  go_wp2_with (first | ((with_reducible refine gq 2 rfl ?_); refine bx0 HB (N := 2) (t := 201) ?_; clear HB; intro gb103 w9 BK103 GE103 HB; have hz10 := cs5_ BK103) | ((with_reducible refine gf 190 rfl ?_); refine gL 8 Tryz.func190 #[.slice A0_2 l0_2.length c0_2, .int .i64 a1] ?_; (with_reducible refine (laws_szEntryS.calls _ _ l0_2 a1 t104 _ (kc HR0_2 HB) HC0_2.out A3.out).mono ?_); rintro e w' ⟨rfl, ⟨nd, rfl⟩⟩; refine ⟨_, rfl, ?_⟩) | ((with_reducible refine gf 173 rfl ?_); refine gL 14 Tryz.func173 #[.agg #[.int .i64 a0_3, .slice A0_4 l0_4.length c0_4], .int .i64 t104] ?_; (with_reducible refine (laws_szRes.calls a0_3 _ _ l0_4 t104 t105 _ ?side1 HC0_4.out A7.out).mono ?_); (case side1 => repeat (first | exact (Kd.C_below HR0_4.out (tb HB)) | (with_reducible refine Kd.C_alloc ?_ _) | (with_reducible refine Kd.C_drewN ?_ _) | (with_reducible refine Kd.C_drew ?_))); rintro e w11 ⟨rfl, hb⟩; refine ⟨_, rfl, ?_⟩; replace BK103 := bb BK103 hb; replace HB := bs HB hb; (try clear hb)))
  go_ret
  exact ⟨er, tb HB⟩
 obtain rfl := oin H
 go_enter Tryz.func169, Tryz.ntmps169
 go_wp2_with (first | ((with_reducible refine gq 2 rfl ?_); refine bx0 HB (N := 2) (t := 201) ?_; clear HB; intro gb103 w12 BK103 GE103 HB; have hz13 := cs5_ BK103) | ((with_reducible refine gf 190 rfl ?_); refine gL 8 Tryz.func190 #[.slice A0_2 l0_2.length c0_2, .int .i64 a1] ?_; (with_reducible refine (laws_szEntryS.calls _ _ l0_2 a1 t104 _ (kc HR0_2 HB) HC0_2.out A3.out).mono ?_); rintro e w' ⟨rfl, ⟨nd, rfl⟩⟩; refine ⟨_, rfl, ?_⟩) | ((with_reducible refine gf 173 rfl ?_); refine gL 14 Tryz.func173 #[.agg #[.int .i64 a0_3, .slice A0_4 l0_4.length c0_4], .int .i64 t104] ?_; (with_reducible refine (laws_szRes.calls a0_3 _ _ l0_4 t104 t105 _ ?side1 HC0_4.out A7.out).mono ?_); (case side1 => repeat (first | exact (Kd.C_below HR0_4.out (tb HB)) | (with_reducible refine Kd.C_alloc ?_ _) | (with_reducible refine Kd.C_drewN ?_ _) | (with_reducible refine Kd.C_drew ?_))); rintro e w14 ⟨rfl, hb⟩; refine ⟨_, rfl, ?_⟩; replace BK103 := bb BK103 hb; replace HB := bs HB hb; (try clear hb)))
 go_ret
 exact ⟨er, tb HB⟩
def laws_szThreadS.l0 : Nat → List (S171) → Int → Int → Option (Int)
 | 0, _, _, _ => none
 | k + 1, x0, x1, x5 => if x5 < (x0.length : Int) then (if 0 ≤ x5 then ((laws_szThread.f ((rd_T171 x0 x5).f0) ((rd_T171 x0 x5).f1) ((rd_T171 x0 x5).f2) ((rd_T171 x0 x5).f3) ((rd_T171 x0 x5).f4) x1).bind fun t116 => (if t116 < 0 then (some (-1)) else (laws_szThreadS.l0 k x0 t116 (wrap64 (x5 + 1))))) else (none)) else (some x1)
def laws_szThreadS.f (k : Nat) (l0 : List (S171)) (a1 : Int) : Option (Int) := if (wrap64 (a1 - (l0.length : Int))) < 0 then (some (-1)) else (laws_szThreadS.l0 k l0 (wrap64 (a1 - (l0.length : Int))) 0)
set_option maxHeartbeats 8000000 in
set_option maxRecDepth 100000 in
theorem laws_szThreadS.calls (k : Nat) (A0 : Option Addr) (c0 : Nat) (l0 : List (S171)) (a1 : Int) (r : Int) (w : World) (hr0 : Kd.C k171 w A0 l0.length l0) (hc0 : l0.length ≤ c0) (h : laws_szThreadS.f k l0 a1 = some r) :
  Calls Tryz.prog 81 #[.slice A0 l0.length c0, .int .i64 a1] w fun e w' => e = .returned (.int .i64 r) ∧ Below w.heap.size w w' := by
 have hu171 := Tryz.underlying171
 have HR0 := Aside0.mk hr0
 have HC0 := Aside0.mk hc0
 clear hr0 hc0
 have HB := Aside0.mk (Below.refl w.heap.size w)
 have H := h
 clear h
 unfold laws_szThreadS.f at H
 revert H; refine icd (fun c3b0 H => ?pos) fun c3b0 H => ?_
 case pos =>
  obtain rfl := oin H
  go_enter Tryz.func81, Tryz.ntmps81
  go_wp2
  go_ret
  exact ⟨er, tb HB⟩
 have H' := Aside0.mk H
 clear H
 go_enter Tryz.func81, Tryz.ntmps81
 go_wp2
 go_loopg [1, 5] k (fun kq v1 v5 w' => ∃ (x1_1 : Int) (x5_1 : Int), v1 = .int .i64 x1_1 ∧ v5 = .int .i64 x5_1 ∧ Aside0 (laws_szThreadS.l0 kq l0 x1_1 x5_1 = some r) ∧ Aside0 (kq ≤ k) ∧ Aside0 (Below w.heap.size w w'))
 case atStart => exact ⟨(wrap64 (a1 - (l0.length : Int))), (0), rsd, rsd, H', ⟨Nat.le_refl _⟩, ⟨tb HB⟩⟩
 case round =>
  clear H'
  obtain ⟨x1_1, x5_1, rfl, rfl, HA, HK1, HB⟩ := hrel
  cases gk with
  | zero => exact absurd HA.out (by simp [laws_szThreadS.l0])
  | succ k1 =>
   have H := HA.out
   clear HA
   simp only [laws_szThreadS.l0] at H
   revert H; refine icd (fun c4b0 H => ?_) fun c4b0 H => ?neg
   case neg =>
    obtain rfl := oin H
    go_wp2
    go_ret
    exact ⟨er, tb HB⟩
   obtain ⟨c5b0, H⟩ := itd H
   obtain ⟨t116, A6, H⟩ := bn H
   try dsimp only at H
   revert H; refine icd (fun c7b0 H => ?_) fun c7b0 H => ?neg
   case neg =>
    have H' := Aside0.mk H
    clear H
    have p115 : 0 ≤ (x5_1 : Int) := od
    have q115 : x5_1 < (l0.length : Int) := od
    obtain ⟨ad115, A115_0, c115_0, A115_3, c115_3, A115_4, c115_4, e115, hx115, hl115_0, hi115_0, hl115_3, hi115_3, hl115_4, hi115_4⟩ := att171 HR0.out x5_1 p115 q115
    cases e115
    replace hx115 := ox5 HB hx115
    have HR115_0 := Aside0.mk hi115_0
    have HC115_0 := Aside0.mk hl115_0
    clear hi115_0 hl115_0
    have HR115_3 := Aside0.mk hi115_3
    have HC115_3 := Aside0.mk hl115_3
    clear hi115_3 hl115_3
    have HR115_4 := Aside0.mk hi115_4
    have HC115_4 := Aside0.mk hl115_4
    clear hi115_4 hl115_4
    replace p115 := eq_true p115
    replace q115 := eq_true q115
    go_wp2_with (first | ((with_reducible refine gf 137 rfl ?_); refine gL 23 Tryz.func137 #[.agg #[.slice A115_0 ((rd_T171 l0 x5_1).f0).length c115_0, .int .i64 ((rd_T171 l0 x5_1).f1), .bool ((rd_T171 l0 x5_1).f2), .slice A115_3 ((rd_T171 l0 x5_1).f3).length c115_3, .slice A115_4 ((rd_T171 l0 x5_1).f4).length c115_4], .int .i64 x1_1] ?_; (with_reducible refine (laws_szThread.calls _ _ ((rd_T171 l0 x5_1).f0) ((rd_T171 l0 x5_1).f1) ((rd_T171 l0 x5_1).f2) _ _ ((rd_T171 l0 x5_1).f3) _ _ ((rd_T171 l0 x5_1).f4) x1_1 t116 _ (kc HR115_0 HB) HC115_0.out (kc HR115_3 HB) HC115_3.out (kc HR115_4 HB) HC115_4.out A6.out).mono ?_); rintro e w9 ⟨rfl, hb⟩; refine ⟨_, rfl, ?_⟩; replace HB := bs HB hb; (try clear hb)))
    go_roundg k1
    case measure => have := HK1.out; omega
    case rel => exact ⟨(t116), (wrap64 (x5_1 + 1)), rsd, rsd, H', ⟨by have := HK1.out; omega⟩, ⟨tb HB⟩⟩
   obtain rfl := oin H
   have p115 : 0 ≤ (x5_1 : Int) := od
   have q115 : x5_1 < (l0.length : Int) := od
   obtain ⟨ad115, A115_0, c115_0, A115_3, c115_3, A115_4, c115_4, e115, hx115_0, hx115_1, hx115_2, hx115_3, hx115_4, hl115_0, hi115_0, hl115_3, hi115_3, hl115_4, hi115_4⟩ := at_T171 HR0.out x5_1 p115 q115
   cases e115
   replace hx115_0 := ox HB hx115_0
   replace hx115_1 := ox HB hx115_1
   replace hx115_2 := ox HB hx115_2
   replace hx115_3 := ox HB hx115_3
   replace hx115_4 := ox HB hx115_4
   have HR115_0 := Aside0.mk hi115_0
   have HC115_0 := Aside0.mk hl115_0
   clear hi115_0 hl115_0
   have HR115_3 := Aside0.mk hi115_3
   have HC115_3 := Aside0.mk hl115_3
   clear hi115_3 hl115_3
   have HR115_4 := Aside0.mk hi115_4
   have HC115_4 := Aside0.mk hl115_4
   clear hi115_4 hl115_4
   replace p115 := eq_true p115
   replace q115 := eq_true q115
   go_wp2_with (first | ((with_reducible refine gf 137 rfl ?_); refine gL 23 Tryz.func137 #[.agg #[.slice A115_0 ((rd_T171 l0 x5_1).f0).length c115_0, .int .i64 ((rd_T171 l0 x5_1).f1), .bool ((rd_T171 l0 x5_1).f2), .slice A115_3 ((rd_T171 l0 x5_1).f3).length c115_3, .slice A115_4 ((rd_T171 l0 x5_1).f4).length c115_4], .int .i64 x1_1] ?_; (with_reducible refine (laws_szThread.calls _ _ ((rd_T171 l0 x5_1).f0) ((rd_T171 l0 x5_1).f1) ((rd_T171 l0 x5_1).f2) _ _ ((rd_T171 l0 x5_1).f3) _ _ ((rd_T171 l0 x5_1).f4) x1_1 t116 _ (kc HR115_0 HB) HC115_0.out (kc HR115_3 HB) HC115_3.out (kc HR115_4 HB) HC115_4.out A6.out).mono ?_); rintro e w8 ⟨rfl, hb⟩; refine ⟨_, rfl, ?_⟩; replace HB := bs HB hb; (try clear hb)))
   go_ret
   exact ⟨er, tb HB⟩
def laws_szCall.f (a0_0 : Int) (a0_1 : Int) (a0_2 : Int) (a0_3 : Int) (a0_4 : Int) (a0_5 : Int) (a0_6 : Int) (a0_7 : Int) (l0_8 : List Int) (a1 : Int) : Option (Int) := (laws_szRes.f a0_7 l0_8 a1).bind fun t118 => (if t118 < 0 then (some (-1)) else (some t118))
set_option maxHeartbeats 8000000 in
set_option maxRecDepth 100000 in
theorem laws_szCall.calls (a0_0 : Int) (a0_1 : Int) (a0_2 : Int) (a0_3 : Int) (a0_4 : Int) (a0_5 : Int) (a0_6 : Int) (a0_7 : Int) (A0_8 : Option Addr) (c0_8 : Nat) (l0_8 : List Int) (a1 : Int) (r : Int) (w : World) (hr0_8 : Kd.C (Kd.int .i64) w A0_8 l0_8.length l0_8) (hc0_8 : l0_8.length ≤ c0_8) (h : laws_szCall.f a0_0 a0_1 a0_2 a0_3 a0_4 a0_5 a0_6 a0_7 l0_8 a1 = some r) :
  Calls Tryz.prog 138 #[.agg #[.int .i64 a0_0, .int .i64 a0_1, .int .i64 a0_2, .int .i64 a0_3, .int .i64 a0_4, .int .i64 a0_5, .int .i64 a0_6, .int .i64 a0_7, .slice A0_8 l0_8.length c0_8], .int .i64 a1] w fun e w' => e = .returned (.int .i64 r) ∧ Below w.heap.size w w' := by
 have hu176 := Tryz.underlying176
 have hu174 := Tryz.underlying174
 have HR0_8 := Aside0.mk hr0_8
 have HC0_8 := Aside0.mk hc0_8
 clear hr0_8 hc0_8
 have HB := Aside0.mk (Below.refl w.heap.size w)
 have H := h
 clear h
 unfold laws_szCall.f at H
 obtain ⟨t118, A3, H⟩ := bn H
 try dsimp only at H
 revert H; refine icd (fun c4b0 H => ?pos) fun c4b0 H => ?_
 case pos =>
  obtain rfl := oin H
  go_enter Tryz.func138, Tryz.ntmps138
  go_wp2_with (first | ((with_reducible refine gq 2 rfl ?_); refine bx0 HB (N := 2) (t := 176) ?_; clear HB; intro gb117 w5 BK117 GE117 HB; have hz6 := cs9_ BK117) | ((with_reducible refine gf 173 rfl ?_); refine gL 8 Tryz.func173 #[.agg #[.int .i64 a0_7, .slice A0_8 l0_8.length c0_8], .int .i64 a1] ?_; (with_reducible refine (laws_szRes.calls a0_7 _ _ l0_8 a1 t118 _ (kc HR0_8 HB) HC0_8.out A3.out).mono ?_); rintro e w7 ⟨rfl, hb⟩; refine ⟨_, rfl, ?_⟩; replace BK117 := bb BK117 hb; replace HB := bs HB hb; (try clear hb)))
  go_ret
  exact ⟨er, tb HB⟩
 obtain rfl := oin H
 go_enter Tryz.func138, Tryz.ntmps138
 go_wp2_with (first | ((with_reducible refine gq 2 rfl ?_); refine bx0 HB (N := 2) (t := 176) ?_; clear HB; intro gb117 w8 BK117 GE117 HB; have hz9 := cs9_ BK117) | ((with_reducible refine gf 173 rfl ?_); refine gL 8 Tryz.func173 #[.agg #[.int .i64 a0_7, .slice A0_8 l0_8.length c0_8], .int .i64 a1] ?_; (with_reducible refine (laws_szRes.calls a0_7 _ _ l0_8 a1 t118 _ (kc HR0_8 HB) HC0_8.out A3.out).mono ?_); rintro e w10 ⟨rfl, hb⟩; refine ⟨_, rfl, ?_⟩; replace BK117 := bb BK117 hb; replace HB := bs HB hb; (try clear hb)))
 go_ret
 exact ⟨er, tb HB⟩
def laws_toDesc.f (k : Nat) (a0_0 : Int) (a0_1 : Int) (l0_2 : List (S236)) (a0_3 : Int) (l0_4 : List Int) : Option (Int × Int × (List (S37)) × Int × List Int) := (laws_toEntryS.f k l0_2).bind fun t267 => ((laws_toRes.f k a0_3 l0_4).bind fun bt270 => (some (a0_0, a0_1, t267, bt270.1, bt270.2)))
set_option maxHeartbeats 8000000 in
set_option maxRecDepth 100000 in
theorem laws_toDesc.calls (k : Nat) (a0_0 : Int) (a0_1 : Int) (A0_2 : Option Addr) (c0_2 : Nat) (l0_2 : List (S236)) (a0_3 : Int) (A0_4 : Option Addr) (c0_4 : Nat) (l0_4 : List Int) (r1 : Int) (r2 : Int) (r3 : List (S37)) (r4 : Int) (r5 : List Int) (w : World) (hr0_2 : Kd.C k236 w A0_2 l0_2.length l0_2) (hc0_2 : l0_2.length ≤ c0_2) (hr0_4 : Kd.C (Kd.int .i64) w A0_4 l0_4.length l0_4) (hc0_4 : l0_4.length ≤ c0_4) (h : laws_toDesc.f k a0_0 a0_1 l0_2 a0_3 l0_4 = some (r1, r2, r3, r4, r5)) :
  Calls Tryz.prog 175 #[.agg #[.int .i64 a0_0, .int .i64 a0_1, .slice A0_2 l0_2.length c0_2, .int .i64 a0_3, .slice A0_4 l0_4.length c0_4]] w fun e w' => ∃ v2_ v4_ : Value, e = .returned (.agg #[.int .i64 r1, .int .i64 r2, v2_, .int .i64 r4, v4_]) ∧ Kd.R k37 37 w' w.heap.size (fun _ => True) v2_ r3 ∧ Kd.R (Kd.int .i64) 3 w' w.heap.size (fun _ => True) v4_ r5 ∧ Below w.heap.size w w' := by
 have hu201 := Tryz.underlying201
 have hu52 := Tryz.underlying52
 have hu174 := Tryz.underlying174
 have hu31 := Tryz.underlying31
 have HR0_2 := Aside0.mk hr0_2
 have HC0_2 := Aside0.mk hc0_2
 clear hr0_2 hc0_2
 have HR0_4 := Aside0.mk hr0_4
 have HC0_4 := Aside0.mk hc0_4
 clear hr0_4 hc0_4
 have HB := Aside0.mk (Below.refl w.heap.size w)
 have H := h
 clear h
 unfold laws_toDesc.f at H
 obtain ⟨t267, A2, H⟩ := bn H
 try dsimp only at H
 obtain ⟨⟨t270, t271⟩, A3, H⟩ := bn H
 try dsimp only at H
 simp only [Option.some.injEq, Prod.mk.injEq] at H
 obtain ⟨rfl, rfl, rfl, rfl, rfl⟩ := H
 go_enter Tryz.func175, Tryz.ntmps175
 go_wp2_with (first | ((with_reducible refine gq 1 rfl ?_); refine bx0 HB (N := 1) (t := 201) ?_; clear HB; intro gb264 w4 BK264 GE264 HB) | ((with_reducible refine gq 2 rfl ?_); refine bx1 HB BK264 (N := 2) (cs := #[.int .i64 0, .int .i64 0, .slice none 0 0, .int .i64 0, .slice none 0 0]) (t := 52) ?_; clear HB BK264; intro gb265 w5 BK265 GE265 HB NB264_265 NB265_264 BK264) | ((with_reducible refine gq 3 rfl ?_); refine bx2 HB BK264 BK265 (N := 3) (cs := #[.int .i64 0, .int .i64 0, .slice none 0 0, .int .i64 0, .slice none 0 0]) (t := 52) ?_; clear HB BK264 BK265; intro gb266 w6 BK266 GE266 HB NB264_266 NB266_264 BK264 NB265_266 NB266_265 BK265; have hnb7 := NB264_265.out; have hnc7 := NB265_264.out; have hnb8 := NB264_266.out; have hnc8 := NB266_264.out; have hz9 := cs5_ BK264; have hnb10 := NB266_265.out; have hnc10 := NB265_266.out; have hz11 := cs5_ BK266) | ((with_reducible refine gf 191 rfl ?_); refine gL 12 Tryz.func191 #[.slice A0_2 l0_2.length c0_2] ?_; (with_reducible refine (laws_toEntryS.calls k _ _ l0_2 t267 _ ?side1 HC0_2.out A2.out).mono ?_); (case side1 => exact Kd.C_below HR0_2.out (tb HB)); rintro e w12 ⟨v268, rfl, ho0, hb⟩; refine ⟨_, rfl, ?_⟩; have HO269 := Aside0.mk (Kd.R_lower ho0 (below_size (tb HB))); replace BK264 := bbf BK264 hb; replace BK265 := bbf BK265 hb; replace BK266 := Aside0.mk (blk_below (g := gb266) (o := .cells #[.int .i64 a0_0, .int .i64 a0_1, .slice none 0 0, .int .i64 0, .slice none 0 0] 52 (0, 0)) (by (with_reducible repeat (first | refine blk_drewN ?_ _ | refine blk_drew ?_ | refine blk_alloc ?_ _)); refine blk_put (cs := #[.int .i64 a0_0, .int .i64 0, .slice none 0 0, .int .i64 0, .slice none 0 0]) ?_ 1 _ rfl; (with_reducible repeat (first | refine blk_drewN ?_ _ | refine blk_drew ?_ | refine blk_alloc ?_ _)); refine blk_put (cs := #[.int .i64 0, .int .i64 0, .slice none 0 0, .int .i64 0, .slice none 0 0]) ?_ 0 _ rfl; (with_reducible repeat (first | refine blk_drewN ?_ _ | refine blk_drew ?_ | refine blk_alloc ?_ _)); exact BK266.out) hb); replace HB := bs HB hb; (try clear hb); (try clear ho0); obtain ⟨Ao13, co13, eo13⟩ := Kd.R_slice HO269.out; subst eo13; have hz14 := cs5_ BK266; have hz15 := cs5_ BK264) | ((with_reducible refine gf 180 rfl ?_); refine gL 16 Tryz.func180 #[.agg #[.int .i64 a0_3, .slice A0_4 l0_4.length c0_4]] ?_; (with_reducible refine (laws_toRes.calls k a0_3 _ _ l0_4 t270 t271 _ ?side1 HC0_4.out A3.out).mono ?_); (case side1 => exact Kd.C_below HR0_4.out (tb HB)); rintro e w16 ⟨v272, rfl, ho0, hb⟩; refine ⟨_, rfl, ?_⟩; replace HO269 := Aside0.mk (Kd.R_below (kr ((Kd.R_mono (Kd.R_far (p := ⟨gb266, 2, none⟩) (Kd.R_types HO269.out BK266.out (by decide)) (fun _ hk => hk.2) (.slice Ao13 t267.length co13)) (fun _ h_ => h_.1)))) hb); have HO273 := Aside0.mk (Kd.R_lower ho0 (below_size (tb HB))); replace BK264 := bbf BK264 hb; replace BK265 := bbf BK265 hb; replace BK266 := Aside0.mk (blk_below (g := gb266) (o := .cells #[.int .i64 a0_0, .int .i64 a0_1, .slice Ao13 t267.length co13, .int .i64 0, .slice none 0 0] 52 (0, 0)) (by (with_reducible repeat (first | refine blk_drewN ?_ _ | refine blk_drew ?_ | refine blk_alloc ?_ _)); refine blk_put (cs := #[.int .i64 a0_0, .int .i64 a0_1, .slice none 0 0, .int .i64 0, .slice none 0 0]) ?_ 2 _ rfl; (with_reducible repeat (first | refine blk_drewN ?_ _ | refine blk_drew ?_ | refine blk_alloc ?_ _)); exact BK266.out) hb); replace HB := bs HB hb; (try clear hb); (try clear hk); (try clear ho0); have hz17 := cs5_ BK266; obtain ⟨Ao18, co18, eo18⟩ := Kd.R_slice HO273.out; subst eo18; have hz19 := cs5_ BK265))
 refine bodyPost_ret (results_cell_row rfl _ _ gb265 52 #[.int .i64 a0_0, .int .i64 a0_1, .slice Ao13 t267.length co13, .int .i64 t270, .slice Ao18 t271.length co18] (0, 0) _ rfl (bfp5 BK265) Tryz.underlying52 rfl (by kernel_rfl)) rfl ?_
 exact ⟨_, _, er, by (with_reducible repeat (first | apply Kd.R_alloc | apply Kd.R_drewN | apply Kd.R_drew)); exact Kd.R_mono (Kd.R_far (p := ⟨gb265, 4, none⟩) (Kd.R_far (p := ⟨gb265, 3, none⟩) (Kd.R_far (p := ⟨gb265, 2, none⟩) (Kd.R_far (p := ⟨gb265, 1, none⟩) (Kd.R_far (p := ⟨gb265, 0, none⟩) (Kd.R_far (p := ⟨gb266, 4, none⟩) (Kd.R_far (p := ⟨gb266, 3, none⟩) (Kd.R_types (Kd.R_types HO269.out BK266.out (by decide)) BK265.out (by decide)) (fun _ hk => hk.1.2) (.int .i64 t270)) (fun _ hk => hk.1.2) (.slice Ao18 t271.length co18)) (fun _ hk => hk.2) (.int .i64 a0_0)) (fun _ hk => hk.2) (.int .i64 a0_1)) (fun _ hk => hk.2) (.slice Ao13 t267.length co13)) (fun _ hk => hk.2) (.int .i64 t270)) (fun _ hk => hk.2) (.slice Ao18 t271.length co18)) (fun _ hk => trivial), by (with_reducible repeat (first | apply Kd.R_alloc | apply Kd.R_drewN | apply Kd.R_drew)); exact Kd.R_mono (Kd.R_far (p := ⟨gb265, 4, none⟩) (Kd.R_far (p := ⟨gb265, 3, none⟩) (Kd.R_far (p := ⟨gb265, 2, none⟩) (Kd.R_far (p := ⟨gb265, 1, none⟩) (Kd.R_far (p := ⟨gb265, 0, none⟩) (Kd.R_far (p := ⟨gb266, 4, none⟩) (Kd.R_far (p := ⟨gb266, 3, none⟩) (Kd.R_types (Kd.R_types HO273.out BK266.out (by decide)) BK265.out (by decide)) (fun _ hk => hk.1.2) (.int .i64 t270)) (fun _ hk => hk.1.2) (.slice Ao18 t271.length co18)) (fun _ hk => hk.2) (.int .i64 a0_0)) (fun _ hk => hk.2) (.int .i64 a0_1)) (fun _ hk => hk.2) (.slice Ao13 t267.length co13)) (fun _ hk => hk.2) (.int .i64 t270)) (fun _ hk => hk.2) (.slice Ao18 t271.length co18)) (fun _ hk => trivial), tb HB⟩
def laws_toThread.f (k : Nat) (l0_0 : List (S173)) (a0_1 : Int) (a0_2 : Bool) (l0_3 : List (S224)) (l0_4 : List (S226)) : Option ((List (S132)) × Int × Bool × (List (S145)) × (List (S42))) := (laws_toOpS.f k l0_0).bind fun t333 => ((laws_toPairS.f k l0_3).bind fun t336 => ((laws_toHelpS.f k l0_4).bind fun t339 => (some (t333, a0_1, a0_2, t336, t339))))
set_option maxHeartbeats 8000000 in
set_option maxRecDepth 100000 in
theorem laws_toThread.calls (k : Nat) (A0_0 : Option Addr) (c0_0 : Nat) (l0_0 : List (S173)) (a0_1 : Int) (a0_2 : Bool) (A0_3 : Option Addr) (c0_3 : Nat) (l0_3 : List (S224)) (A0_4 : Option Addr) (c0_4 : Nat) (l0_4 : List (S226)) (r1 : List (S132)) (r2 : Int) (r3 : Bool) (r4 : List (S145)) (r5 : List (S42)) (w : World) (hr0_0 : Kd.C k173 w A0_0 l0_0.length l0_0) (hc0_0 : l0_0.length ≤ c0_0) (hr0_3 : Kd.C k224 w A0_3 l0_3.length l0_3) (hc0_3 : l0_3.length ≤ c0_3) (hr0_4 : Kd.C k226 w A0_4 l0_4.length l0_4) (hc0_4 : l0_4.length ≤ c0_4) (h : laws_toThread.f k l0_0 a0_1 a0_2 l0_3 l0_4 = some (r1, r2, r3, r4, r5)) :
  Calls Tryz.prog 146 #[.agg #[.slice A0_0 l0_0.length c0_0, .int .i64 a0_1, .bool a0_2, .slice A0_3 l0_3.length c0_3, .slice A0_4 l0_4.length c0_4]] w fun e w' => ∃ v0_ v3_ v4_ : Value, e = .returned (.agg #[v0_, .int .i64 r2, .bool r3, v3_, v4_]) ∧ Kd.R k132 132 w' w.heap.size (fun _ => True) v0_ r1 ∧ Kd.R k145 145 w' w.heap.size (fun _ => True) v3_ r4 ∧ Kd.R k42 42 w' w.heap.size (fun _ => True) v4_ r5 ∧ Below w.heap.size w w' := by
 have hu171 := Tryz.underlying171
 have hu82 := Tryz.underlying82
 have HR0_0 := Aside0.mk hr0_0
 have HC0_0 := Aside0.mk hc0_0
 clear hr0_0 hc0_0
 have HR0_3 := Aside0.mk hr0_3
 have HC0_3 := Aside0.mk hc0_3
 clear hr0_3 hc0_3
 have HR0_4 := Aside0.mk hr0_4
 have HC0_4 := Aside0.mk hc0_4
 clear hr0_4 hc0_4
 have HB := Aside0.mk (Below.refl w.heap.size w)
 have H := h
 clear h
 unfold laws_toThread.f at H
 obtain ⟨t333, A2, H⟩ := bn H
 try dsimp only at H
 obtain ⟨t336, A3, H⟩ := bn H
 try dsimp only at H
 obtain ⟨t339, A4, H⟩ := bn H
 try dsimp only at H
 simp only [Option.some.injEq, Prod.mk.injEq] at H
 obtain ⟨rfl, rfl, rfl, rfl, rfl⟩ := H
 go_enter Tryz.func146, Tryz.ntmps146
 go_wp2_with (first | ((with_reducible refine gq 1 rfl ?_); refine bx0 HB (N := 1) (t := 171) ?_; clear HB; intro gb330 w5 BK330 GE330 HB) | ((with_reducible refine gq 2 rfl ?_); refine bx1 HB BK330 (N := 2) (cs := #[.slice none 0 0, .int .i64 0, .bool false, .slice none 0 0, .slice none 0 0]) (t := 82) ?_; clear HB BK330; intro gb331 w6 BK331 GE331 HB NB330_331 NB331_330 BK330) | ((with_reducible refine gq 3 rfl ?_); refine bx2 HB BK330 BK331 (N := 3) (cs := #[.slice none 0 0, .int .i64 0, .bool false, .slice none 0 0, .slice none 0 0]) (t := 82) ?_; clear HB BK330 BK331; intro gb332 w7 BK332 GE332 HB NB330_332 NB332_330 BK330 NB331_332 NB332_331 BK331; have hnb8 := NB330_331.out; have hnc8 := NB331_330.out; have hnb9 := NB330_332.out; have hnc9 := NB332_330.out; have hz10 := cs5_ BK330) | ((with_reducible refine gf 176 rfl ?_); refine gL 6 Tryz.func176 #[.slice A0_0 l0_0.length c0_0] ?_; (with_reducible refine (laws_toOpS.calls k _ _ l0_0 t333 _ (kc HR0_0 HB) HC0_0.out A2.out).mono ?_); rintro e w11 ⟨v334, rfl, ho0, hb⟩; refine ⟨_, rfl, ?_⟩; have HO335 := Aside0.mk (Kd.R_lower ho0 (below_size (tb HB))); replace BK330 := bb BK330 hb; replace BK331 := bb BK331 hb; replace BK332 := bb BK332 hb; replace HB := bs HB hb; (try clear hb); (try clear ho0); obtain ⟨Ao12, co12, eo12⟩ := Kd.R_slice HO335.out; subst eo12; have hnb13 := NB332_331.out; have hnc13 := NB331_332.out; have hz14 := cs5_ BK332; have hz15 := cs5_ BK330) | ((with_reducible refine gf 177 rfl ?_); refine gL 16 Tryz.func177 #[.slice A0_3 l0_3.length c0_3] ?_; (with_reducible refine (laws_toPairS.calls k _ _ l0_3 t336 _ ?side1 HC0_3.out A3.out).mono ?_); (case side1 => exact Kd.C_below HR0_3.out (tb HB)); rintro e w16 ⟨v337, rfl, ho0, hb⟩; refine ⟨_, rfl, ?_⟩; replace HO335 := Aside0.mk (Kd.R_below (kr ((Kd.R_mono (Kd.R_far (p := ⟨gb332, 2, none⟩) (Kd.R_far (p := ⟨gb332, 1, none⟩) (Kd.R_far (p := ⟨gb332, 0, none⟩) (Kd.R_types HO335.out BK332.out (by decide)) (fun _ hk => hk.2) (.slice Ao12 t333.length co12)) (fun _ hk => hk.2) (.int .i64 a0_1)) (fun _ hk => hk.2) (.bool a0_2)) (fun _ h_ => h_.1)))) hb); have HO338 := Aside0.mk (Kd.R_lower ho0 (below_size (tb HB))); replace BK330 := bbf BK330 hb; replace BK331 := bbf BK331 hb; replace BK332 := Aside0.mk (blk_below (g := gb332) (o := .cells #[.slice Ao12 t333.length co12, .int .i64 a0_1, .bool a0_2, .slice none 0 0, .slice none 0 0] 82 (0, 0)) (by (with_reducible repeat (first | refine blk_drewN ?_ _ | refine blk_drew ?_ | refine blk_alloc ?_ _)); refine blk_put (cs := #[.slice Ao12 t333.length co12, .int .i64 a0_1, .bool false, .slice none 0 0, .slice none 0 0]) ?_ 2 _ rfl; (with_reducible repeat (first | refine blk_drewN ?_ _ | refine blk_drew ?_ | refine blk_alloc ?_ _)); refine blk_put (cs := #[.slice Ao12 t333.length co12, .int .i64 0, .bool false, .slice none 0 0, .slice none 0 0]) ?_ 1 _ rfl; (with_reducible repeat (first | refine blk_drewN ?_ _ | refine blk_drew ?_ | refine blk_alloc ?_ _)); refine blk_put (cs := #[.slice none 0 0, .int .i64 0, .bool false, .slice none 0 0, .slice none 0 0]) ?_ 0 _ rfl; (with_reducible repeat (first | refine blk_drewN ?_ _ | refine blk_drew ?_ | refine blk_alloc ?_ _)); exact BK332.out) hb); replace HB := bs HB hb; (try clear hb); (try clear hk); (try clear ho0); obtain ⟨Ao17, co17, eo17⟩ := Kd.R_slice HO338.out; subst eo17; have hz18 := cs5_ BK332; have hz19 := cs5_ BK330) | ((with_reducible refine gf 178 rfl ?_); refine gL 20 Tryz.func178 #[.slice A0_4 l0_4.length c0_4] ?_; (with_reducible refine (laws_toHelpS.calls k _ _ l0_4 t339 _ ?side1 HC0_4.out A4.out).mono ?_); (case side1 => exact Kd.C_below HR0_4.out (tb HB)); rintro e w20 ⟨v340, rfl, ho0, hb⟩; refine ⟨_, rfl, ?_⟩; replace HO335 := Aside0.mk (Kd.R_below (kr ((Kd.R_mono (Kd.R_far (p := ⟨gb332, 3, none⟩) (Kd.R_types HO335.out BK332.out (by decide)) (fun _ hk => hk.2) (.slice Ao17 t336.length co17)) (fun _ h_ => h_.1)))) hb); replace HO338 := Aside0.mk (Kd.R_below (kr ((Kd.R_mono (Kd.R_far (p := ⟨gb332, 3, none⟩) (Kd.R_types HO338.out BK332.out (by decide)) (fun _ hk => hk.2) (.slice Ao17 t336.length co17)) (fun _ h_ => h_.1)))) hb); have HO341 := Aside0.mk (Kd.R_lower ho0 (below_size (tb HB))); replace BK330 := bbf BK330 hb; replace BK331 := bbf BK331 hb; replace BK332 := Aside0.mk (blk_below (g := gb332) (o := .cells #[.slice Ao12 t333.length co12, .int .i64 a0_1, .bool a0_2, .slice Ao17 t336.length co17, .slice none 0 0] 82 (0, 0)) (by (with_reducible repeat (first | refine blk_drewN ?_ _ | refine blk_drew ?_ | refine blk_alloc ?_ _)); refine blk_put (cs := #[.slice Ao12 t333.length co12, .int .i64 a0_1, .bool a0_2, .slice none 0 0, .slice none 0 0]) ?_ 3 _ rfl; (with_reducible repeat (first | refine blk_drewN ?_ _ | refine blk_drew ?_ | refine blk_alloc ?_ _)); exact BK332.out) hb); replace HB := bs HB hb; (try clear hb); (try clear hk); (try clear ho0); obtain ⟨Ao21, co21, eo21⟩ := Kd.R_slice HO341.out; subst eo21; have hz22 := cs5_ BK332; have hz23 := cs5_ BK331))
 refine bodyPost_ret (results_cell_row rfl _ _ gb331 82 #[.slice Ao12 t333.length co12, .int .i64 a0_1, .bool a0_2, .slice Ao17 t336.length co17, .slice Ao21 t339.length co21] (0, 0) _ rfl (bfp5 BK331) Tryz.underlying82 rfl (by kernel_rfl)) rfl ?_
 exact ⟨_, _, _, er, by (with_reducible repeat (first | apply Kd.R_alloc | apply Kd.R_drewN | apply Kd.R_drew)); exact Kd.R_mono (Kd.R_far (p := ⟨gb331, 4, none⟩) (Kd.R_far (p := ⟨gb331, 3, none⟩) (Kd.R_far (p := ⟨gb331, 2, none⟩) (Kd.R_far (p := ⟨gb331, 1, none⟩) (Kd.R_far (p := ⟨gb331, 0, none⟩) (Kd.R_far (p := ⟨gb332, 4, none⟩) (Kd.R_types (Kd.R_types HO335.out BK332.out (by decide)) BK331.out (by decide)) (fun _ hk => hk.1.2) (.slice Ao21 t339.length co21)) (fun _ hk => hk.2) (.slice Ao12 t333.length co12)) (fun _ hk => hk.2) (.int .i64 a0_1)) (fun _ hk => hk.2) (.bool a0_2)) (fun _ hk => hk.2) (.slice Ao17 t336.length co17)) (fun _ hk => hk.2) (.slice Ao21 t339.length co21)) (fun _ hk => trivial), by (with_reducible repeat (first | apply Kd.R_alloc | apply Kd.R_drewN | apply Kd.R_drew)); exact Kd.R_mono (Kd.R_far (p := ⟨gb331, 4, none⟩) (Kd.R_far (p := ⟨gb331, 3, none⟩) (Kd.R_far (p := ⟨gb331, 2, none⟩) (Kd.R_far (p := ⟨gb331, 1, none⟩) (Kd.R_far (p := ⟨gb331, 0, none⟩) (Kd.R_far (p := ⟨gb332, 4, none⟩) (Kd.R_types (Kd.R_types HO338.out BK332.out (by decide)) BK331.out (by decide)) (fun _ hk => hk.1.2) (.slice Ao21 t339.length co21)) (fun _ hk => hk.2) (.slice Ao12 t333.length co12)) (fun _ hk => hk.2) (.int .i64 a0_1)) (fun _ hk => hk.2) (.bool a0_2)) (fun _ hk => hk.2) (.slice Ao17 t336.length co17)) (fun _ hk => hk.2) (.slice Ao21 t339.length co21)) (fun _ hk => trivial), by (with_reducible repeat (first | apply Kd.R_alloc | apply Kd.R_drewN | apply Kd.R_drew)); exact Kd.R_mono (Kd.R_far (p := ⟨gb331, 4, none⟩) (Kd.R_far (p := ⟨gb331, 3, none⟩) (Kd.R_far (p := ⟨gb331, 2, none⟩) (Kd.R_far (p := ⟨gb331, 1, none⟩) (Kd.R_far (p := ⟨gb331, 0, none⟩) (Kd.R_far (p := ⟨gb332, 4, none⟩) (Kd.R_types (Kd.R_types HO341.out BK332.out (by decide)) BK331.out (by decide)) (fun _ hk => hk.1.2) (.slice Ao21 t339.length co21)) (fun _ hk => hk.2) (.slice Ao12 t333.length co12)) (fun _ hk => hk.2) (.int .i64 a0_1)) (fun _ hk => hk.2) (.bool a0_2)) (fun _ hk => hk.2) (.slice Ao17 t336.length co17)) (fun _ hk => hk.2) (.slice Ao21 t339.length co21)) (fun _ hk => trivial), tb HB⟩
def laws_toCall.f (k : Nat) (a0_0 : Int) (a0_1 : Int) (a0_2 : Int) (a0_3 : Int) (a0_4 : Int) (a0_5 : Int) (a0_6 : Int) (a0_7 : Int) (l0_8 : List Int) : Option (Int × Int × Int × Int × Int × Int × Int × Int × List Int) := (laws_toOp.f a0_1 a0_2 a0_3).bind fun bt361 => ((laws_toRes.f k a0_7 l0_8).bind fun bt364 => (some (a0_0, bt361.1, bt361.2.1, bt361.2.2, a0_4, a0_5, a0_6, bt364.1, bt364.2)))
set_option maxHeartbeats 8000000 in
set_option maxRecDepth 100000 in
theorem laws_toCall.calls (k : Nat) (a0_0 : Int) (a0_1 : Int) (a0_2 : Int) (a0_3 : Int) (a0_4 : Int) (a0_5 : Int) (a0_6 : Int) (a0_7 : Int) (A0_8 : Option Addr) (c0_8 : Nat) (l0_8 : List Int) (r1 : Int) (r2 : Int) (r3 : Int) (r4 : Int) (r5 : Int) (r6 : Int) (r7 : Int) (r8 : Int) (r9 : List Int) (w : World) (hr0_8 : Kd.C (Kd.int .i64) w A0_8 l0_8.length l0_8) (hc0_8 : l0_8.length ≤ c0_8) (h : laws_toCall.f k a0_0 a0_1 a0_2 a0_3 a0_4 a0_5 a0_6 a0_7 l0_8 = some (r1, r2, r3, r4, r5, r6, r7, r8, r9)) :
  Calls Tryz.prog 147 #[.agg #[.int .i64 a0_0, .int .i64 a0_1, .int .i64 a0_2, .int .i64 a0_3, .int .i64 a0_4, .int .i64 a0_5, .int .i64 a0_6, .int .i64 a0_7, .slice A0_8 l0_8.length c0_8]] w fun e w' => ∃ v8_ : Value, e = .returned (.agg #[.int .i64 r1, .int .i64 r2, .int .i64 r3, .int .i64 r4, .int .i64 r5, .int .i64 r6, .int .i64 r7, .int .i64 r8, v8_]) ∧ Kd.R (Kd.int .i64) 3 w' w.heap.size (fun _ => True) v8_ r9 ∧ Below w.heap.size w w' := by
 have hu176 := Tryz.underlying176
 have hu134 := Tryz.underlying134
 have hu173 := Tryz.underlying173
 have hu132 := Tryz.underlying132
 have hu174 := Tryz.underlying174
 have hu31 := Tryz.underlying31
 have HR0_8 := Aside0.mk hr0_8
 have HC0_8 := Aside0.mk hc0_8
 clear hr0_8 hc0_8
 have HB := Aside0.mk (Below.refl w.heap.size w)
 have H := h
 clear h
 unfold laws_toCall.f at H
 obtain ⟨⟨t361, t362, t363⟩, A2, H⟩ := bn H
 try dsimp only at H
 obtain ⟨⟨t364, t365⟩, A3, H⟩ := bn H
 try dsimp only at H
 simp only [Option.some.injEq, Prod.mk.injEq] at H
 obtain ⟨rfl, rfl, rfl, rfl, rfl, rfl, rfl, rfl, rfl⟩ := H
 go_enter Tryz.func147, Tryz.ntmps147
 go_wp2_with (first | ((with_reducible refine gq 1 rfl ?_); refine bx0 HB (N := 1) (t := 176) ?_; clear HB; intro gb358 w4 BK358 GE358 HB) | ((with_reducible refine gq 2 rfl ?_); refine bx1 HB BK358 (N := 2) (cs := #[.int .i64 0, .int .i64 0, .int .i64 0, .int .i64 0, .int .i64 0, .int .i64 0, .int .i64 0, .int .i64 0, .slice none 0 0]) (t := 134) ?_; clear HB BK358; intro gb359 w5 BK359 GE359 HB NB358_359 NB359_358 BK358) | ((with_reducible refine gq 3 rfl ?_); refine bx2 HB BK358 BK359 (N := 3) (cs := #[.int .i64 0, .int .i64 0, .int .i64 0, .int .i64 0, .int .i64 0, .int .i64 0, .int .i64 0, .int .i64 0, .slice none 0 0]) (t := 134) ?_; clear HB BK358 BK359; intro gb360 w6 BK360 GE360 HB NB358_360 NB360_358 BK358 NB359_360 NB360_359 BK359; have hnb7 := NB358_359.out; have hnc7 := NB359_358.out; have hnb8 := NB358_360.out; have hnc8 := NB360_358.out; have hz9 := cs9_ BK358; have hnb10 := NB360_359.out; have hnc10 := NB359_360.out; have hz11 := cs9_ BK360) | ((with_reducible refine gf 179 rfl ?_); refine gL 9 Tryz.func179 #[.agg #[.int .i64 a0_1, .int .i64 a0_2, .int .i64 a0_3]] ?_; (with_reducible refine (laws_toOp.calls a0_1 a0_2 a0_3 t361 t362 t363 _ A2.out).mono ?_); rintro e w12 ⟨rfl, hb⟩; refine ⟨_, rfl, ?_⟩; replace BK358 := bbf BK358 hb; replace BK359 := bbf BK359 hb; replace BK360 := Aside0.mk (blk_below (g := gb360) (o := .cells #[.int .i64 a0_0, .int .i64 0, .int .i64 0, .int .i64 0, .int .i64 0, .int .i64 0, .int .i64 0, .int .i64 0, .slice none 0 0] 134 (0, 0)) (by (with_reducible repeat (first | refine blk_drewN ?_ _ | refine blk_drew ?_ | refine blk_alloc ?_ _)); refine blk_put (cs := #[.int .i64 0, .int .i64 0, .int .i64 0, .int .i64 0, .int .i64 0, .int .i64 0, .int .i64 0, .int .i64 0, .slice none 0 0]) ?_ 0 _ rfl; (with_reducible repeat (first | refine blk_drewN ?_ _ | refine blk_drew ?_ | refine blk_alloc ?_ _)); exact BK360.out) hb); replace HB := bs HB hb; (try clear hb); have hz13 := cs9_ BK360; have hz14 := cs9_ BK358) | ((with_reducible refine gf 180 rfl ?_); refine gL 22 Tryz.func180 #[.agg #[.int .i64 a0_7, .slice A0_8 l0_8.length c0_8]] ?_; (with_reducible refine (laws_toRes.calls k a0_7 _ _ l0_8 t364 t365 _ ?side1 HC0_8.out A3.out).mono ?_); (case side1 => exact Kd.C_below HR0_8.out (tb HB)); rintro e w15 ⟨v366, rfl, ho0, hb⟩; refine ⟨_, rfl, ?_⟩; have HO367 := Aside0.mk (Kd.R_lower ho0 (below_size (tb HB))); replace BK358 := bbf BK358 hb; replace BK359 := bbf BK359 hb; replace BK360 := Aside0.mk (blk_below (g := gb360) (o := .cells #[.int .i64 a0_0, .int .i64 t361, .int .i64 t362, .int .i64 t363, .int .i64 a0_4, .int .i64 a0_5, .int .i64 a0_6, .int .i64 0, .slice none 0 0] 134 (0, 0)) (by (with_reducible repeat (first | refine blk_drewN ?_ _ | refine blk_drew ?_ | refine blk_alloc ?_ _)); refine blk_put (cs := #[.int .i64 a0_0, .int .i64 t361, .int .i64 t362, .int .i64 t363, .int .i64 a0_4, .int .i64 a0_5, .int .i64 0, .int .i64 0, .slice none 0 0]) ?_ 6 _ rfl; (with_reducible repeat (first | refine blk_drewN ?_ _ | refine blk_drew ?_ | refine blk_alloc ?_ _)); refine blk_put (cs := #[.int .i64 a0_0, .int .i64 t361, .int .i64 t362, .int .i64 t363, .int .i64 a0_4, .int .i64 0, .int .i64 0, .int .i64 0, .slice none 0 0]) ?_ 5 _ rfl; (with_reducible repeat (first | refine blk_drewN ?_ _ | refine blk_drew ?_ | refine blk_alloc ?_ _)); refine blk_put (cs := #[.int .i64 a0_0, .int .i64 t361, .int .i64 t362, .int .i64 t363, .int .i64 0, .int .i64 0, .int .i64 0, .int .i64 0, .slice none 0 0]) ?_ 4 _ rfl; (with_reducible repeat (first | refine blk_drewN ?_ _ | refine blk_drew ?_ | refine blk_alloc ?_ _)); refine blk_put (cs := #[.int .i64 a0_0, .int .i64 t361, .int .i64 t362, .int .i64 0, .int .i64 0, .int .i64 0, .int .i64 0, .int .i64 0, .slice none 0 0]) ?_ 3 _ rfl; (with_reducible repeat (first | refine blk_drewN ?_ _ | refine blk_drew ?_ | refine blk_alloc ?_ _)); refine blk_put (cs := #[.int .i64 a0_0, .int .i64 t361, .int .i64 0, .int .i64 0, .int .i64 0, .int .i64 0, .int .i64 0, .int .i64 0, .slice none 0 0]) ?_ 2 _ rfl; (with_reducible repeat (first | refine blk_drewN ?_ _ | refine blk_drew ?_ | refine blk_alloc ?_ _)); refine blk_put (cs := #[.int .i64 a0_0, .int .i64 0, .int .i64 0, .int .i64 0, .int .i64 0, .int .i64 0, .int .i64 0, .int .i64 0, .slice none 0 0]) ?_ 1 _ rfl; (with_reducible repeat (first | refine blk_drewN ?_ _ | refine blk_drew ?_ | refine blk_alloc ?_ _)); exact BK360.out) hb); replace HB := bs HB hb; (try clear hb); (try clear ho0); have hz16 := cs9_ BK360; obtain ⟨Ao17, co17, eo17⟩ := Kd.R_slice HO367.out; subst eo17; have hz18 := cs9_ BK359))
 refine bodyPost_ret (results_cell_row rfl _ _ gb359 134 #[.int .i64 a0_0, .int .i64 t361, .int .i64 t362, .int .i64 t363, .int .i64 a0_4, .int .i64 a0_5, .int .i64 a0_6, .int .i64 t364, .slice Ao17 t365.length co17] (0, 0) _ rfl (bfp9 BK359) Tryz.underlying134 rfl (by kernel_rfl)) rfl ?_
 exact ⟨_, er, by (with_reducible repeat (first | apply Kd.R_alloc | apply Kd.R_drewN | apply Kd.R_drew)); exact Kd.R_mono (Kd.R_far (p := ⟨gb359, 8, none⟩) (Kd.R_far (p := ⟨gb359, 7, none⟩) (Kd.R_far (p := ⟨gb359, 6, none⟩) (Kd.R_far (p := ⟨gb359, 5, none⟩) (Kd.R_far (p := ⟨gb359, 4, none⟩) (Kd.R_far (p := ⟨gb359, 3, none⟩) (Kd.R_far (p := ⟨gb359, 2, none⟩) (Kd.R_far (p := ⟨gb359, 1, none⟩) (Kd.R_far (p := ⟨gb359, 0, none⟩) (Kd.R_far (p := ⟨gb360, 8, none⟩) (Kd.R_far (p := ⟨gb360, 7, none⟩) (Kd.R_types (Kd.R_types HO367.out BK360.out (by decide)) BK359.out (by decide)) (fun _ hk => hk.1.2) (.int .i64 t364)) (fun _ hk => hk.1.2) (.slice Ao17 t365.length co17)) (fun _ hk => hk.2) (.int .i64 a0_0)) (fun _ hk => hk.2) (.int .i64 t361)) (fun _ hk => hk.2) (.int .i64 t362)) (fun _ hk => hk.2) (.int .i64 t363)) (fun _ hk => hk.2) (.int .i64 a0_4)) (fun _ hk => hk.2) (.int .i64 a0_5)) (fun _ hk => hk.2) (.int .i64 a0_6)) (fun _ hk => hk.2) (.int .i64 t364)) (fun _ hk => hk.2) (.slice Ao17 t365.length co17)) (fun _ hk => trivial), tb HB⟩
def laws_eqDesc.f (k : Nat) (a0_0 : Int) (a0_1 : Int) (l0_2 : List (S37)) (a0_3 : Int) (l0_4 : List Int) (a1_0 : Int) (a1_1 : Int) (l1_2 : List (S37)) (a1_3 : Int) (l1_4 : List Int) : Option (Bool) := if a0_0 = a1_0 then (if a0_1 = a1_1 then ((laws_eqEntryS.f k l0_2 l1_2).bind fun t526 => (if t526 = true then ((laws_eqRes.f k a0_3 l0_4 a1_3 l1_4).bind fun t527 => (if t527 = true then (some true) else (some false))) else (some false))) else (some false)) else (some false)
set_option maxHeartbeats 8000000 in
set_option maxRecDepth 100000 in
theorem laws_eqDesc.calls (k : Nat) (a0_0 : Int) (a0_1 : Int) (A0_2 : Option Addr) (c0_2 : Nat) (l0_2 : List (S37)) (a0_3 : Int) (A0_4 : Option Addr) (c0_4 : Nat) (l0_4 : List Int) (a1_0 : Int) (a1_1 : Int) (A1_2 : Option Addr) (c1_2 : Nat) (l1_2 : List (S37)) (a1_3 : Int) (A1_4 : Option Addr) (c1_4 : Nat) (l1_4 : List Int) (r : Bool) (w : World) (hr0_2 : Kd.C k37 w A0_2 l0_2.length l0_2) (hc0_2 : l0_2.length ≤ c0_2) (hr0_4 : Kd.C (Kd.int .i64) w A0_4 l0_4.length l0_4) (hc0_4 : l0_4.length ≤ c0_4) (hr1_2 : Kd.C k37 w A1_2 l1_2.length l1_2) (hc1_2 : l1_2.length ≤ c1_2) (hr1_4 : Kd.C (Kd.int .i64) w A1_4 l1_4.length l1_4) (hc1_4 : l1_4.length ≤ c1_4) (h : laws_eqDesc.f k a0_0 a0_1 l0_2 a0_3 l0_4 a1_0 a1_1 l1_2 a1_3 l1_4 = some r) :
  Calls Tryz.prog 183 #[.agg #[.int .i64 a0_0, .int .i64 a0_1, .slice A0_2 l0_2.length c0_2, .int .i64 a0_3, .slice A0_4 l0_4.length c0_4], .agg #[.int .i64 a1_0, .int .i64 a1_1, .slice A1_2 l1_2.length c1_2, .int .i64 a1_3, .slice A1_4 l1_4.length c1_4]] w fun e w' => e = .returned (.bool r) ∧ Below w.heap.size w w' := by
 have hu52 := Tryz.underlying52
 have hu31 := Tryz.underlying31
 have HR0_2 := Aside0.mk hr0_2
 have HC0_2 := Aside0.mk hc0_2
 clear hr0_2 hc0_2
 have HR0_4 := Aside0.mk hr0_4
 have HC0_4 := Aside0.mk hc0_4
 clear hr0_4 hc0_4
 have HR1_2 := Aside0.mk hr1_2
 have HC1_2 := Aside0.mk hc1_2
 clear hr1_2 hc1_2
 have HR1_4 := Aside0.mk hr1_4
 have HC1_4 := Aside0.mk hc1_4
 clear hr1_4 hc1_4
 have HB := Aside0.mk (Below.refl w.heap.size w)
 have H := h
 clear h
 unfold laws_eqDesc.f at H
 by_cases c3 : a0_0 = a1_0
 case neg =>
  rw [if_neg c3] at H
  have c3b0 : (a0_0 == a1_0) = false := beq_eq_false_iff_ne.mpr c3
  have c3b1 : (a0_0 != a1_0) = true := bne_iff_ne.mpr c3
  obtain rfl := oin H
  go_enter Tryz.func183, Tryz.ntmps183
  go_wp2_with (first | ((with_reducible refine gq 2 rfl ?_); refine bx0 HB (N := 2) (t := 52) ?_; clear HB; intro gb524 w38 BK524 GE524 HB) | ((with_reducible refine gq 3 rfl ?_); refine bx1 HB BK524 (N := 3) (t := 52) ?_; clear HB BK524; intro gb525 w39 BK525 GE525 HB NB524_525 NB525_524 BK524; have hnb40 := NB524_525.out; have hnc40 := NB525_524.out; have hz41 := cs5_ BK524; have hz42 := cs5_ BK525))
  go_ret
  exact ⟨er, tb HB⟩
 
 
 rw [if_pos c3] at H
 have c3b0 : (a0_0 == a1_0) = true := beq_iff_eq.mpr c3
 have c3b1 : (a0_0 != a1_0) = false := bne_eq_false_iff_eq.mpr c3
 clear c3
 by_cases c4 : a0_1 = a1_1
 case neg =>
  rw [if_neg c4] at H
  have c4b0 : (a0_1 == a1_1) = false := beq_eq_false_iff_ne.mpr c4
  have c4b1 : (a0_1 != a1_1) = true := bne_iff_ne.mpr c4
  obtain rfl := oin H
  go_enter Tryz.func183, Tryz.ntmps183
  go_wp2_with (first | ((with_reducible refine gq 2 rfl ?_); refine bx0 HB (N := 2) (t := 52) ?_; clear HB; intro gb524 w33 BK524 GE524 HB) | ((with_reducible refine gq 3 rfl ?_); refine bx1 HB BK524 (N := 3) (t := 52) ?_; clear HB BK524; intro gb525 w34 BK525 GE525 HB NB524_525 NB525_524 BK524; have hnb35 := NB524_525.out; have hnc35 := NB525_524.out; have hz36 := cs5_ BK524; have hz37 := cs5_ BK525))
  go_ret
  exact ⟨er, tb HB⟩
 rw [if_pos c4] at H
 have c4b0 : (a0_1 == a1_1) = true := beq_iff_eq.mpr c4
 have c4b1 : (a0_1 != a1_1) = false := bne_eq_false_iff_eq.mpr c4
 clear c4
 obtain ⟨t526, A5, H⟩ := bn H
 try dsimp only at H
 cases t526
 case false =>
  replace H := ipf H
  obtain rfl := oin H
  go_enter Tryz.func183, Tryz.ntmps183
  go_wp2_with (first | ((with_reducible refine gq 2 rfl ?_); refine bx0 HB (N := 2) (t := 52) ?_; clear HB; intro gb524 w27 BK524 GE524 HB) | ((with_reducible refine gq 3 rfl ?_); refine bx1 HB BK524 (N := 3) (t := 52) ?_; clear HB BK524; intro gb525 w28 BK525 GE525 HB NB524_525 NB525_524 BK524; have hnb29 := NB524_525.out; have hnc29 := NB525_524.out; have hz30 := cs5_ BK524; have hz31 := cs5_ BK525) | ((with_reducible refine gf 194 rfl ?_); refine gL 19 Tryz.func194 #[.slice A0_2 l0_2.length c0_2, .slice A1_2 l1_2.length c1_2] ?_; (with_reducible refine (laws_eqEntryS.calls k _ _ l0_2 _ _ l1_2 false _ (kc HR0_2 HB) HC0_2.out (kc HR1_2 HB) HC1_2.out A5.out).mono ?_); rintro e w32 ⟨rfl, hb⟩; refine ⟨_, rfl, ?_⟩; replace BK524 := bb BK524 hb; replace BK525 := bb BK525 hb; replace HB := bs HB hb; (try clear hb)))
  go_ret
  exact ⟨er, tb HB⟩
 replace H := ipt H
 obtain ⟨t527, A7, H⟩ := bn H
 try dsimp only at H
 cases t527
 case true =>
  replace H := ipt H
  obtain rfl := oin H
  go_enter Tryz.func183, Tryz.ntmps183
  go_wp2_with (first | ((with_reducible refine gq 2 rfl ?_); refine bx0 HB (N := 2) (t := 52) ?_; clear HB; intro gb524 w9 BK524 GE524 HB) | ((with_reducible refine gq 3 rfl ?_); refine bx1 HB BK524 (N := 3) (t := 52) ?_; clear HB BK524; intro gb525 w10 BK525 GE525 HB NB524_525 NB525_524 BK524; have hnb11 := NB524_525.out; have hnc11 := NB525_524.out; have hz12 := cs5_ BK524; have hz13 := cs5_ BK525) | ((with_reducible refine gf 194 rfl ?_); refine gL 19 Tryz.func194 #[.slice A0_2 l0_2.length c0_2, .slice A1_2 l1_2.length c1_2] ?_; (with_reducible refine (laws_eqEntryS.calls k _ _ l0_2 _ _ l1_2 true _ (kc HR0_2 HB) HC0_2.out (kc HR1_2 HB) HC1_2.out A5.out).mono ?_); rintro e w14 ⟨rfl, hb⟩; refine ⟨_, rfl, ?_⟩; replace BK524 := bb BK524 hb; replace BK525 := bb BK525 hb; replace HB := bs HB hb; (try clear hb); have hz15 := cs5_ BK524; have hz16 := cs5_ BK525) | ((with_reducible refine gf 188 rfl ?_); refine gL 25 Tryz.func188 #[.agg #[.int .i64 a0_3, .slice A0_4 l0_4.length c0_4], .agg #[.int .i64 a1_3, .slice A1_4 l1_4.length c1_4]] ?_; (with_reducible refine (laws_eqRes.calls k a0_3 _ _ l0_4 a1_3 _ _ l1_4 true _ (kc HR0_4 HB) HC0_4.out (kc HR1_4 HB) HC1_4.out A7.out).mono ?_); rintro e w17 ⟨rfl, hb⟩; refine ⟨_, rfl, ?_⟩; replace BK524 := bb BK524 hb; replace BK525 := bb BK525 hb; replace HB := bs HB hb; (try clear hb)))
  go_ret
  exact ⟨er, tb HB⟩
 replace H := ipf H
 obtain rfl := oin H
 go_enter Tryz.func183, Tryz.ntmps183
 go_wp2_with (first | ((with_reducible refine gq 2 rfl ?_); refine bx0 HB (N := 2) (t := 52) ?_; clear HB; intro gb524 w18 BK524 GE524 HB) | ((with_reducible refine gq 3 rfl ?_); refine bx1 HB BK524 (N := 3) (t := 52) ?_; clear HB BK524; intro gb525 w19 BK525 GE525 HB NB524_525 NB525_524 BK524; have hnb20 := NB524_525.out; have hnc20 := NB525_524.out; have hz21 := cs5_ BK524; have hz22 := cs5_ BK525) | ((with_reducible refine gf 194 rfl ?_); refine gL 19 Tryz.func194 #[.slice A0_2 l0_2.length c0_2, .slice A1_2 l1_2.length c1_2] ?_; (with_reducible refine (laws_eqEntryS.calls k _ _ l0_2 _ _ l1_2 true _ (kc HR0_2 HB) HC0_2.out (kc HR1_2 HB) HC1_2.out A5.out).mono ?_); rintro e w23 ⟨rfl, hb⟩; refine ⟨_, rfl, ?_⟩; replace BK524 := bb BK524 hb; replace BK525 := bb BK525 hb; replace HB := bs HB hb; (try clear hb); have hz24 := cs5_ BK524; have hz25 := cs5_ BK525) | ((with_reducible refine gf 188 rfl ?_); refine gL 25 Tryz.func188 #[.agg #[.int .i64 a0_3, .slice A0_4 l0_4.length c0_4], .agg #[.int .i64 a1_3, .slice A1_4 l1_4.length c1_4]] ?_; (with_reducible refine (laws_eqRes.calls k a0_3 _ _ l0_4 a1_3 _ _ l1_4 false _ (kc HR0_4 HB) HC0_4.out (kc HR1_4 HB) HC1_4.out A7.out).mono ?_); rintro e w26 ⟨rfl, hb⟩; refine ⟨_, rfl, ?_⟩; replace BK524 := bb BK524 hb; replace BK525 := bb BK525 hb; replace HB := bs HB hb; (try clear hb)))
 go_ret
 exact ⟨er, tb HB⟩
def laws_eqThread.f (k : Nat) (l0_0 : List (S132)) (a0_1 : Int) (a0_2 : Bool) (l0_3 : List (S145)) (l0_4 : List (S42)) (l1_0 : List (S132)) (a1_1 : Int) (a1_2 : Bool) (l1_3 : List (S145)) (l1_4 : List (S42)) : Option (Bool) := (laws_eqOpS.f k l0_0 l1_0).bind fun t552 => (if t552 = true then (if a0_1 = a1_1 then (if (a0_2 != a1_2) = true then (some false) else ((laws_eqPairS.f k l0_3 l1_3).bind fun t553 => (if t553 = true then ((laws_eqHelpS.f k l0_4 l1_4).bind fun t554 => (if t554 = true then (some true) else (some false))) else (some false)))) else (some false)) else (some false))
set_option maxHeartbeats 8000000 in
set_option maxRecDepth 100000 in
theorem laws_eqThread.calls (k : Nat) (A0_0 : Option Addr) (c0_0 : Nat) (l0_0 : List (S132)) (a0_1 : Int) (a0_2 : Bool) (A0_3 : Option Addr) (c0_3 : Nat) (l0_3 : List (S145)) (A0_4 : Option Addr) (c0_4 : Nat) (l0_4 : List (S42)) (A1_0 : Option Addr) (c1_0 : Nat) (l1_0 : List (S132)) (a1_1 : Int) (a1_2 : Bool) (A1_3 : Option Addr) (c1_3 : Nat) (l1_3 : List (S145)) (A1_4 : Option Addr) (c1_4 : Nat) (l1_4 : List (S42)) (r : Bool) (w : World) (hr0_0 : Kd.C k132 w A0_0 l0_0.length l0_0) (hc0_0 : l0_0.length ≤ c0_0) (hr0_3 : Kd.C k145 w A0_3 l0_3.length l0_3) (hc0_3 : l0_3.length ≤ c0_3) (hr0_4 : Kd.C k42 w A0_4 l0_4.length l0_4) (hc0_4 : l0_4.length ≤ c0_4) (hr1_0 : Kd.C k132 w A1_0 l1_0.length l1_0) (hc1_0 : l1_0.length ≤ c1_0) (hr1_3 : Kd.C k145 w A1_3 l1_3.length l1_3) (hc1_3 : l1_3.length ≤ c1_3) (hr1_4 : Kd.C k42 w A1_4 l1_4.length l1_4) (hc1_4 : l1_4.length ≤ c1_4) (h : laws_eqThread.f k l0_0 a0_1 a0_2 l0_3 l0_4 l1_0 a1_1 a1_2 l1_3 l1_4 = some r) :
  Calls Tryz.prog 154 #[.agg #[.slice A0_0 l0_0.length c0_0, .int .i64 a0_1, .bool a0_2, .slice A0_3 l0_3.length c0_3, .slice A0_4 l0_4.length c0_4], .agg #[.slice A1_0 l1_0.length c1_0, .int .i64 a1_1, .bool a1_2, .slice A1_3 l1_3.length c1_3, .slice A1_4 l1_4.length c1_4]] w fun e w' => e = .returned (.bool r) ∧ Below w.heap.size w w' := by
 have hu82 := Tryz.underlying82
 have HR0_0 := Aside0.mk hr0_0
 have HC0_0 := Aside0.mk hc0_0
 clear hr0_0 hc0_0
 have HR0_3 := Aside0.mk hr0_3
 have HC0_3 := Aside0.mk hc0_3
 clear hr0_3 hc0_3
 have HR0_4 := Aside0.mk hr0_4
 have HC0_4 := Aside0.mk hc0_4
 clear hr0_4 hc0_4
 have HR1_0 := Aside0.mk hr1_0
 have HC1_0 := Aside0.mk hc1_0
 clear hr1_0 hc1_0
 have HR1_3 := Aside0.mk hr1_3
 have HC1_3 := Aside0.mk hc1_3
 clear hr1_3 hc1_3
 have HR1_4 := Aside0.mk hr1_4
 have HC1_4 := Aside0.mk hc1_4
 clear hr1_4 hc1_4
 have HB := Aside0.mk (Below.refl w.heap.size w)
 have H := h
 clear h
 unfold laws_eqThread.f at H
 obtain ⟨t552, A3, H⟩ := bn H
 try dsimp only at H
 cases t552
 case false =>
  replace H := ipf H
  obtain rfl := oin H
  go_enter Tryz.func154, Tryz.ntmps154
  go_wp2_with (first | ((with_reducible refine gq 2 rfl ?_); refine bx0 HB (N := 2) (t := 82) ?_; clear HB; intro gb550 w60 BK550 GE550 HB) | ((with_reducible refine gq 3 rfl ?_); refine bx1 HB BK550 (N := 3) (t := 82) ?_; clear HB BK550; intro gb551 w61 BK551 GE551 HB NB550_551 NB551_550 BK550; have hnb62 := NB550_551.out; have hnc62 := NB551_550.out; have hz63 := cs5_ BK550; have hz64 := cs5_ BK551) | ((with_reducible refine gf 184 rfl ?_); refine gL 9 Tryz.func184 #[.slice A0_0 l0_0.length c0_0, .slice A1_0 l1_0.length c1_0] ?_; (with_reducible refine (laws_eqOpS.calls k _ _ l0_0 _ _ l1_0 false _ (kc HR0_0 HB) HC0_0.out (kc HR1_0 HB) HC1_0.out A3.out).mono ?_); rintro e w65 ⟨rfl, hb⟩; refine ⟨_, rfl, ?_⟩; replace BK550 := bb BK550 hb; replace BK551 := bb BK551 hb; replace HB := bs HB hb; (try clear hb)))
  go_ret
  exact ⟨er, tb HB⟩
 replace H := ipt H
 by_cases c5 : a0_1 = a1_1
 case neg =>
  rw [if_neg c5] at H
  have c5b0 : (a0_1 == a1_1) = false := beq_eq_false_iff_ne.mpr c5
  have c5b1 : (a0_1 != a1_1) = true := bne_iff_ne.mpr c5
  obtain rfl := oin H
  go_enter Tryz.func154, Tryz.ntmps154
  go_wp2_with (first | ((with_reducible refine gq 2 rfl ?_); refine bx0 HB (N := 2) (t := 82) ?_; clear HB; intro gb550 w52 BK550 GE550 HB) | ((with_reducible refine gq 3 rfl ?_); refine bx1 HB BK550 (N := 3) (t := 82) ?_; clear HB BK550; intro gb551 w53 BK551 GE551 HB NB550_551 NB551_550 BK550; have hnb54 := NB550_551.out; have hnc54 := NB551_550.out; have hz55 := cs5_ BK550; have hz56 := cs5_ BK551) | ((with_reducible refine gf 184 rfl ?_); refine gL 9 Tryz.func184 #[.slice A0_0 l0_0.length c0_0, .slice A1_0 l1_0.length c1_0] ?_; (with_reducible refine (laws_eqOpS.calls k _ _ l0_0 _ _ l1_0 true _ (kc HR0_0 HB) HC0_0.out (kc HR1_0 HB) HC1_0.out A3.out).mono ?_); rintro e w57 ⟨rfl, hb⟩; refine ⟨_, rfl, ?_⟩; replace BK550 := bb BK550 hb; replace BK551 := bb BK551 hb; replace HB := bs HB hb; (try clear hb); have hz58 := cs5_ BK550; have hz59 := cs5_ BK551))
  go_ret
  exact ⟨er, tb HB⟩
 rw [if_pos c5] at H
 have c5b0 : (a0_1 == a1_1) = true := beq_iff_eq.mpr c5
 have c5b1 : (a0_1 != a1_1) = false := bne_eq_false_iff_eq.mpr c5
 clear c5
 by_cases c6 : (a0_2 != a1_2) = true
 case pos =>
  rw [if_pos c6] at H
  have c6b0 : (a0_2 != a1_2) = true := c6
  (try (have c6b1 : decide (a0_2 = a1_2) = false := by simpa using c6))
  (try (have c6b2 : (a0_2 == a1_2) = false := by simpa using c6))
  (try (have c6b3 : ¬ (a0_2 = a1_2) := by simpa using c6))
  clear c6
  obtain rfl := oin H
  go_enter Tryz.func154, Tryz.ntmps154
  go_wp2_with (first | ((with_reducible refine gq 2 rfl ?_); refine bx0 HB (N := 2) (t := 82) ?_; clear HB; intro gb550 w7 BK550 GE550 HB) | ((with_reducible refine gq 3 rfl ?_); refine bx1 HB BK550 (N := 3) (t := 82) ?_; clear HB BK550; intro gb551 w8 BK551 GE551 HB NB550_551 NB551_550 BK550; have hnb9 := NB550_551.out; have hnc9 := NB551_550.out; have hz10 := cs5_ BK550; have hz11 := cs5_ BK551) | ((with_reducible refine gf 184 rfl ?_); refine gL 9 Tryz.func184 #[.slice A0_0 l0_0.length c0_0, .slice A1_0 l1_0.length c1_0] ?_; (with_reducible refine (laws_eqOpS.calls k _ _ l0_0 _ _ l1_0 true _ (kc HR0_0 HB) HC0_0.out (kc HR1_0 HB) HC1_0.out A3.out).mono ?_); rintro e w12 ⟨rfl, hb⟩; refine ⟨_, rfl, ?_⟩; replace BK550 := bb BK550 hb; replace BK551 := bb BK551 hb; replace HB := bs HB hb; (try clear hb); have hz13 := cs5_ BK550; have hz14 := cs5_ BK551))
  go_ret
  exact ⟨er, tb HB⟩
 rw [if_neg c6] at H
 have c6b0 : (a0_2 != a1_2) = false := by simpa using c6
 (try (have c6b1 : decide (a0_2 = a1_2) = true := by simpa using c6))
 (try (have c6b2 : (a0_2 == a1_2) = true := by simpa using c6))
 clear c6
 obtain ⟨t553, A15, H⟩ := bn H
 try dsimp only at H
 cases t553
 case false =>
  replace H := ipf H
  obtain rfl := oin H
  go_enter Tryz.func154, Tryz.ntmps154
  go_wp2_with (first | ((with_reducible refine gq 2 rfl ?_); refine bx0 HB (N := 2) (t := 82) ?_; clear HB; intro gb550 w43 BK550 GE550 HB) | ((with_reducible refine gq 3 rfl ?_); refine bx1 HB BK550 (N := 3) (t := 82) ?_; clear HB BK550; intro gb551 w44 BK551 GE551 HB NB550_551 NB551_550 BK550; have hnb45 := NB550_551.out; have hnc45 := NB551_550.out; have hz46 := cs5_ BK550; have hz47 := cs5_ BK551) | ((with_reducible refine gf 184 rfl ?_); refine gL 9 Tryz.func184 #[.slice A0_0 l0_0.length c0_0, .slice A1_0 l1_0.length c1_0] ?_; (with_reducible refine (laws_eqOpS.calls k _ _ l0_0 _ _ l1_0 true _ (kc HR0_0 HB) HC0_0.out (kc HR1_0 HB) HC1_0.out A3.out).mono ?_); rintro e w48 ⟨rfl, hb⟩; refine ⟨_, rfl, ?_⟩; replace BK550 := bb BK550 hb; replace BK551 := bb BK551 hb; replace HB := bs HB hb; (try clear hb); have hz49 := cs5_ BK550; have hz50 := cs5_ BK551) | ((with_reducible refine gf 185 rfl ?_); refine gL 25 Tryz.func185 #[.slice A0_3 l0_3.length c0_3, .slice A1_3 l1_3.length c1_3] ?_; (with_reducible refine (laws_eqPairS.calls k _ _ l0_3 _ _ l1_3 false _ (kc HR0_3 HB) HC0_3.out (kc HR1_3 HB) HC1_3.out A15.out).mono ?_); rintro e w51 ⟨rfl, hb⟩; refine ⟨_, rfl, ?_⟩; replace BK550 := bb BK550 hb; replace BK551 := bb BK551 hb; replace HB := bs HB hb; (try clear hb)))
  go_ret
  exact ⟨er, tb HB⟩
 replace H := ipt H
 obtain ⟨t554, A17, H⟩ := bn H
 try dsimp only at H
 cases t554
 case true =>
  replace H := ipt H
  obtain rfl := oin H
  go_enter Tryz.func154, Tryz.ntmps154
  go_wp2_with (first | ((with_reducible refine gq 2 rfl ?_); refine bx0 HB (N := 2) (t := 82) ?_; clear HB; intro gb550 w19 BK550 GE550 HB) | ((with_reducible refine gq 3 rfl ?_); refine bx1 HB BK550 (N := 3) (t := 82) ?_; clear HB BK550; intro gb551 w20 BK551 GE551 HB NB550_551 NB551_550 BK550; have hnb21 := NB550_551.out; have hnc21 := NB551_550.out; have hz22 := cs5_ BK550; have hz23 := cs5_ BK551) | ((with_reducible refine gf 184 rfl ?_); refine gL 9 Tryz.func184 #[.slice A0_0 l0_0.length c0_0, .slice A1_0 l1_0.length c1_0] ?_; (with_reducible refine (laws_eqOpS.calls k _ _ l0_0 _ _ l1_0 true _ (kc HR0_0 HB) HC0_0.out (kc HR1_0 HB) HC1_0.out A3.out).mono ?_); rintro e w24 ⟨rfl, hb⟩; refine ⟨_, rfl, ?_⟩; replace BK550 := bb BK550 hb; replace BK551 := bb BK551 hb; replace HB := bs HB hb; (try clear hb); have hz25 := cs5_ BK550; have hz26 := cs5_ BK551) | ((with_reducible refine gf 185 rfl ?_); refine gL 25 Tryz.func185 #[.slice A0_3 l0_3.length c0_3, .slice A1_3 l1_3.length c1_3] ?_; (with_reducible refine (laws_eqPairS.calls k _ _ l0_3 _ _ l1_3 true _ (kc HR0_3 HB) HC0_3.out (kc HR1_3 HB) HC1_3.out A15.out).mono ?_); rintro e w27 ⟨rfl, hb⟩; refine ⟨_, rfl, ?_⟩; replace BK550 := bb BK550 hb; replace BK551 := bb BK551 hb; replace HB := bs HB hb; (try clear hb); have hz28 := cs5_ BK550; have hz29 := cs5_ BK551) | ((with_reducible refine gf 186 rfl ?_); refine gL 31 Tryz.func186 #[.slice A0_4 l0_4.length c0_4, .slice A1_4 l1_4.length c1_4] ?_; (with_reducible refine (laws_eqHelpS.calls k _ _ l0_4 _ _ l1_4 true _ (kc HR0_4 HB) HC0_4.out (kc HR1_4 HB) HC1_4.out A17.out).mono ?_); rintro e w30 ⟨rfl, hb⟩; refine ⟨_, rfl, ?_⟩; replace BK550 := bb BK550 hb; replace BK551 := bb BK551 hb; replace HB := bs HB hb; (try clear hb)))
  go_ret
  exact ⟨er, tb HB⟩
 replace H := ipf H
 obtain rfl := oin H
 go_enter Tryz.func154, Tryz.ntmps154
 go_wp2_with (first | ((with_reducible refine gq 2 rfl ?_); refine bx0 HB (N := 2) (t := 82) ?_; clear HB; intro gb550 w31 BK550 GE550 HB) | ((with_reducible refine gq 3 rfl ?_); refine bx1 HB BK550 (N := 3) (t := 82) ?_; clear HB BK550; intro gb551 w32 BK551 GE551 HB NB550_551 NB551_550 BK550; have hnb33 := NB550_551.out; have hnc33 := NB551_550.out; have hz34 := cs5_ BK550; have hz35 := cs5_ BK551) | ((with_reducible refine gf 184 rfl ?_); refine gL 9 Tryz.func184 #[.slice A0_0 l0_0.length c0_0, .slice A1_0 l1_0.length c1_0] ?_; (with_reducible refine (laws_eqOpS.calls k _ _ l0_0 _ _ l1_0 true _ (kc HR0_0 HB) HC0_0.out (kc HR1_0 HB) HC1_0.out A3.out).mono ?_); rintro e w36 ⟨rfl, hb⟩; refine ⟨_, rfl, ?_⟩; replace BK550 := bb BK550 hb; replace BK551 := bb BK551 hb; replace HB := bs HB hb; (try clear hb); have hz37 := cs5_ BK550; have hz38 := cs5_ BK551) | ((with_reducible refine gf 185 rfl ?_); refine gL 25 Tryz.func185 #[.slice A0_3 l0_3.length c0_3, .slice A1_3 l1_3.length c1_3] ?_; (with_reducible refine (laws_eqPairS.calls k _ _ l0_3 _ _ l1_3 true _ (kc HR0_3 HB) HC0_3.out (kc HR1_3 HB) HC1_3.out A15.out).mono ?_); rintro e w39 ⟨rfl, hb⟩; refine ⟨_, rfl, ?_⟩; replace BK550 := bb BK550 hb; replace BK551 := bb BK551 hb; replace HB := bs HB hb; (try clear hb); have hz40 := cs5_ BK550; have hz41 := cs5_ BK551) | ((with_reducible refine gf 186 rfl ?_); refine gL 31 Tryz.func186 #[.slice A0_4 l0_4.length c0_4, .slice A1_4 l1_4.length c1_4] ?_; (with_reducible refine (laws_eqHelpS.calls k _ _ l0_4 _ _ l1_4 false _ (kc HR0_4 HB) HC0_4.out (kc HR1_4 HB) HC1_4.out A17.out).mono ?_); rintro e w42 ⟨rfl, hb⟩; refine ⟨_, rfl, ?_⟩; replace BK550 := bb BK550 hb; replace BK551 := bb BK551 hb; replace HB := bs HB hb; (try clear hb)))
 go_ret
 exact ⟨er, tb HB⟩
def laws_eqCall.f (k : Nat) (a0_0 : Int) (a0_1 : Int) (a0_2 : Int) (a0_3 : Int) (a0_4 : Int) (a0_5 : Int) (a0_6 : Int) (a0_7 : Int) (l0_8 : List Int) (a1_0 : Int) (a1_1 : Int) (a1_2 : Int) (a1_3 : Int) (a1_4 : Int) (a1_5 : Int) (a1_6 : Int) (a1_7 : Int) (l1_8 : List Int) : Option (Bool) := if a0_0 = a1_0 then ((laws_eqOp.f a0_1 a0_2 a0_3 a1_1 a1_2 a1_3).bind fun t560 => (if t560 = true then (if a0_4 = a1_4 then (if a0_5 = a1_5 then (if a0_6 = a1_6 then ((laws_eqRes.f k a0_7 l0_8 a1_7 l1_8).bind fun t561 => (if t561 = true then (some true) else (some false))) else (some false)) else (some false)) else (some false)) else (some false))) else (some false)
set_option maxHeartbeats 8000000 in
set_option maxRecDepth 100000 in
theorem laws_eqCall.calls (k : Nat) (a0_0 : Int) (a0_1 : Int) (a0_2 : Int) (a0_3 : Int) (a0_4 : Int) (a0_5 : Int) (a0_6 : Int) (a0_7 : Int) (A0_8 : Option Addr) (c0_8 : Nat) (l0_8 : List Int) (a1_0 : Int) (a1_1 : Int) (a1_2 : Int) (a1_3 : Int) (a1_4 : Int) (a1_5 : Int) (a1_6 : Int) (a1_7 : Int) (A1_8 : Option Addr) (c1_8 : Nat) (l1_8 : List Int) (r : Bool) (w : World) (hr0_8 : Kd.C (Kd.int .i64) w A0_8 l0_8.length l0_8) (hc0_8 : l0_8.length ≤ c0_8) (hr1_8 : Kd.C (Kd.int .i64) w A1_8 l1_8.length l1_8) (hc1_8 : l1_8.length ≤ c1_8) (h : laws_eqCall.f k a0_0 a0_1 a0_2 a0_3 a0_4 a0_5 a0_6 a0_7 l0_8 a1_0 a1_1 a1_2 a1_3 a1_4 a1_5 a1_6 a1_7 l1_8 = some r) :
  Calls Tryz.prog 155 #[.agg #[.int .i64 a0_0, .int .i64 a0_1, .int .i64 a0_2, .int .i64 a0_3, .int .i64 a0_4, .int .i64 a0_5, .int .i64 a0_6, .int .i64 a0_7, .slice A0_8 l0_8.length c0_8], .agg #[.int .i64 a1_0, .int .i64 a1_1, .int .i64 a1_2, .int .i64 a1_3, .int .i64 a1_4, .int .i64 a1_5, .int .i64 a1_6, .int .i64 a1_7, .slice A1_8 l1_8.length c1_8]] w fun e w' => e = .returned (.bool r) ∧ Below w.heap.size w w' := by
 have hu134 := Tryz.underlying134
 have hu132 := Tryz.underlying132
 have hu31 := Tryz.underlying31
 have HR0_8 := Aside0.mk hr0_8
 have HC0_8 := Aside0.mk hc0_8
 clear hr0_8 hc0_8
 have HR1_8 := Aside0.mk hr1_8
 have HC1_8 := Aside0.mk hc1_8
 clear hr1_8 hc1_8
 have HB := Aside0.mk (Below.refl w.heap.size w)
 have H := h
 clear h
 unfold laws_eqCall.f at H
 by_cases c3 : a0_0 = a1_0
 case neg =>
  rw [if_neg c3] at H
  have c3b0 : (a0_0 == a1_0) = false := beq_eq_false_iff_ne.mpr c3
  have c3b1 : (a0_0 != a1_0) = true := bne_iff_ne.mpr c3
  obtain rfl := oin H
  go_enter Tryz.func155, Tryz.ntmps155
  go_wp2_with (first | ((with_reducible refine gq 2 rfl ?_); refine bx0 HB (N := 2) (t := 134) ?_; clear HB; intro gb558 w59 BK558 GE558 HB) | ((with_reducible refine gq 3 rfl ?_); refine bx1 HB BK558 (N := 3) (t := 134) ?_; clear HB BK558; intro gb559 w60 BK559 GE559 HB NB558_559 NB559_558 BK558; have hnb61 := NB558_559.out; have hnc61 := NB559_558.out; have hz62 := cs9_ BK558; have hz63 := cs9_ BK559))
  go_ret
  exact ⟨er, tb HB⟩
 
 
 rw [if_pos c3] at H
 have c3b0 : (a0_0 == a1_0) = true := beq_iff_eq.mpr c3
 have c3b1 : (a0_0 != a1_0) = false := bne_eq_false_iff_eq.mpr c3
 clear c3
 obtain ⟨t560, A4, H⟩ := bn H
 try dsimp only at H
 cases t560
 case false =>
  replace H := ipf H
  obtain rfl := oin H
  go_enter Tryz.func155, Tryz.ntmps155
  go_wp2_with (first | ((with_reducible refine gq 2 rfl ?_); refine bx0 HB (N := 2) (t := 134) ?_; clear HB; intro gb558 w53 BK558 GE558 HB) | ((with_reducible refine gq 3 rfl ?_); refine bx1 HB BK558 (N := 3) (t := 134) ?_; clear HB BK558; intro gb559 w54 BK559 GE559 HB NB558_559 NB559_558 BK558; have hnb55 := NB558_559.out; have hnc55 := NB559_558.out; have hz56 := cs9_ BK558; have hz57 := cs9_ BK559) | ((with_reducible refine gf 187 rfl ?_); refine gL 14 Tryz.func187 #[.agg #[.int .i64 a0_1, .int .i64 a0_2, .int .i64 a0_3], .agg #[.int .i64 a1_1, .int .i64 a1_2, .int .i64 a1_3]] ?_; (with_reducible refine (laws_eqOp.calls a0_1 a0_2 a0_3 a1_1 a1_2 a1_3 false _ A4.out).mono ?_); rintro e w58 ⟨rfl, hb⟩; refine ⟨_, rfl, ?_⟩; replace BK558 := bb BK558 hb; replace BK559 := bb BK559 hb; replace HB := bs HB hb; (try clear hb)))
  go_ret
  exact ⟨er, tb HB⟩
 replace H := ipt H
 by_cases c6 : a0_4 = a1_4
 case neg =>
  rw [if_neg c6] at H
  have c6b0 : (a0_4 == a1_4) = false := beq_eq_false_iff_ne.mpr c6
  have c6b1 : (a0_4 != a1_4) = true := bne_iff_ne.mpr c6
  obtain rfl := oin H
  go_enter Tryz.func155, Tryz.ntmps155
  go_wp2_with (first | ((with_reducible refine gq 2 rfl ?_); refine bx0 HB (N := 2) (t := 134) ?_; clear HB; intro gb558 w45 BK558 GE558 HB) | ((with_reducible refine gq 3 rfl ?_); refine bx1 HB BK558 (N := 3) (t := 134) ?_; clear HB BK558; intro gb559 w46 BK559 GE559 HB NB558_559 NB559_558 BK558; have hnb47 := NB558_559.out; have hnc47 := NB559_558.out; have hz48 := cs9_ BK558; have hz49 := cs9_ BK559) | ((with_reducible refine gf 187 rfl ?_); refine gL 14 Tryz.func187 #[.agg #[.int .i64 a0_1, .int .i64 a0_2, .int .i64 a0_3], .agg #[.int .i64 a1_1, .int .i64 a1_2, .int .i64 a1_3]] ?_; (with_reducible refine (laws_eqOp.calls a0_1 a0_2 a0_3 a1_1 a1_2 a1_3 true _ A4.out).mono ?_); rintro e w50 ⟨rfl, hb⟩; refine ⟨_, rfl, ?_⟩; replace BK558 := bb BK558 hb; replace BK559 := bb BK559 hb; replace HB := bs HB hb; (try clear hb); have hz51 := cs9_ BK558; have hz52 := cs9_ BK559))
  go_ret
  exact ⟨er, tb HB⟩
 rw [if_pos c6] at H
 have c6b0 : (a0_4 == a1_4) = true := beq_iff_eq.mpr c6
 have c6b1 : (a0_4 != a1_4) = false := bne_eq_false_iff_eq.mpr c6
 clear c6
 by_cases c7 : a0_5 = a1_5
 case neg =>
  rw [if_neg c7] at H
  have c7b0 : (a0_5 == a1_5) = false := beq_eq_false_iff_ne.mpr c7
  have c7b1 : (a0_5 != a1_5) = true := bne_iff_ne.mpr c7
  obtain rfl := oin H
  go_enter Tryz.func155, Tryz.ntmps155
  go_wp2_with (first | ((with_reducible refine gq 2 rfl ?_); refine bx0 HB (N := 2) (t := 134) ?_; clear HB; intro gb558 w37 BK558 GE558 HB) | ((with_reducible refine gq 3 rfl ?_); refine bx1 HB BK558 (N := 3) (t := 134) ?_; clear HB BK558; intro gb559 w38 BK559 GE559 HB NB558_559 NB559_558 BK558; have hnb39 := NB558_559.out; have hnc39 := NB559_558.out; have hz40 := cs9_ BK558; have hz41 := cs9_ BK559) | ((with_reducible refine gf 187 rfl ?_); refine gL 14 Tryz.func187 #[.agg #[.int .i64 a0_1, .int .i64 a0_2, .int .i64 a0_3], .agg #[.int .i64 a1_1, .int .i64 a1_2, .int .i64 a1_3]] ?_; (with_reducible refine (laws_eqOp.calls a0_1 a0_2 a0_3 a1_1 a1_2 a1_3 true _ A4.out).mono ?_); rintro e w42 ⟨rfl, hb⟩; refine ⟨_, rfl, ?_⟩; replace BK558 := bb BK558 hb; replace BK559 := bb BK559 hb; replace HB := bs HB hb; (try clear hb); have hz43 := cs9_ BK558; have hz44 := cs9_ BK559))
  go_ret
  exact ⟨er, tb HB⟩
 rw [if_pos c7] at H
 have c7b0 : (a0_5 == a1_5) = true := beq_iff_eq.mpr c7
 have c7b1 : (a0_5 != a1_5) = false := bne_eq_false_iff_eq.mpr c7
 clear c7
 by_cases c8 : a0_6 = a1_6
 case neg =>
  rw [if_neg c8] at H
  have c8b0 : (a0_6 == a1_6) = false := beq_eq_false_iff_ne.mpr c8
  have c8b1 : (a0_6 != a1_6) = true := bne_iff_ne.mpr c8
  obtain rfl := oin H
  go_enter Tryz.func155, Tryz.ntmps155
  go_wp2_with (first | ((with_reducible refine gq 2 rfl ?_); refine bx0 HB (N := 2) (t := 134) ?_; clear HB; intro gb558 w29 BK558 GE558 HB) | ((with_reducible refine gq 3 rfl ?_); refine bx1 HB BK558 (N := 3) (t := 134) ?_; clear HB BK558; intro gb559 w30 BK559 GE559 HB NB558_559 NB559_558 BK558; have hnb31 := NB558_559.out; have hnc31 := NB559_558.out; have hz32 := cs9_ BK558; have hz33 := cs9_ BK559) | ((with_reducible refine gf 187 rfl ?_); refine gL 14 Tryz.func187 #[.agg #[.int .i64 a0_1, .int .i64 a0_2, .int .i64 a0_3], .agg #[.int .i64 a1_1, .int .i64 a1_2, .int .i64 a1_3]] ?_; (with_reducible refine (laws_eqOp.calls a0_1 a0_2 a0_3 a1_1 a1_2 a1_3 true _ A4.out).mono ?_); rintro e w34 ⟨rfl, hb⟩; refine ⟨_, rfl, ?_⟩; replace BK558 := bb BK558 hb; replace BK559 := bb BK559 hb; replace HB := bs HB hb; (try clear hb); have hz35 := cs9_ BK558; have hz36 := cs9_ BK559))
  go_ret
  exact ⟨er, tb HB⟩
 rw [if_pos c8] at H
 have c8b0 : (a0_6 == a1_6) = true := beq_iff_eq.mpr c8
 have c8b1 : (a0_6 != a1_6) = false := bne_eq_false_iff_eq.mpr c8
 clear c8
 obtain ⟨t561, A9, H⟩ := bn H
 try dsimp only at H
 cases t561
 case true =>
  replace H := ipt H
  obtain rfl := oin H
  go_enter Tryz.func155, Tryz.ntmps155
  go_wp2_with (first | ((with_reducible refine gq 2 rfl ?_); refine bx0 HB (N := 2) (t := 134) ?_; clear HB; intro gb558 w11 BK558 GE558 HB) | ((with_reducible refine gq 3 rfl ?_); refine bx1 HB BK558 (N := 3) (t := 134) ?_; clear HB BK558; intro gb559 w12 BK559 GE559 HB NB558_559 NB559_558 BK558; have hnb13 := NB558_559.out; have hnc13 := NB559_558.out; have hz14 := cs9_ BK558; have hz15 := cs9_ BK559) | ((with_reducible refine gf 187 rfl ?_); refine gL 14 Tryz.func187 #[.agg #[.int .i64 a0_1, .int .i64 a0_2, .int .i64 a0_3], .agg #[.int .i64 a1_1, .int .i64 a1_2, .int .i64 a1_3]] ?_; (with_reducible refine (laws_eqOp.calls a0_1 a0_2 a0_3 a1_1 a1_2 a1_3 true _ A4.out).mono ?_); rintro e w16 ⟨rfl, hb⟩; refine ⟨_, rfl, ?_⟩; replace BK558 := bb BK558 hb; replace BK559 := bb BK559 hb; replace HB := bs HB hb; (try clear hb); have hz17 := cs9_ BK558; have hz18 := cs9_ BK559) | ((with_reducible refine gf 188 rfl ?_); refine gL 35 Tryz.func188 #[.agg #[.int .i64 a0_7, .slice A0_8 l0_8.length c0_8], .agg #[.int .i64 a1_7, .slice A1_8 l1_8.length c1_8]] ?_; (with_reducible refine (laws_eqRes.calls k a0_7 _ _ l0_8 a1_7 _ _ l1_8 true _ (kc HR0_8 HB) HC0_8.out (kc HR1_8 HB) HC1_8.out A9.out).mono ?_); rintro e w19 ⟨rfl, hb⟩; refine ⟨_, rfl, ?_⟩; replace BK558 := bb BK558 hb; replace BK559 := bb BK559 hb; replace HB := bs HB hb; (try clear hb)))
  go_ret
  exact ⟨er, tb HB⟩
 replace H := ipf H
 obtain rfl := oin H
 go_enter Tryz.func155, Tryz.ntmps155
 go_wp2_with (first | ((with_reducible refine gq 2 rfl ?_); refine bx0 HB (N := 2) (t := 134) ?_; clear HB; intro gb558 w20 BK558 GE558 HB) | ((with_reducible refine gq 3 rfl ?_); refine bx1 HB BK558 (N := 3) (t := 134) ?_; clear HB BK558; intro gb559 w21 BK559 GE559 HB NB558_559 NB559_558 BK558; have hnb22 := NB558_559.out; have hnc22 := NB559_558.out; have hz23 := cs9_ BK558; have hz24 := cs9_ BK559) | ((with_reducible refine gf 187 rfl ?_); refine gL 14 Tryz.func187 #[.agg #[.int .i64 a0_1, .int .i64 a0_2, .int .i64 a0_3], .agg #[.int .i64 a1_1, .int .i64 a1_2, .int .i64 a1_3]] ?_; (with_reducible refine (laws_eqOp.calls a0_1 a0_2 a0_3 a1_1 a1_2 a1_3 true _ A4.out).mono ?_); rintro e w25 ⟨rfl, hb⟩; refine ⟨_, rfl, ?_⟩; replace BK558 := bb BK558 hb; replace BK559 := bb BK559 hb; replace HB := bs HB hb; (try clear hb); have hz26 := cs9_ BK558; have hz27 := cs9_ BK559) | ((with_reducible refine gf 188 rfl ?_); refine gL 35 Tryz.func188 #[.agg #[.int .i64 a0_7, .slice A0_8 l0_8.length c0_8], .agg #[.int .i64 a1_7, .slice A1_8 l1_8.length c1_8]] ?_; (with_reducible refine (laws_eqRes.calls k a0_7 _ _ l0_8 a1_7 _ _ l1_8 false _ (kc HR0_8 HB) HC0_8.out (kc HR1_8 HB) HC1_8.out A9.out).mono ?_); rintro e w28 ⟨rfl, hb⟩; refine ⟨_, rfl, ?_⟩; replace BK558 := bb BK558 hb; replace BK559 := bb BK559 hb; replace HB := bs HB hb; (try clear hb)))
 go_ret
 exact ⟨er, tb HB⟩
mutual
def spec_OpOk.j0 : Nat → Bool → Int → Int → Int → Option (Bool)
 | 0, _, _, _, _ => none
 | k + 1, x3, x133000, x133001, x133002 => if x133000 = 6 then ((spec_l1In.f x133001 0 2).bind fun t136 => (spec_OpOk.j1 k t136 x133000 x133001 x133002)) else (spec_OpOk.j1 k x3 x133000 x133001 x133002)
def spec_OpOk.j1 : Nat → Bool → Int → Int → Int → Option (Bool)
 | 0, _, _, _, _ => none
 | k + 1, x3, x133000, x133001, x133002 => (spec_l4Val.f x133000).bind fun t137 => (if t137 = true then (if x3 = true then ((spec_ValOk.f x133002).bind fun t138 => (some t138)) else (some false)) else (if x3 = true then (some (x133002 == 0)) else (some false)))
end
def spec_OpOk.f (k : Nat) (a0_0 : Int) (a0_1 : Int) (a0_2 : Int) : Option (Bool) := (spec_l1In.f a0_0 1 10).bind fun t133 => (if t133 = true then ((spec_l4Key.f a0_0).bind fun t134 => (if t134 = true then ((spec_KeyOk.f a0_1).bind fun t135 => (spec_OpOk.j0 k t135 a0_0 a0_1 a0_2)) else (spec_OpOk.j0 k (a0_1 == 0) a0_0 a0_1 a0_2))) else (some false))
set_option maxHeartbeats 8000000 in
set_option maxRecDepth 100000 in
theorem spec_OpOk.calls (k : Nat) (a0_0 : Int) (a0_1 : Int) (a0_2 : Int) (r : Bool) (w : World) (h : spec_OpOk.f k a0_0 a0_1 a0_2 = some r) :
  Calls Tryz.prog 118 #[.agg #[.int .i64 a0_0, .int .i64 a0_1, .int .i64 a0_2]] w fun e w' => e = .returned (.bool r) ∧ Below w.heap.size w w' := by
 have hu132 := Tryz.underlying132
 have HB := Aside0.mk (Below.refl w.heap.size w)
 have H := h
 clear h
 unfold spec_OpOk.f at H
 obtain ⟨t133, A2, H⟩ := bn H
 try dsimp only at H
 cases t133
 case false =>
  replace H := ipf H
  obtain rfl := oin H
  go_enter Tryz.func118, Tryz.ntmps118
  go_wp2_with (first | ((with_reducible refine gq 1 rfl ?_); refine bx0 HB (N := 1) (t := 132) ?_; clear HB; intro gb132 w25 BK132 GE132 HB; have hz26 := cs3_ BK132) | ((with_reducible refine gf 70 rfl ?_); refine gL 6 Tryz.func70 #[.int .i64 a0_0, .int .i64 1, .int .i64 10] ?_; (with_reducible refine (spec_l1In.calls a0_0 1 10 false _ A2.out).mono ?_); rintro e w' ⟨rfl, ⟨nd, rfl⟩⟩; refine ⟨_, rfl, ?_⟩))
  go_ret
  exact ⟨er, tb HB⟩
 replace H := ipt H
 obtain ⟨t134, A4, H⟩ := bn H
 try dsimp only at H
 have HC5 := Aside0.mk H
 clear H
 go_enter Tryz.func118, Tryz.ntmps118
 go_upto_if 13 with (first | ((with_reducible refine gq 1 rfl ?_); refine bx0 HB (N := 1) (t := 132) ?_; clear HB; intro gb132 w6 BK132 GE132 HB; have hz7 := cs3_ BK132) | ((with_reducible refine gf 70 rfl ?_); refine gL 6 Tryz.func70 #[.int .i64 a0_0, .int .i64 1, .int .i64 10] ?_; (with_reducible refine (spec_l1In.calls a0_0 1 10 true _ A2.out).mono ?_); rintro e w' ⟨rfl, ⟨nd, rfl⟩⟩; refine ⟨_, rfl, ?_⟩) | ((with_reducible refine gf 164 rfl ?_); refine gL 13 Tryz.func164 #[.int .i64 a0_0] ?_; (with_reducible refine (spec_l4Key.calls a0_0 t134 _ A4.out).mono ?_); rintro e w' ⟨rfl, ⟨nd, rfl⟩⟩; refine ⟨_, rfl, ?_⟩))
 (try simp only [Act.put, sA, sB, sC])
 go_cut [3] (fun v3 wc => ∃ (kq : Nat) (x3_4 : Bool), v3 = .bool x3_4 ∧ Aside0 (spec_OpOk.j0 kq x3_4 a0_0 a0_1 a0_2 = some r) ∧ Aside0 (kq ≤ k) ∧ Aside0 (wc.heap[gb132]? = some (.cells #[.int .i64 a0_0, .int .i64 a0_1, .int .i64 a0_2] 132 (0, 0))) ∧ Aside0 (Below w.heap.size w wc))
 case first =>
  have H := HC5.out
  clear HC5
  cases t134
  case false =>
   replace H := ipf H
   have H' := Aside0.mk H
   clear H
   go_wp2
   go_meet
   case rel => exact ⟨_, ((a0_1 == 0)), rsd, H', ⟨by first | omega | exact Nat.le_refl _⟩, ⟨by (with_reducible repeat (first | refine blk_drewN ?_ _ | refine blk_drew ?_ | refine blk_alloc ?_ _)); exact BK132.out⟩, ⟨tb HB⟩⟩
  replace H := ipt H
  obtain ⟨t135, A9, H⟩ := bn H
  try dsimp only at H
  have H' := Aside0.mk H
  clear H
  have hz10 := cs3_ BK132
  go_wp2_with (first | ((with_reducible refine gf 165 rfl ?_); refine gL 16 Tryz.func165 #[.int .i64 a0_1] ?_; (with_reducible refine (spec_KeyOk.calls a0_1 t135 _ A9.out).mono ?_); rintro e w' ⟨rfl, ⟨nd, rfl⟩⟩; refine ⟨_, rfl, ?_⟩))
  go_meet
  case rel => exact ⟨_, (t135), rsd, H', ⟨by first | omega | exact Nat.le_refl _⟩, ⟨by (with_reducible repeat (first | refine blk_drewN ?_ _ | refine blk_drew ?_ | refine blk_alloc ?_ _)); exact BK132.out⟩, ⟨tb HB⟩⟩
 case rest =>
  clear HC5
  obtain ⟨kq, x3_4, rfl, HA, HJ4, BK132, HB⟩ := hcut
  cases kq with
  | zero => exact absurd HA.out (by simp [spec_OpOk.j0])
  | succ kj4 =>
   have H := HA.out
   clear HA
   simp only [spec_OpOk.j0] at H
   have HC11 := Aside0.mk H
   clear H
   have hz12 := cs3_ BK132
   go_upto_if 19 with (fail)
   go_cut [3] (fun v3 wc => ∃ (kq : Nat) (x3_10 : Bool), v3 = .bool x3_10 ∧ Aside0 (spec_OpOk.j1 kq x3_10 a0_0 a0_1 a0_2 = some r) ∧ Aside0 (kq ≤ kj4) ∧ Aside0 (wc.heap[gb132]? = some (.cells #[.int .i64 a0_0, .int .i64 a0_1, .int .i64 a0_2] 132 (0, 0))) ∧ Aside0 (Below w.heap.size w wc))
   case first =>
    have H := HC11.out
    clear HC11
    by_cases c13 : a0_0 = 6
    case neg =>
     rw [if_neg c13] at H
     have c13b0 : (a0_0 == 6) = false := beq_eq_false_iff_ne.mpr c13
     have c13b1 : (a0_0 != 6) = true := bne_iff_ne.mpr c13
     (first | rw [c13b0] | (simp only [i64_w, i32_w]; rw [c13b0]) | skip)
     have H' := Aside0.mk H
     clear H
     go_wp2
     go_meet
     case rel => exact ⟨_, (x3_4), rsd, H', ⟨by have := HJ4.out; first | omega | exact Nat.le_refl _⟩, ⟨by (with_reducible repeat (first | refine blk_drewN ?_ _ | refine blk_drew ?_ | refine blk_alloc ?_ _)); exact BK132.out⟩, ⟨tb HB⟩⟩
    rw [if_pos c13] at H
    have c13b0 : (a0_0 == 6) = true := beq_iff_eq.mpr c13
    have c13b1 : (a0_0 != 6) = false := bne_eq_false_iff_eq.mpr c13
    clear c13
    (first | rw [c13b0] | (simp only [i64_w, i32_w]; rw [c13b0]) | skip)
    obtain ⟨t136, A14, H⟩ := bn H
    try dsimp only at H
    have H' := Aside0.mk H
    clear H
    have hz15 := cs3_ BK132
    go_wp2_with (first | ((with_reducible refine gf 70 rfl ?_); refine gL 22 Tryz.func70 #[.int .i64 a0_1, .int .i64 0, .int .i64 2] ?_; (with_reducible refine (spec_l1In.calls a0_1 0 2 t136 _ A14.out).mono ?_); rintro e w' ⟨rfl, ⟨nd, rfl⟩⟩; refine ⟨_, rfl, ?_⟩))
    go_meet
    case rel => exact ⟨_, (t136), rsd, H', ⟨by have := HJ4.out; first | omega | exact Nat.le_refl _⟩, ⟨by (with_reducible repeat (first | refine blk_drewN ?_ _ | refine blk_drew ?_ | refine blk_alloc ?_ _)); exact BK132.out⟩, ⟨tb HB⟩⟩
   case rest =>
    clear HC11
    obtain ⟨kq, x3_10, rfl, HA, HJ10, BK132, HB⟩ := hcut
    cases kq with
    | zero => exact absurd HA.out (by simp [spec_OpOk.j1])
    | succ kj10 =>
     have H := HA.out
     clear HA
     simp only [spec_OpOk.j1] at H
     obtain ⟨t137, A16, H⟩ := bn H
     try dsimp only at H
     cases t137
     case false =>
      replace H := ipf H
      cases x3_10
      case true =>
       replace H := ipt H
       obtain rfl := oin H
       have hz23 := cs3_ BK132
       go_wp2_with (first | ((with_reducible refine gf 166 rfl ?_); refine gL 25 Tryz.func166 #[.int .i64 a0_0] ?_; (with_reducible refine (spec_l4Val.calls a0_0 false _ A16.out).mono ?_); rintro e w' ⟨rfl, ⟨nd, rfl⟩⟩; refine ⟨_, rfl, ?_⟩))
       go_ret
       exact ⟨er, tb HB⟩
      replace H := ipf H
      obtain rfl := oin H
      have hz24 := cs3_ BK132
      go_wp2_with (first | ((with_reducible refine gf 166 rfl ?_); refine gL 25 Tryz.func166 #[.int .i64 a0_0] ?_; (with_reducible refine (spec_l4Val.calls a0_0 false _ A16.out).mono ?_); rintro e w' ⟨rfl, ⟨nd, rfl⟩⟩; refine ⟨_, rfl, ?_⟩))
      go_ret
      exact ⟨er, tb HB⟩
     replace H := ipt H
     cases x3_10
     case false =>
      replace H := ipf H
      obtain rfl := oin H
      have hz21 := cs3_ BK132
      go_wp2_with (first | ((with_reducible refine gf 166 rfl ?_); refine gL 25 Tryz.func166 #[.int .i64 a0_0] ?_; (with_reducible refine (spec_l4Val.calls a0_0 true _ A16.out).mono ?_); rintro e w' ⟨rfl, ⟨nd, rfl⟩⟩; refine ⟨_, rfl, ?_⟩))
      go_ret
      exact ⟨er, tb HB⟩
     replace H := ipt H
     obtain ⟨t138, A19, H⟩ := bn H
     try dsimp only at H
     obtain rfl := oin H
     have hz20 := cs3_ BK132
     go_wp2_with (first | ((with_reducible refine gf 166 rfl ?_); refine gL 25 Tryz.func166 #[.int .i64 a0_0] ?_; (with_reducible refine (spec_l4Val.calls a0_0 true _ A16.out).mono ?_); rintro e w' ⟨rfl, ⟨nd, rfl⟩⟩; refine ⟨_, rfl, ?_⟩) | (go_at_call 139; (with_reducible refine (spec_ValOk.calls a0_2 t138 _ A19.out).mono ?_); rintro e w' ⟨rfl, ⟨nd, rfl⟩⟩))
     go_ret
     exact ⟨er, tb HB⟩
end Go.Proofs.YtopikhjcbcpiaaaGreat.Q
