/- Part 6 of the steps by which the law is shown: what each function of the program, of the reference and of the law computes. No condition. -/
import Derived.Test.YtopikhjcbcpiaaaBgn0
import Derived.Test.YtopikhjcbcpiaaaBgn2
import Derived.Test.YtopikhjcbcpiaaaBgn3
import Derived.Test.YtopikhjcbcpiaaaBgn4
section
namespace Go.Proofs.Ytopikhjcbcpiaaa.Q
open Go.RowKit Go.Proofs.YtopikhjcbcpiaaaW.PrintWords Go.Proofs.YtopikhjcbcpiaaaX
def cvWord (x : S143) : S141 := ⟨x.f0, x.f1, x.f2⟩
theorem szWordS (l : List S143) (a : Int) (h0 : 0 ≤ a) (h1 : a ≤ 1048576) (hl : l.length ≤ 9223372036854775807) : laws_szWordS.f l a = some (if a < l.length then -1 else a - l.length) := by
  unfold laws_szWordS.f
  rw [wrap_in (by omega) (by omega)]
  by_cases h : a < l.length
  · rw [if_pos (by omega), if_pos h]
  · rw [if_neg (by omega), if_neg h]
theorem ev_toWordS (l : List S143) (hl : l.length ≤ 1048576) : Ev (fun k => laws_toWordS.f k l) (l.map cvWord) := by
  unfold laws_toWordS.f
  refine ev_pos (by omega) (ev_pos (by omega) ?_)
  refine ev_fill (g := fun k acc i => laws_toWordS.l0 k l acc i) (za := z143) ?_ ?_ _ (by simp)
  · intro acc i r hi hacc h
    refine Ev.step (fun k => ?_) h
    simp only [laws_toWordS.l0, laws_toWord.f, Option.bind_some]
    rw [if_pos (by omega), if_pos (by omega), if_pos (by omega), wrap_succ hi (by omega)]
    rfl
  · intro acc hacc
    refine ev_succ (fun k => ?_)
    simp only [laws_toWordS.l0]
    rw [if_neg (by omega)]
theorem eqWord_self (x : S141) : laws_eqWord.f x.f0 x.f1 x.f2 x.f0 x.f1 x.f2 = some true := by
  simp [laws_eqWord.f]
theorem ev_eqWordS (l : List S141) (hl : l.length ≤ 1048576) : Ev (fun k => laws_eqWordS.f k l l) true := by
  unfold laws_eqWordS.f
  refine ev_pos rfl ?_
  refine ev_down (g := fun k i => laws_eqWordS.l0 k l l i) (R := fun _ => true) (n := l.length) ?_ 0 (by omega)
  intro i hi h
  by_cases hlt : i < l.length
  · refine Ev.step (fun k => ?_) (h hlt)
    simp only [laws_eqWordS.l0, eqWord_self, Option.bind_some]
    rw [if_pos (by omega), if_pos (by omega), if_pos (by omega), if_pos trivial, wrap_succ hlt (by omega)]
  · refine ev_succ (fun k => ?_)
    simp only [laws_eqWordS.l0]
    rw [if_neg (by omega)]
def cvEntry (x : S168) : S166 := ⟨x.f0, x.f1, x.f2⟩
theorem szEntryS (l : List S168) (a : Int) (h0 : 0 ≤ a) (h1 : a ≤ 1048576) (hl : l.length ≤ 9223372036854775807) : laws_szEntryS.f l a = some (if a < l.length then -1 else a - l.length) := by
  unfold laws_szEntryS.f
  rw [wrap_in (by omega) (by omega)]
  by_cases h : a < l.length
  · rw [if_pos (by omega), if_pos h]
  · rw [if_neg (by omega), if_neg h]
theorem ev_toEntryS (l : List S168) (hl : l.length ≤ 1048576) : Ev (fun k => laws_toEntryS.f k l) (l.map cvEntry) := by
  unfold laws_toEntryS.f
  refine ev_pos (by omega) (ev_pos (by omega) ?_)
  refine ev_fill (g := fun k acc i => laws_toEntryS.l0 k l acc i) (za := z168) ?_ ?_ _ (by simp)
  · intro acc i r hi hacc h
    refine Ev.step (fun k => ?_) h
    simp only [laws_toEntryS.l0, laws_toEntry.f, Option.bind_some]
    rw [if_pos (by omega), if_pos (by omega), if_pos (by omega), wrap_succ hi (by omega)]
    rfl
  · intro acc hacc
    refine ev_succ (fun k => ?_)
    simp only [laws_toEntryS.l0]
    rw [if_neg (by omega)]
theorem eqEntry_self (x : S166) : laws_eqEntry.f x.f0 x.f1 x.f2 x.f0 x.f1 x.f2 = some true := by
  simp [laws_eqEntry.f]
theorem ev_eqEntryS (l : List S166) (hl : l.length ≤ 1048576) : Ev (fun k => laws_eqEntryS.f k l l) true := by
  unfold laws_eqEntryS.f
  refine ev_pos rfl ?_
  refine ev_down (g := fun k i => laws_eqEntryS.l0 k l l i) (R := fun _ => true) (n := l.length) ?_ 0 (by omega)
  intro i hi h
  by_cases hlt : i < l.length
  · refine Ev.step (fun k => ?_) (h hlt)
    simp only [laws_eqEntryS.l0, eqEntry_self, Option.bind_some]
    rw [if_pos (by omega), if_pos (by omega), if_pos (by omega), if_pos trivial, wrap_succ hlt (by omega)]
  · refine ev_succ (fun k => ?_)
    simp only [laws_eqEntryS.l0]
    rw [if_neg (by omega)]
end Go.Proofs.Ytopikhjcbcpiaaa.Q
end
namespace Go.Proofs.Ytopikhjcbcpiaaa.Q
open Go.RowKit Go.Proofs.YtopikhjcbcpiaaaW.PrintWords Go.Proofs.YtopikhjcbcpiaaaW.PrintLast Go.Proofs.YtopikhjcbcpiaaaW.PrintMore
attribute [local go_sem] max2_int min2_int max_two min_two max_three min_three max_four min_four   -- for this text's walks alone
set_option linter.unusedVariables false
set_option linter.unusedSimpArgs false
def laws_szDesc.f (a0_0 : Int) (a0_1 : Int) (l0_2 : List (S168)) (a0_3 : Int) (l0_4 : List Int) (a1 : Int) : Option (Int) := (laws_szEntryS.f l0_2 a1).bind fun t295 => (if t295 < 0 then (some (-1)) else ((laws_szRes.f a0_3 l0_4 t295).bind fun t296 => (if t296 < 0 then (some (-1)) else (some t296))))
set_option maxHeartbeats 8000000 in
set_option maxRecDepth 100000 in
theorem laws_szDesc.calls (a0_0 : Int) (a0_1 : Int) (A0_2 : Option Addr) (c0_2 : Nat) (l0_2 : List (S168)) (a0_3 : Int) (A0_4 : Option Addr) (c0_4 : Nat) (l0_4 : List Int) (a1 : Int) (r : Int) (w : World) (hr0_2 : Kd.C k168 w A0_2 l0_2.length l0_2) (hc0_2 : l0_2.length ≤ c0_2) (hr0_4 : Kd.C (Kd.int .i64) w A0_4 l0_4.length l0_4) (hc0_4 : l0_4.length ≤ c0_4) (h : laws_szDesc.f a0_0 a0_1 l0_2 a0_3 l0_4 a1 = some r) :
  Calls Try.prog 95 #[.agg #[.int .i64 a0_0, .int .i64 a0_1, .slice A0_2 l0_2.length c0_2, .int .i64 a0_3, .slice A0_4 l0_4.length c0_4], .int .i64 a1] w fun e w' => e = .returned (.int .i64 r) ∧ Below w.heap.size w w' := by
 have hu138 := Try.underlying138
 have hu62 := Try.underlying62
 have HR0_2 := Aside0.mk hr0_2
 have HC0_2 := Aside0.mk hc0_2
 clear hr0_2 hc0_2
 have HR0_4 := Aside0.mk hr0_4
 have HC0_4 := Aside0.mk hc0_4
 clear hr0_4 hc0_4
 have HB := Aside0.mk (Below.refl w.heap.size w)
 have H := h
 clear h
 unfold laws_szDesc.f at H
 obtain ⟨t295, A3, H⟩ := bn H
 try dsimp only at H
 revert H; refine icd (fun c4b0 H => ?pos) fun c4b0 H => ?_
 case pos =>
  obtain rfl := oin H
  go_enter Try.func95, Try.ntmps95
  go_wp2_with (first | ((with_reducible refine gq 2 rfl ?_); refine bx0 HB (N := 2) (t := 138) ?_; clear HB; intro gb294 w5 BK294 GE294 HB; have hz6 := cs5_ BK294) | ((with_reducible refine gf 62 rfl ?_); refine gL 8 Try.func62 #[.slice A0_2 l0_2.length c0_2, .int .i64 a1] ?_; (with_reducible refine (laws_szEntryS.calls _ _ l0_2 a1 t295 _ (kc HR0_2 HB) HC0_2.out A3.out).mono ?_); rintro e w' ⟨rfl, ⟨nd, rfl⟩⟩; refine ⟨_, rfl, ?_⟩))
  go_ret
  exact ⟨er, tb HB⟩
 obtain ⟨t296, A7, H⟩ := bn H
 try dsimp only at H
 revert H; refine icd (fun c8b0 H => ?pos) fun c8b0 H => ?_
 case pos =>
  obtain rfl := oin H
  go_enter Try.func95, Try.ntmps95
  go_wp2_with (first | ((with_reducible refine gq 2 rfl ?_); refine bx0 HB (N := 2) (t := 138) ?_; clear HB; intro gb294 w9 BK294 GE294 HB; have hz10 := cs5_ BK294) | ((with_reducible refine gf 62 rfl ?_); refine gL 8 Try.func62 #[.slice A0_2 l0_2.length c0_2, .int .i64 a1] ?_; (with_reducible refine (laws_szEntryS.calls _ _ l0_2 a1 t295 _ (kc HR0_2 HB) HC0_2.out A3.out).mono ?_); rintro e w' ⟨rfl, ⟨nd, rfl⟩⟩; refine ⟨_, rfl, ?_⟩) | ((with_reducible refine gf 33 rfl ?_); refine gL 14 Try.func33 #[.agg #[.int .i64 a0_3, .slice A0_4 l0_4.length c0_4], .int .i64 t295] ?_; (with_reducible refine (laws_szRes.calls a0_3 _ _ l0_4 t295 t296 _ ?side1 HC0_4.out A7.out).mono ?_); (case side1 => repeat (first | exact (Kd.C_below HR0_4.out (tb HB)) | (with_reducible refine Kd.C_alloc ?_ _) | (with_reducible refine Kd.C_drewN ?_ _) | (with_reducible refine Kd.C_drew ?_))); rintro e w11 ⟨rfl, hb⟩; refine ⟨_, rfl, ?_⟩; replace BK294 := bb BK294 hb; replace HB := bs HB hb; (try clear hb)))
  go_ret
  exact ⟨er, tb HB⟩
 obtain rfl := oin H
 go_enter Try.func95, Try.ntmps95
 go_wp2_with (first | ((with_reducible refine gq 2 rfl ?_); refine bx0 HB (N := 2) (t := 138) ?_; clear HB; intro gb294 w12 BK294 GE294 HB; have hz13 := cs5_ BK294) | ((with_reducible refine gf 62 rfl ?_); refine gL 8 Try.func62 #[.slice A0_2 l0_2.length c0_2, .int .i64 a1] ?_; (with_reducible refine (laws_szEntryS.calls _ _ l0_2 a1 t295 _ (kc HR0_2 HB) HC0_2.out A3.out).mono ?_); rintro e w' ⟨rfl, ⟨nd, rfl⟩⟩; refine ⟨_, rfl, ?_⟩) | ((with_reducible refine gf 33 rfl ?_); refine gL 14 Try.func33 #[.agg #[.int .i64 a0_3, .slice A0_4 l0_4.length c0_4], .int .i64 t295] ?_; (with_reducible refine (laws_szRes.calls a0_3 _ _ l0_4 t295 t296 _ ?side1 HC0_4.out A7.out).mono ?_); (case side1 => repeat (first | exact (Kd.C_below HR0_4.out (tb HB)) | (with_reducible refine Kd.C_alloc ?_ _) | (with_reducible refine Kd.C_drewN ?_ _) | (with_reducible refine Kd.C_drew ?_))); rintro e w14 ⟨rfl, hb⟩; refine ⟨_, rfl, ?_⟩; replace BK294 := bb BK294 hb; replace HB := bs HB hb; (try clear hb)))
 go_ret
 exact ⟨er, tb HB⟩
def laws_toDesc.f (k : Nat) (a0_0 : Int) (a0_1 : Int) (l0_2 : List (S168)) (a0_3 : Int) (l0_4 : List Int) : Option (Int × Int × (List (S166)) × Int × List Int) := (laws_toEntryS.f k l0_2).bind fun t352 => ((laws_toRes.f k a0_3 l0_4).bind fun bt355 => (some (a0_0, a0_1, t352, bt355.1, bt355.2)))
set_option maxHeartbeats 8000000 in
set_option maxRecDepth 100000 in
theorem laws_toDesc.calls (k : Nat) (a0_0 : Int) (a0_1 : Int) (A0_2 : Option Addr) (c0_2 : Nat) (l0_2 : List (S168)) (a0_3 : Int) (A0_4 : Option Addr) (c0_4 : Nat) (l0_4 : List Int) (r1 : Int) (r2 : Int) (r3 : List (S166)) (r4 : Int) (r5 : List Int) (w : World) (hr0_2 : Kd.C k168 w A0_2 l0_2.length l0_2) (hc0_2 : l0_2.length ≤ c0_2) (hr0_4 : Kd.C (Kd.int .i64) w A0_4 l0_4.length l0_4) (hc0_4 : l0_4.length ≤ c0_4) (h : laws_toDesc.f k a0_0 a0_1 l0_2 a0_3 l0_4 = some (r1, r2, r3, r4, r5)) :
  Calls Try.prog 98 #[.agg #[.int .i64 a0_0, .int .i64 a0_1, .slice A0_2 l0_2.length c0_2, .int .i64 a0_3, .slice A0_4 l0_4.length c0_4]] w fun e w' => ∃ v2_ v4_ : Value, e = .returned (.agg #[.int .i64 r1, .int .i64 r2, v2_, .int .i64 r4, v4_]) ∧ Kd.R k166 166 w' w.heap.size (fun _ => True) v2_ r3 ∧ Kd.R (Kd.int .i64) 3 w' w.heap.size (fun _ => True) v4_ r5 ∧ Below w.heap.size w w' := by
 have hu138 := Try.underlying138
 have hu145 := Try.underlying145
 have hu62 := Try.underlying62
 have hu70 := Try.underlying70
 have HR0_2 := Aside0.mk hr0_2
 have HC0_2 := Aside0.mk hc0_2
 clear hr0_2 hc0_2
 have HR0_4 := Aside0.mk hr0_4
 have HC0_4 := Aside0.mk hc0_4
 clear hr0_4 hc0_4
 have HB := Aside0.mk (Below.refl w.heap.size w)
 have H := h
 clear h
 unfold laws_toDesc.f at H
 obtain ⟨t352, A2, H⟩ := bn H
 try dsimp only at H
 obtain ⟨⟨t355, t356⟩, A3, H⟩ := bn H
 try dsimp only at H
 simp only [Option.some.injEq, Prod.mk.injEq] at H
 obtain ⟨rfl, rfl, rfl, rfl, rfl⟩ := H
 go_enter Try.func98, Try.ntmps98
 go_wp2_with (first | ((with_reducible refine gq 1 rfl ?_); refine bx0 HB (N := 1) (t := 138) ?_; clear HB; intro gb349 w4 BK349 GE349 HB) | ((with_reducible refine gq 2 rfl ?_); refine bx1 HB BK349 (N := 2) (cs := #[.int .i64 0, .int .i64 0, .slice none 0 0, .int .i64 0, .slice none 0 0]) (t := 145) ?_; clear HB BK349; intro gb350 w5 BK350 GE350 HB NB349_350 NB350_349 BK349) | ((with_reducible refine gq 3 rfl ?_); refine bx2 HB BK349 BK350 (N := 3) (cs := #[.int .i64 0, .int .i64 0, .slice none 0 0, .int .i64 0, .slice none 0 0]) (t := 145) ?_; clear HB BK349 BK350; intro gb351 w6 BK351 GE351 HB NB349_351 NB351_349 BK349 NB350_351 NB351_350 BK350; have hnb7 := NB349_350.out; have hnc7 := NB350_349.out; have hnb8 := NB349_351.out; have hnc8 := NB351_349.out; have hz9 := cs5_ BK349; have hnb10 := NB351_350.out; have hnc10 := NB350_351.out; have hz11 := cs5_ BK351) | ((with_reducible refine gf 65 rfl ?_); refine gL 12 Try.func65 #[.slice A0_2 l0_2.length c0_2] ?_; (with_reducible refine (laws_toEntryS.calls k _ _ l0_2 t352 _ ?side1 HC0_2.out A2.out).mono ?_); (case side1 => exact Kd.C_below HR0_2.out (tb HB)); rintro e w12 ⟨v353, rfl, ho0, hb⟩; refine ⟨_, rfl, ?_⟩; have HO354 := Aside0.mk (Kd.R_lower ho0 (below_size (tb HB))); replace BK349 := bbf BK349 hb; replace BK350 := bbf BK350 hb; replace BK351 := Aside0.mk (blk_below (g := gb351) (o := .cells #[.int .i64 a0_0, .int .i64 a0_1, .slice none 0 0, .int .i64 0, .slice none 0 0] 145 (0, 0)) (by (with_reducible repeat (first | refine blk_drewN ?_ _ | refine blk_drew ?_ | refine blk_alloc ?_ _)); refine blk_put (cs := #[.int .i64 a0_0, .int .i64 0, .slice none 0 0, .int .i64 0, .slice none 0 0]) ?_ 1 _ rfl; (with_reducible repeat (first | refine blk_drewN ?_ _ | refine blk_drew ?_ | refine blk_alloc ?_ _)); refine blk_put (cs := #[.int .i64 0, .int .i64 0, .slice none 0 0, .int .i64 0, .slice none 0 0]) ?_ 0 _ rfl; (with_reducible repeat (first | refine blk_drewN ?_ _ | refine blk_drew ?_ | refine blk_alloc ?_ _)); exact BK351.out) hb); replace HB := bs HB hb; (try clear hb); (try clear ho0); obtain ⟨Ao13, co13, eo13⟩ := Kd.R_slice HO354.out; subst eo13; have hz14 := cs5_ BK351; have hz15 := cs5_ BK349) | ((with_reducible refine gf 37 rfl ?_); refine gL 16 Try.func37 #[.agg #[.int .i64 a0_3, .slice A0_4 l0_4.length c0_4]] ?_; (with_reducible refine (laws_toRes.calls k a0_3 _ _ l0_4 t355 t356 _ ?side1 HC0_4.out A3.out).mono ?_); (case side1 => exact Kd.C_below HR0_4.out (tb HB)); rintro e w16 ⟨v357, rfl, ho0, hb⟩; refine ⟨_, rfl, ?_⟩; replace HO354 := Aside0.mk (Kd.R_below (kr ((Kd.R_mono (Kd.R_far (p := ⟨gb351, 2, none⟩) (Kd.R_types HO354.out BK351.out (by decide)) (fun _ hk => hk.2) (.slice Ao13 t352.length co13)) (fun _ h_ => h_.1)))) hb); have HO358 := Aside0.mk (Kd.R_lower ho0 (below_size (tb HB))); replace BK349 := bbf BK349 hb; replace BK350 := bbf BK350 hb; replace BK351 := Aside0.mk (blk_below (g := gb351) (o := .cells #[.int .i64 a0_0, .int .i64 a0_1, .slice Ao13 t352.length co13, .int .i64 0, .slice none 0 0] 145 (0, 0)) (by (with_reducible repeat (first | refine blk_drewN ?_ _ | refine blk_drew ?_ | refine blk_alloc ?_ _)); refine blk_put (cs := #[.int .i64 a0_0, .int .i64 a0_1, .slice none 0 0, .int .i64 0, .slice none 0 0]) ?_ 2 _ rfl; (with_reducible repeat (first | refine blk_drewN ?_ _ | refine blk_drew ?_ | refine blk_alloc ?_ _)); exact BK351.out) hb); replace HB := bs HB hb; (try clear hb); (try clear hk); (try clear ho0); have hz17 := cs5_ BK351; obtain ⟨Ao18, co18, eo18⟩ := Kd.R_slice HO358.out; subst eo18; have hz19 := cs5_ BK350))
 refine bodyPost_ret (results_cell_row rfl _ _ gb350 145 #[.int .i64 a0_0, .int .i64 a0_1, .slice Ao13 t352.length co13, .int .i64 t355, .slice Ao18 t356.length co18] (0, 0) _ rfl (bfp5 BK350) Try.underlying145 rfl (by kernel_rfl)) rfl ?_
 exact ⟨_, _, er, by (with_reducible repeat (first | apply Kd.R_alloc | apply Kd.R_drewN | apply Kd.R_drew)); exact Kd.R_mono (Kd.R_far (p := ⟨gb350, 4, none⟩) (Kd.R_far (p := ⟨gb350, 3, none⟩) (Kd.R_far (p := ⟨gb350, 2, none⟩) (Kd.R_far (p := ⟨gb350, 1, none⟩) (Kd.R_far (p := ⟨gb350, 0, none⟩) (Kd.R_far (p := ⟨gb351, 4, none⟩) (Kd.R_far (p := ⟨gb351, 3, none⟩) (Kd.R_types (Kd.R_types HO354.out BK351.out (by decide)) BK350.out (by decide)) (fun _ hk => hk.1.2) (.int .i64 t355)) (fun _ hk => hk.1.2) (.slice Ao18 t356.length co18)) (fun _ hk => hk.2) (.int .i64 a0_0)) (fun _ hk => hk.2) (.int .i64 a0_1)) (fun _ hk => hk.2) (.slice Ao13 t352.length co13)) (fun _ hk => hk.2) (.int .i64 t355)) (fun _ hk => hk.2) (.slice Ao18 t356.length co18)) (fun _ hk => trivial), by (with_reducible repeat (first | apply Kd.R_alloc | apply Kd.R_drewN | apply Kd.R_drew)); exact Kd.R_mono (Kd.R_far (p := ⟨gb350, 4, none⟩) (Kd.R_far (p := ⟨gb350, 3, none⟩) (Kd.R_far (p := ⟨gb350, 2, none⟩) (Kd.R_far (p := ⟨gb350, 1, none⟩) (Kd.R_far (p := ⟨gb350, 0, none⟩) (Kd.R_far (p := ⟨gb351, 4, none⟩) (Kd.R_far (p := ⟨gb351, 3, none⟩) (Kd.R_types (Kd.R_types HO358.out BK351.out (by decide)) BK350.out (by decide)) (fun _ hk => hk.1.2) (.int .i64 t355)) (fun _ hk => hk.1.2) (.slice Ao18 t356.length co18)) (fun _ hk => hk.2) (.int .i64 a0_0)) (fun _ hk => hk.2) (.int .i64 a0_1)) (fun _ hk => hk.2) (.slice Ao13 t352.length co13)) (fun _ hk => hk.2) (.int .i64 t355)) (fun _ hk => hk.2) (.slice Ao18 t356.length co18)) (fun _ hk => trivial), tb HB⟩
def laws_eqDesc.f (k : Nat) (a0_0 : Int) (a0_1 : Int) (l0_2 : List (S166)) (a0_3 : Int) (l0_4 : List Int) (a1_0 : Int) (a1_1 : Int) (l1_2 : List (S166)) (a1_3 : Int) (l1_4 : List Int) : Option (Bool) := if a0_0 = a1_0 then (if a0_1 = a1_1 then ((laws_eqEntryS.f k l0_2 l1_2).bind fun t410 => (if t410 = true then ((laws_eqRes.f k a0_3 l0_4 a1_3 l1_4).bind fun t411 => (if t411 = true then (some true) else (some false))) else (some false))) else (some false)) else (some false)
set_option maxHeartbeats 8000000 in
set_option maxRecDepth 100000 in
theorem laws_eqDesc.calls (k : Nat) (a0_0 : Int) (a0_1 : Int) (A0_2 : Option Addr) (c0_2 : Nat) (l0_2 : List (S166)) (a0_3 : Int) (A0_4 : Option Addr) (c0_4 : Nat) (l0_4 : List Int) (a1_0 : Int) (a1_1 : Int) (A1_2 : Option Addr) (c1_2 : Nat) (l1_2 : List (S166)) (a1_3 : Int) (A1_4 : Option Addr) (c1_4 : Nat) (l1_4 : List Int) (r : Bool) (w : World) (hr0_2 : Kd.C k166 w A0_2 l0_2.length l0_2) (hc0_2 : l0_2.length ≤ c0_2) (hr0_4 : Kd.C (Kd.int .i64) w A0_4 l0_4.length l0_4) (hc0_4 : l0_4.length ≤ c0_4) (hr1_2 : Kd.C k166 w A1_2 l1_2.length l1_2) (hc1_2 : l1_2.length ≤ c1_2) (hr1_4 : Kd.C (Kd.int .i64) w A1_4 l1_4.length l1_4) (hc1_4 : l1_4.length ≤ c1_4) (h : laws_eqDesc.f k a0_0 a0_1 l0_2 a0_3 l0_4 a1_0 a1_1 l1_2 a1_3 l1_4 = some r) :
  Calls Try.prog 101 #[.agg #[.int .i64 a0_0, .int .i64 a0_1, .slice A0_2 l0_2.length c0_2, .int .i64 a0_3, .slice A0_4 l0_4.length c0_4], .agg #[.int .i64 a1_0, .int .i64 a1_1, .slice A1_2 l1_2.length c1_2, .int .i64 a1_3, .slice A1_4 l1_4.length c1_4]] w fun e w' => e = .returned (.bool r) ∧ Below w.heap.size w w' := by
 have hu145 := Try.underlying145
 have hu70 := Try.underlying70
 have HR0_2 := Aside0.mk hr0_2
 have HC0_2 := Aside0.mk hc0_2
 clear hr0_2 hc0_2
 have HR0_4 := Aside0.mk hr0_4
 have HC0_4 := Aside0.mk hc0_4
 clear hr0_4 hc0_4
 have HR1_2 := Aside0.mk hr1_2
 have HC1_2 := Aside0.mk hc1_2
 clear hr1_2 hc1_2
 have HR1_4 := Aside0.mk hr1_4
 have HC1_4 := Aside0.mk hc1_4
 clear hr1_4 hc1_4
 have HB := Aside0.mk (Below.refl w.heap.size w)
 have H := h
 clear h
 unfold laws_eqDesc.f at H
 by_cases c3 : a0_0 = a1_0
 case neg =>
  rw [if_neg c3] at H
  have c3b0 : (a0_0 == a1_0) = false := beq_eq_false_iff_ne.mpr c3
  have c3b1 : (a0_0 != a1_0) = true := bne_iff_ne.mpr c3
  obtain rfl := oin H
  go_enter Try.func101, Try.ntmps101
  go_wp2_with (first | ((with_reducible refine gq 2 rfl ?_); refine bx0 HB (N := 2) (t := 145) ?_; clear HB; intro gb408 w38 BK408 GE408 HB) | ((with_reducible refine gq 3 rfl ?_); refine bx1 HB BK408 (N := 3) (t := 145) ?_; clear HB BK408; intro gb409 w39 BK409 GE409 HB NB408_409 NB409_408 BK408; have hnb40 := NB408_409.out; have hnc40 := NB409_408.out; have hz41 := cs5_ BK408; have hz42 := cs5_ BK409))
  go_ret
  exact ⟨er, tb HB⟩
 
 
 rw [if_pos c3] at H
 have c3b0 : (a0_0 == a1_0) = true := beq_iff_eq.mpr c3
 have c3b1 : (a0_0 != a1_0) = false := bne_eq_false_iff_eq.mpr c3
 clear c3
 by_cases c4 : a0_1 = a1_1
 case neg =>
  rw [if_neg c4] at H
  have c4b0 : (a0_1 == a1_1) = false := beq_eq_false_iff_ne.mpr c4
  have c4b1 : (a0_1 != a1_1) = true := bne_iff_ne.mpr c4
  obtain rfl := oin H
  go_enter Try.func101, Try.ntmps101
  go_wp2_with (first | ((with_reducible refine gq 2 rfl ?_); refine bx0 HB (N := 2) (t := 145) ?_; clear HB; intro gb408 w33 BK408 GE408 HB) | ((with_reducible refine gq 3 rfl ?_); refine bx1 HB BK408 (N := 3) (t := 145) ?_; clear HB BK408; intro gb409 w34 BK409 GE409 HB NB408_409 NB409_408 BK408; have hnb35 := NB408_409.out; have hnc35 := NB409_408.out; have hz36 := cs5_ BK408; have hz37 := cs5_ BK409))
  go_ret
  exact ⟨er, tb HB⟩
 rw [if_pos c4] at H
 have c4b0 : (a0_1 == a1_1) = true := beq_iff_eq.mpr c4
 have c4b1 : (a0_1 != a1_1) = false := bne_eq_false_iff_eq.mpr c4
 clear c4
 obtain ⟨t410, A5, H⟩ := bn H
 try dsimp only at H
 cases t410
 case false =>
  replace H := ipf H
  obtain rfl := oin H
  go_enter Try.func101, Try.ntmps101
  go_wp2_with (first | ((with_reducible refine gq 2 rfl ?_); refine bx0 HB (N := 2) (t := 145) ?_; clear HB; intro gb408 w27 BK408 GE408 HB) | ((with_reducible refine gq 3 rfl ?_); refine bx1 HB BK408 (N := 3) (t := 145) ?_; clear HB BK408; intro gb409 w28 BK409 GE409 HB NB408_409 NB409_408 BK408; have hnb29 := NB408_409.out; have hnc29 := NB409_408.out; have hz30 := cs5_ BK408; have hz31 := cs5_ BK409) | ((with_reducible refine gf 68 rfl ?_); refine gL 19 Try.func68 #[.slice A0_2 l0_2.length c0_2, .slice A1_2 l1_2.length c1_2] ?_; (with_reducible refine (laws_eqEntryS.calls k _ _ l0_2 _ _ l1_2 false _ (kc HR0_2 HB) HC0_2.out (kc HR1_2 HB) HC1_2.out A5.out).mono ?_); rintro e w32 ⟨rfl, hb⟩; refine ⟨_, rfl, ?_⟩; replace BK408 := bb BK408 hb; replace BK409 := bb BK409 hb; replace HB := bs HB hb; (try clear hb)))
  go_ret
  exact ⟨er, tb HB⟩
 replace H := ipt H
 obtain ⟨t411, A7, H⟩ := bn H
 try dsimp only at H
 cases t411
 case true =>
  replace H := ipt H
  obtain rfl := oin H
  go_enter Try.func101, Try.ntmps101
  go_wp2_with (first | ((with_reducible refine gq 2 rfl ?_); refine bx0 HB (N := 2) (t := 145) ?_; clear HB; intro gb408 w9 BK408 GE408 HB) | ((with_reducible refine gq 3 rfl ?_); refine bx1 HB BK408 (N := 3) (t := 145) ?_; clear HB BK408; intro gb409 w10 BK409 GE409 HB NB408_409 NB409_408 BK408; have hnb11 := NB408_409.out; have hnc11 := NB409_408.out; have hz12 := cs5_ BK408; have hz13 := cs5_ BK409) | ((with_reducible refine gf 68 rfl ?_); refine gL 19 Try.func68 #[.slice A0_2 l0_2.length c0_2, .slice A1_2 l1_2.length c1_2] ?_; (with_reducible refine (laws_eqEntryS.calls k _ _ l0_2 _ _ l1_2 true _ (kc HR0_2 HB) HC0_2.out (kc HR1_2 HB) HC1_2.out A5.out).mono ?_); rintro e w14 ⟨rfl, hb⟩; refine ⟨_, rfl, ?_⟩; replace BK408 := bb BK408 hb; replace BK409 := bb BK409 hb; replace HB := bs HB hb; (try clear hb); have hz15 := cs5_ BK408; have hz16 := cs5_ BK409) | ((with_reducible refine gf 40 rfl ?_); refine gL 25 Try.func40 #[.agg #[.int .i64 a0_3, .slice A0_4 l0_4.length c0_4], .agg #[.int .i64 a1_3, .slice A1_4 l1_4.length c1_4]] ?_; (with_reducible refine (laws_eqRes.calls k a0_3 _ _ l0_4 a1_3 _ _ l1_4 true _ (kc HR0_4 HB) HC0_4.out (kc HR1_4 HB) HC1_4.out A7.out).mono ?_); rintro e w17 ⟨rfl, hb⟩; refine ⟨_, rfl, ?_⟩; replace BK408 := bb BK408 hb; replace BK409 := bb BK409 hb; replace HB := bs HB hb; (try clear hb)))
  go_ret
  exact ⟨er, tb HB⟩
 replace H := ipf H
 obtain rfl := oin H
 go_enter Try.func101, Try.ntmps101
 go_wp2_with (first | ((with_reducible refine gq 2 rfl ?_); refine bx0 HB (N := 2) (t := 145) ?_; clear HB; intro gb408 w18 BK408 GE408 HB) | ((with_reducible refine gq 3 rfl ?_); refine bx1 HB BK408 (N := 3) (t := 145) ?_; clear HB BK408; intro gb409 w19 BK409 GE409 HB NB408_409 NB409_408 BK408; have hnb20 := NB408_409.out; have hnc20 := NB409_408.out; have hz21 := cs5_ BK408; have hz22 := cs5_ BK409) | ((with_reducible refine gf 68 rfl ?_); refine gL 19 Try.func68 #[.slice A0_2 l0_2.length c0_2, .slice A1_2 l1_2.length c1_2] ?_; (with_reducible refine (laws_eqEntryS.calls k _ _ l0_2 _ _ l1_2 true _ (kc HR0_2 HB) HC0_2.out (kc HR1_2 HB) HC1_2.out A5.out).mono ?_); rintro e w23 ⟨rfl, hb⟩; refine ⟨_, rfl, ?_⟩; replace BK408 := bb BK408 hb; replace BK409 := bb BK409 hb; replace HB := bs HB hb; (try clear hb); have hz24 := cs5_ BK408; have hz25 := cs5_ BK409) | ((with_reducible refine gf 40 rfl ?_); refine gL 25 Try.func40 #[.agg #[.int .i64 a0_3, .slice A0_4 l0_4.length c0_4], .agg #[.int .i64 a1_3, .slice A1_4 l1_4.length c1_4]] ?_; (with_reducible refine (laws_eqRes.calls k a0_3 _ _ l0_4 a1_3 _ _ l1_4 false _ (kc HR0_4 HB) HC0_4.out (kc HR1_4 HB) HC1_4.out A7.out).mono ?_); rintro e w26 ⟨rfl, hb⟩; refine ⟨_, rfl, ?_⟩; replace BK408 := bb BK408 hb; replace BK409 := bb BK409 hb; replace HB := bs HB hb; (try clear hb)))
 go_ret
 exact ⟨er, tb HB⟩
end Go.Proofs.Ytopikhjcbcpiaaa.Q
section
namespace Go.Proofs.Ytopikhjcbcpiaaa.Q
open Go.RowKit Go.Proofs.YtopikhjcbcpiaaaW.PrintWords Go.Proofs.YtopikhjcbcpiaaaW.PrintLast Go.Proofs.YtopikhjcbcpiaaaW.PrintMore
attribute [local go_sem] max2_int min2_int max_two min_two max_three min_three max_four min_four
set_option linter.unusedVariables false
set_option linter.unusedSimpArgs false
def hM (b : Nat) (v0 v1 : Value) (ws : List S141) (ds : List S145) : HP := hBoth (hR k141 141 b v0 ws) (hS k145 145 b v1 ds)
theorem cl_M (b : Nat) (v0 v1 : Value) (ws : List S141) (ds : List S145) : Cl (hM b v0 v1 ws ds) := cl_both (cl_R _ _ _ _ _) (cl_S _ _ _ _ _)
section
variable {b : Nat} {v0 v1 : Value} {ws ws' : List S141} {ds ds' : List S145} {D D' : Nat → Prop} {W W' : World}
theorem M_words (h : hM b v0 v1 ws ds D W) : Kd.R k141 141 W b (fun k => some k = v0.ownBlock) v0 ws := Kd.R_tight rfl h.1
theorem M_apart (h : hM b v0 v1 ws ds D W) (k : Nat) (hk : D k ∧ b ≤ k ∧ k < W.heap.size ∧ ∃ q, q ∈ 145 :: k145.E ∧ ∃ cells, W.heap[k]? = some (.cells cells q (0, 0))) : ¬ some k = v0.ownBlock :=
  fun e => S_not_typed hk (Kd.R_typed h.1 k e.symm) (by decide)
theorem M_words' (h : hM b v0 v1 ws ds D W) (hk : Kept W W' (fun k => some k = v0.ownBlock)) (h1 : Kd.R k141 141 W' b (fun k => some k = v0.ownBlock ∨ W.heap.size ≤ k) v0 ws') : hM b v0 v1 ws' ds (fun k => D k ∨ W.heap.size ≤ k) W' :=
  ⟨Kd.R_mono h1 (fun k hk2 => hk2.elim (fun e => .inl (h.1.1 k e.symm)) .inr), Kd.S_mono (Kd.S_kept (Kd.S_bound h.2) hk (M_apart h)) (fun k hk2 => .inl hk2.1)⟩
theorem M_tries' (h : hM b v0 v1 ws ds D W) {D2 : Nat → Prop} (hD2 : ∀ k, D2 k → D k ∧ b ≤ k ∧ k < W.heap.size ∧ ∃ q, q ∈ 145 :: k145.E ∧ ∃ cells, W.heap[k]? = some (.cells cells q (0, 0))) (hk : Kept W W' D2) (h1 : Kd.S k145 145 W' b (fun k => D2 k ∨ W.heap.size ≤ k) v1 ds') : hM b v0 v1 ws ds' (fun k => D k ∨ W.heap.size ≤ k) W' :=
  ⟨Kd.R_mono (Kd.R_kept (M_words h) hk (fun k hk2 h2 => M_apart h k (hD2 k h2) hk2)) (fun k e => .inl (h.1.1 k e.symm)), Kd.S_mono h1 (fun k hk2 => hk2.elim (fun e => .inl (hD2 k e).1) .inr)⟩
theorem M_tries (h : hM b v0 v1 ws ds D W) : Kd.S k145 145 W b (fun k => D k ∧ b ≤ k ∧ k < W.heap.size ∧ ∃ q, q ∈ 145 :: k145.E ∧ ∃ cells, W.heap[k]? = some (.cells cells q (0, 0))) v1 ds := Kd.S_bound h.2
theorem M_forms (h : hM b v0 v1 ws ds D W) : ∃ A c A' c', v0 = .slice A ws.length c ∧ v1 = .slice A' ds.length c' := by
  obtain ⟨A, c, e⟩ := Kd.R_slice h.1
  obtain ⟨A', c', e'⟩ := Kd.S_slice h.2
  exact ⟨A, c, A', c', e, e'⟩
theorem M_R (h : hM b v0 v1 ws ds D W) : Kd.R k141 141 W b D v0 ws := h.1
theorem M_S (h : hM b v0 v1 ws ds D W) : Kd.S k145 145 W b D v1 ds := h.2
theorem M_read0 {A : Option Addr} {n c : Nat} (h : hM b (.slice A n c) v1 ws ds D W) : n = ws.length ∧ n ≤ c ∧ k141.C W A ws.length ws := Kd.R_reads' h.1
theorem M_read1 {A : Option Addr} {n c : Nat} (h : hM b v0 (.slice A n c) ws ds D W) : n = ds.length ∧ n ≤ c ∧ k145.C W A ds.length ds := Kd.S_reads' h.2
theorem hM_mono (h : hM b v0 v1 ws ds D W) (hD : ∀ k, D k → D' k) : hM b v0 v1 ws ds D' W := ⟨Kd.R_mono h.1 hD, Kd.S_mono h.2 hD⟩
end
section
variable {w0 w W W1 : World} {P : Nat → Prop} {L : List HP} {b : Nat} {v0 v1 : Value} {ws : List S141} {ds : List S145} {a a' : Option Addr} {n n' c c' : Nat} {ok ok' : Nat → Prop}
theorem St.madeM (h : St w0 w P L W) (h1 : Kd.R k141 141 W1 W.heap.size ok v0 ws) (h2 : Kd.S k145 145 W1 W.heap.size ok' v1 ds) (hb : Below W.heap.size W W1) : St w0 w P (hM w0.heap.size v0 v1 ws ds :: L) W1 :=
  h.made (cl_M _ _ _ _ _) hb (D := fun k => W.heap.size ≤ k) (fun _ hk => hk) ⟨Kd.R_lower (Kd.R_mono (Kd.R_bound h1) (fun k hk => hk.2.1)) h.ge, Kd.S_lower (Kd.S_mono (Kd.S_bound h2) (fun k hk => hk.2.1)) h.ge⟩
theorem St.readM0 (h : St w0 w P L W) (i : Nat) (hi : L[i]? = some (hM b (.slice a n c) v1 ws ds)) : n = ws.length ∧ ws.length ≤ c ∧ k141.C W a ws.length ws := by
  obtain ⟨D, hD⟩ := h.nth i hi
  obtain ⟨h1, h2, h3⟩ := Kd.R_reads' hD.1
  exact ⟨h1, h1 ▸ h2, h3⟩
theorem St.readM1 (h : St w0 w P L W) (i : Nat) (hi : L[i]? = some (hM b v0 (.slice a n c) ws ds)) : n = ds.length ∧ ds.length ≤ c ∧ k145.C W a ds.length ds := by
  obtain ⟨D, hD⟩ := h.nth i hi
  obtain ⟨h1, h2, h3⟩ := Kd.S_reads' hD.2
  exact ⟨h1, h1 ▸ h2, h3⟩
end
def laws_markMem.f (k : Nat) (l0 : List S141) (l1 : List S145) (a1 : Int) : Option (Int × List S141 × List S145) := (laws_markWordS.f k l0 a1).bind fun r => (laws_markDescSX.f k l1 r.1).bind fun s => some (s.1, r.2, s.2)
set_option maxHeartbeats 8000000 in
set_option maxRecDepth 100000 in
theorem laws_markMem.calls (k : Nat) (P0_ : Nat → Prop) (v0 v1 : Value) (ws : List S141) (ds : List S145) (a1 : Int) (r1 : Int) (r2 : List S141) (r3 : List S145) (w0 w : World) (hB : Below w0.heap.size w0 w) (h0 : hM w0.heap.size v0 v1 ws ds P0_ w) (h : laws_markMem.f k ws ds a1 = some (r1, r2, r3)) :
    Calls Try.prog 59 #[.agg #[v0, v1], .int .i64 a1] w fun e w' => e = .returned (.int .i64 r1) ∧ hM w0.heap.size v0 v1 r2 r3 (fun k_ => P0_ k_ ∨ w.heap.size ≤ k_) w' ∧ Below w0.heap.size w0 w' ∧ Kept w w' (fun k_ => P0_ k_) := by
  have hu88 := Try.underlying88
  unfold laws_markMem.f at h
  obtain ⟨⟨t1, l1⟩, A1, h⟩ := Option.bind_eq_some_iff.mp h
  obtain ⟨⟨t2, l2⟩, A2, h⟩ := Option.bind_eq_some_iff.mp h
  dsimp only at A2 h
  simp only [Option.some.injEq, Prod.mk.injEq] at h
  obtain ⟨rfl, rfl, rfl⟩ := h
  have B1 := Aside0.mk A1
  have B2 := Aside0.mk A2
  clear A1 A2
  obtain ⟨Ao, co, Ap, cp, rfl, rfl⟩ := M_forms h0
  have S := Aside0.mk (St.start1 (P := fun k => P0_ k ∧ w0.heap.size ≤ k) hB (cl_M _ _ _ _ _) (fun k hk => hk.2) (show hM _ _ _ _ _ _ _ from ⟨Kd.R_mono (Kd.R_bound h0.1) (fun k hk => ⟨hk.1, hk.2.1⟩), Kd.S_mono (Kd.S_bound h0.2) (fun k hk => ⟨hk.1, hk.2.1⟩)⟩))
  clear hB h0
  go_enter Try.func59, Try.ntmps59
  go_wp2_with (first
    | ((with_reducible refine gate_dst (N := 2) rfl ?_); refine box_event ?hg (N := 2) ?hd (cs := #[.slice Ao ws.length co, .slice Ap ds.length cp]) (t := 88) ?hr ?_; (case hd => rfl); (case hg => rfl); (case hr => first | (go_simp; done) | (go_simp; rfl)); intro g hg w1 hbox hb
       replace S := Aside0.mk (S.out.box hg hbox hb)
       clear hg hbox hb
       have c0 : w1.cell? ⟨g, 0, none⟩ = some (.slice Ao ws.length co) := (blk_cell (S.out.blk 0 rfl) 0).trans rfl
       have c1 : w1.cell? ⟨g, 1, none⟩ = some (.slice Ap ds.length cp) := (blk_cell (S.out.blk 0 rfl) 1).trans rfl)
    | ((with_reducible refine gate_callee (f := 28) rfl ?_); refine goesL_ (some 8) rfl rfl Try.func28 (by kernel_rfl) rfl #[.slice Ao ws.length co, .int .i64 a1] rfl (by (try simp only [List.map_toArray, List.map_cons, List.map_nil]); first | done | rfl) ?_
       obtain ⟨D, hD, hDb, hS⟩ := (S.out.bring 1 rfl).own
       (with_reducible refine (laws_markWordS.calls k _ _ _ a1 t1 l1 w0 _ S.out.below (M_words hD) B1.out).mono ?_)
       rintro e w2 ⟨rfl, h1, hb, hk⟩
       refine ⟨_, rfl, ?_⟩
       replace S := Aside0.mk (hS w2 _ (cl_M _ _ _ _ _) hb (hk.mono (fun k e => hD.1.1 k e.symm)) (M_words' hD hk h1))
       clear hS hD hDb h1 hb hk
       replace c0 : w2.cell? ⟨g, 0, none⟩ = some (.slice Ao ws.length co) := (blk_cell (S.out.blk 1 rfl) 0).trans rfl
       replace c1 : w2.cell? ⟨g, 1, none⟩ = some (.slice Ap ds.length cp) := (blk_cell (S.out.blk 1 rfl) 1).trans rfl)
    | ((with_reducible refine gate_callee (f := 29) rfl ?_); refine goesL_ (some 12) rfl rfl Try.func29 (by kernel_rfl) rfl #[.slice Ap ds.length cp, .int .i64 t1] rfl (by (try simp only [List.map_toArray, List.map_cons, List.map_nil]); first | done | rfl) ?_
       obtain ⟨D, hD, hDb, hS⟩ := S.out.own
       (with_reducible refine (laws_markDescSX.calls k _ _ _ t1 t2 l2 w0 _ S.out.below (M_tries hD) B2.out).mono ?_)
       rintro e w3 ⟨rfl, h1, hb, hk⟩
       refine ⟨_, rfl, ?_⟩
       replace S := Aside0.mk (hS w3 _ (cl_M _ _ _ _ _) hb (hk.mono (fun k e => e.1)) (M_tries' hD (fun k hk => hk) hk h1))
       clear hS hD hDb h1 hb hk))
  go_ret
  obtain ⟨D1, d1, d2, d3⟩ := S.out.sep
  exact ⟨er, hM_mono d2.now (fun k hk => (d1 k hk).1.elim (fun h => .inl h.1) .inr), S.out.below, S.out.kept.mono (fun k hk => hk.1)⟩
end Go.Proofs.Ytopikhjcbcpiaaa.Q
end
namespace Go.Proofs.Ytopikhjcbcpiaaa.Q
open Go.RowKit Go.Proofs.YtopikhjcbcpiaaaW.PrintWords Go.Proofs.YtopikhjcbcpiaaaW.PrintLast Go.Proofs.YtopikhjcbcpiaaaW.PrintMore
attribute [local go_sem] max2_int min2_int max_two min_two max_three min_three max_four min_four   -- for this text's walks alone
set_option linter.unusedVariables false
set_option linter.unusedSimpArgs false
def laws_heldMem.f (k : Nat) (l0_0 : List (S141)) (l0_1 : List (S145)) (a1 : Int) : Option (Int) := (laws_heldWordS.f k l0_0 a1).bind fun t1159 => (if t1159 < 0 then (some (-1)) else ((laws_heldDescS.f k l0_1 t1159).bind fun t1160 => (if t1160 < 0 then (some (-1)) else (some t1160))))
set_option maxHeartbeats 8000000 in
set_option maxRecDepth 100000 in
theorem laws_heldMem.calls (k : Nat) (A0_0 : Option Addr) (c0_0 : Nat) (l0_0 : List (S141)) (A0_1 : Option Addr) (c0_1 : Nat) (l0_1 : List (S145)) (a1 : Int) (r : Int) (w : World) (hr0_0 : Kd.C k141 w A0_0 l0_0.length l0_0) (hc0_0 : l0_0.length ≤ c0_0) (hr0_1 : Kd.C k145 w A0_1 l0_1.length l0_1) (hc0_1 : l0_1.length ≤ c0_1) (h : laws_heldMem.f k l0_0 l0_1 a1 = some r) :
  Calls Try.prog 60 #[.agg #[.slice A0_0 l0_0.length c0_0, .slice A0_1 l0_1.length c0_1], .int .i64 a1] w fun e w' => e = .returned (.int .i64 r) ∧ Below w.heap.size w w' := by
 have hu88 := Try.underlying88
 have HR0_0 := Aside0.mk hr0_0
 have HC0_0 := Aside0.mk hc0_0
 clear hr0_0 hc0_0
 have HR0_1 := Aside0.mk hr0_1
 have HC0_1 := Aside0.mk hc0_1
 clear hr0_1 hc0_1
 have HB := Aside0.mk (Below.refl w.heap.size w)
 have H := h
 clear h
 unfold laws_heldMem.f at H
 obtain ⟨t1159, A3, H⟩ := bn H
 try dsimp only at H
 revert H; refine icd (fun c4b0 H => ?pos) fun c4b0 H => ?_
 case pos =>
  obtain rfl := oin H
  go_enter Try.func60, Try.ntmps60
  go_wp2_with (first | ((with_reducible refine gq 2 rfl ?_); refine bx0 HB (N := 2) (t := 88) ?_; clear HB; intro gb1158 w5 BK1158 GE1158 HB; have hz6 := cs2_ BK1158) | ((with_reducible refine gf 131 rfl ?_); refine gL 8 Try.func131 #[.slice A0_0 l0_0.length c0_0, .int .i64 a1] ?_; (with_reducible refine (laws_heldWordS.calls k _ _ l0_0 a1 t1159 _ (kc HR0_0 HB) HC0_0.out A3.out).mono ?_); rintro e w' ⟨rfl, ⟨nd, rfl⟩⟩; refine ⟨_, rfl, ?_⟩))
  go_ret
  exact ⟨er, tb HB⟩
 obtain ⟨t1160, A7, H⟩ := bn H
 try dsimp only at H
 revert H; refine icd (fun c8b0 H => ?pos) fun c8b0 H => ?_
 case pos =>
  obtain rfl := oin H
  go_enter Try.func60, Try.ntmps60
  go_wp2_with (first | ((with_reducible refine gq 2 rfl ?_); refine bx0 HB (N := 2) (t := 88) ?_; clear HB; intro gb1158 w9 BK1158 GE1158 HB; have hz10 := cs2_ BK1158) | ((with_reducible refine gf 131 rfl ?_); refine gL 8 Try.func131 #[.slice A0_0 l0_0.length c0_0, .int .i64 a1] ?_; (with_reducible refine (laws_heldWordS.calls k _ _ l0_0 a1 t1159 _ (kc HR0_0 HB) HC0_0.out A3.out).mono ?_); rintro e w' ⟨rfl, ⟨nd, rfl⟩⟩; refine ⟨_, rfl, ?_⟩) | ((with_reducible refine gf 132 rfl ?_); refine gL 14 Try.func132 #[.slice A0_1 l0_1.length c0_1, .int .i64 t1159] ?_; (with_reducible refine (laws_heldDescS.calls k _ _ l0_1 t1159 t1160 _ ?side1 HC0_1.out A7.out).mono ?_); (case side1 => repeat (first | exact (Kd.C_below HR0_1.out (tb HB)) | (with_reducible refine Kd.C_alloc ?_ _) | (with_reducible refine Kd.C_drewN ?_ _) | (with_reducible refine Kd.C_drew ?_))); rintro e w' ⟨rfl, ⟨nd, rfl⟩⟩; refine ⟨_, rfl, ?_⟩))
  go_ret
  exact ⟨er, tb HB⟩
 obtain rfl := oin H
 go_enter Try.func60, Try.ntmps60
 go_wp2_with (first | ((with_reducible refine gq 2 rfl ?_); refine bx0 HB (N := 2) (t := 88) ?_; clear HB; intro gb1158 w11 BK1158 GE1158 HB; have hz12 := cs2_ BK1158) | ((with_reducible refine gf 131 rfl ?_); refine gL 8 Try.func131 #[.slice A0_0 l0_0.length c0_0, .int .i64 a1] ?_; (with_reducible refine (laws_heldWordS.calls k _ _ l0_0 a1 t1159 _ (kc HR0_0 HB) HC0_0.out A3.out).mono ?_); rintro e w' ⟨rfl, ⟨nd, rfl⟩⟩; refine ⟨_, rfl, ?_⟩) | ((with_reducible refine gf 132 rfl ?_); refine gL 14 Try.func132 #[.slice A0_1 l0_1.length c0_1, .int .i64 t1159] ?_; (with_reducible refine (laws_heldDescS.calls k _ _ l0_1 t1159 t1160 _ ?side1 HC0_1.out A7.out).mono ?_); (case side1 => repeat (first | exact (Kd.C_below HR0_1.out (tb HB)) | (with_reducible refine Kd.C_alloc ?_ _) | (with_reducible refine Kd.C_drewN ?_ _) | (with_reducible refine Kd.C_drew ?_))); rintro e w' ⟨rfl, ⟨nd, rfl⟩⟩; refine ⟨_, rfl, ?_⟩))
 go_ret
 exact ⟨er, tb HB⟩
mutual
def spec_OpOk.j0 : Nat → Bool → Int → Int → Int → Option (Bool)
 | 0, _, _, _, _ => none
 | k + 1, x3, x147000, x147001, x147002 => if x147000 = 6 then ((spec_l1In.f x147001 0 2).bind fun t150 => (spec_OpOk.j1 k t150 x147000 x147001 x147002)) else (spec_OpOk.j1 k x3 x147000 x147001 x147002)
def spec_OpOk.j1 : Nat → Bool → Int → Int → Int → Option (Bool)
 | 0, _, _, _, _ => none
 | k + 1, x3, x147000, x147001, x147002 => (spec_l4Val.f x147000).bind fun t151 => (if t151 = true then (if x3 = true then ((spec_ValOk.f x147002).bind fun t152 => (some t152)) else (some false)) else (if x3 = true then (some (x147002 == 0)) else (some false)))
end
def spec_OpOk.f (k : Nat) (a0_0 : Int) (a0_1 : Int) (a0_2 : Int) : Option (Bool) := (spec_l1In.f a0_0 1 10).bind fun t147 => (if t147 = true then ((spec_l4Key.f a0_0).bind fun t148 => (if t148 = true then ((spec_KeyOk.f a0_1).bind fun t149 => (spec_OpOk.j0 k t149 a0_0 a0_1 a0_2)) else (spec_OpOk.j0 k (a0_1 == 0) a0_0 a0_1 a0_2))) else (some false))
set_option maxHeartbeats 8000000 in
set_option maxRecDepth 100000 in
theorem spec_OpOk.calls (k : Nat) (a0_0 : Int) (a0_1 : Int) (a0_2 : Int) (r : Bool) (w : World) (h : spec_OpOk.f k a0_0 a0_1 a0_2 = some r) :
  Calls Try.prog 54 #[.agg #[.int .i64 a0_0, .int .i64 a0_1, .int .i64 a0_2]] w fun e w' => e = .returned (.bool r) ∧ Below w.heap.size w w' := by
 have hu68 := Try.underlying68
 have HB := Aside0.mk (Below.refl w.heap.size w)
 have H := h
 clear h
 unfold spec_OpOk.f at H
 obtain ⟨t147, A2, H⟩ := bn H
 try dsimp only at H
 cases t147
 case false =>
  replace H := ipf H
  obtain rfl := oin H
  go_enter Try.func54, Try.ntmps54
  go_wp2_with (first | ((with_reducible refine gq 1 rfl ?_); refine bx0 HB (N := 1) (t := 68) ?_; clear HB; intro gb146 w25 BK146 GE146 HB; have hz26 := cs3_ BK146) | ((with_reducible refine gf 79 rfl ?_); refine gL 6 Try.func79 #[.int .i64 a0_0, .int .i64 1, .int .i64 10] ?_; (with_reducible refine (spec_l1In.calls a0_0 1 10 false _ A2.out).mono ?_); rintro e w' ⟨rfl, ⟨nd, rfl⟩⟩; refine ⟨_, rfl, ?_⟩))
  go_ret
  exact ⟨er, tb HB⟩
 replace H := ipt H
 obtain ⟨t148, A4, H⟩ := bn H
 try dsimp only at H
 have HC5 := Aside0.mk H
 clear H
 go_enter Try.func54, Try.ntmps54
 go_upto_if 13 with (first | ((with_reducible refine gq 1 rfl ?_); refine bx0 HB (N := 1) (t := 68) ?_; clear HB; intro gb146 w6 BK146 GE146 HB; have hz7 := cs3_ BK146) | ((with_reducible refine gf 79 rfl ?_); refine gL 6 Try.func79 #[.int .i64 a0_0, .int .i64 1, .int .i64 10] ?_; (with_reducible refine (spec_l1In.calls a0_0 1 10 true _ A2.out).mono ?_); rintro e w' ⟨rfl, ⟨nd, rfl⟩⟩; refine ⟨_, rfl, ?_⟩) | ((with_reducible refine gf 122 rfl ?_); refine gL 13 Try.func122 #[.int .i64 a0_0] ?_; (with_reducible refine (spec_l4Key.calls a0_0 t148 _ A4.out).mono ?_); rintro e w' ⟨rfl, ⟨nd, rfl⟩⟩; refine ⟨_, rfl, ?_⟩))
 (try simp only [Act.put, sA, sB, sC])
 go_cut [3] (fun v3 wc => ∃ (kq : Nat) (x3_4 : Bool), v3 = .bool x3_4 ∧ Aside0 (spec_OpOk.j0 kq x3_4 a0_0 a0_1 a0_2 = some r) ∧ Aside0 (kq ≤ k) ∧ Aside0 (wc.heap[gb146]? = some (.cells #[.int .i64 a0_0, .int .i64 a0_1, .int .i64 a0_2] 68 (0, 0))) ∧ Aside0 (Below w.heap.size w wc))
 case first =>
  have H := HC5.out
  clear HC5
  cases t148
  case false =>
   replace H := ipf H
   have H' := Aside0.mk H
   clear H
   go_wp2
   go_meet
   case rel => exact ⟨_, ((a0_1 == 0)), rsd, H', ⟨by first | omega | exact Nat.le_refl _⟩, ⟨by (with_reducible repeat (first | refine blk_drewN ?_ _ | refine blk_drew ?_ | refine blk_alloc ?_ _)); exact BK146.out⟩, ⟨tb HB⟩⟩
  replace H := ipt H
  obtain ⟨t149, A9, H⟩ := bn H
  try dsimp only at H
  have H' := Aside0.mk H
  clear H
  have hz10 := cs3_ BK146
  go_wp2_with (first | ((with_reducible refine gf 123 rfl ?_); refine gL 16 Try.func123 #[.int .i64 a0_1] ?_; (with_reducible refine (spec_KeyOk.calls a0_1 t149 _ A9.out).mono ?_); rintro e w' ⟨rfl, ⟨nd, rfl⟩⟩; refine ⟨_, rfl, ?_⟩))
  go_meet
  case rel => exact ⟨_, (t149), rsd, H', ⟨by first | omega | exact Nat.le_refl _⟩, ⟨by (with_reducible repeat (first | refine blk_drewN ?_ _ | refine blk_drew ?_ | refine blk_alloc ?_ _)); exact BK146.out⟩, ⟨tb HB⟩⟩
 case rest =>
  clear HC5
  obtain ⟨kq, x3_4, rfl, HA, HJ4, BK146, HB⟩ := hcut
  cases kq with
  | zero => exact absurd HA.out (by simp [spec_OpOk.j0])
  | succ kj4 =>
   have H := HA.out
   clear HA
   simp only [spec_OpOk.j0] at H
   have HC11 := Aside0.mk H
   clear H
   have hz12 := cs3_ BK146
   go_upto_if 19 with (fail)
   go_cut [3] (fun v3 wc => ∃ (kq : Nat) (x3_10 : Bool), v3 = .bool x3_10 ∧ Aside0 (spec_OpOk.j1 kq x3_10 a0_0 a0_1 a0_2 = some r) ∧ Aside0 (kq ≤ kj4) ∧ Aside0 (wc.heap[gb146]? = some (.cells #[.int .i64 a0_0, .int .i64 a0_1, .int .i64 a0_2] 68 (0, 0))) ∧ Aside0 (Below w.heap.size w wc))
   case first =>
    have H := HC11.out
    clear HC11
    by_cases c13 : a0_0 = 6
    case neg =>
     rw [if_neg c13] at H
     have c13b0 : (a0_0 == 6) = false := beq_eq_false_iff_ne.mpr c13
     have c13b1 : (a0_0 != 6) = true := bne_iff_ne.mpr c13
     (first | rw [c13b0] | (simp only [i64_w, i32_w]; rw [c13b0]) | skip)
     have H' := Aside0.mk H
     clear H
     go_wp2
     go_meet
     case rel => exact ⟨_, (x3_4), rsd, H', ⟨by have := HJ4.out; first | omega | exact Nat.le_refl _⟩, ⟨by (with_reducible repeat (first | refine blk_drewN ?_ _ | refine blk_drew ?_ | refine blk_alloc ?_ _)); exact BK146.out⟩, ⟨tb HB⟩⟩
    rw [if_pos c13] at H
    have c13b0 : (a0_0 == 6) = true := beq_iff_eq.mpr c13
    have c13b1 : (a0_0 != 6) = false := bne_eq_false_iff_eq.mpr c13
    clear c13
    (first | rw [c13b0] | (simp only [i64_w, i32_w]; rw [c13b0]) | skip)
    obtain ⟨t150, A14, H⟩ := bn H
    try dsimp only at H
    have H' := Aside0.mk H
    clear H
    have hz15 := cs3_ BK146
    go_wp2_with (first | ((with_reducible refine gf 79 rfl ?_); refine gL 22 Try.func79 #[.int .i64 a0_1, .int .i64 0, .int .i64 2] ?_; (with_reducible refine (spec_l1In.calls a0_1 0 2 t150 _ A14.out).mono ?_); rintro e w' ⟨rfl, ⟨nd, rfl⟩⟩; refine ⟨_, rfl, ?_⟩))
    go_meet
    case rel => exact ⟨_, (t150), rsd, H', ⟨by have := HJ4.out; first | omega | exact Nat.le_refl _⟩, ⟨by (with_reducible repeat (first | refine blk_drewN ?_ _ | refine blk_drew ?_ | refine blk_alloc ?_ _)); exact BK146.out⟩, ⟨tb HB⟩⟩
   case rest =>
    clear HC11
    obtain ⟨kq, x3_10, rfl, HA, HJ10, BK146, HB⟩ := hcut
    cases kq with
    | zero => exact absurd HA.out (by simp [spec_OpOk.j1])
    | succ kj10 =>
     have H := HA.out
     clear HA
     simp only [spec_OpOk.j1] at H
     obtain ⟨t151, A16, H⟩ := bn H
     try dsimp only at H
     cases t151
     case false =>
      replace H := ipf H
      cases x3_10
      case true =>
       replace H := ipt H
       obtain rfl := oin H
       have hz23 := cs3_ BK146
       go_wp2_with (first | ((with_reducible refine gf 124 rfl ?_); refine gL 25 Try.func124 #[.int .i64 a0_0] ?_; (with_reducible refine (spec_l4Val.calls a0_0 false _ A16.out).mono ?_); rintro e w' ⟨rfl, ⟨nd, rfl⟩⟩; refine ⟨_, rfl, ?_⟩))
       go_ret
       exact ⟨er, tb HB⟩
      replace H := ipf H
      obtain rfl := oin H
      have hz24 := cs3_ BK146
      go_wp2_with (first | ((with_reducible refine gf 124 rfl ?_); refine gL 25 Try.func124 #[.int .i64 a0_0] ?_; (with_reducible refine (spec_l4Val.calls a0_0 false _ A16.out).mono ?_); rintro e w' ⟨rfl, ⟨nd, rfl⟩⟩; refine ⟨_, rfl, ?_⟩))
      go_ret
      exact ⟨er, tb HB⟩
     replace H := ipt H
     cases x3_10
     case false =>
      replace H := ipf H
      obtain rfl := oin H
      have hz21 := cs3_ BK146
      go_wp2_with (first | ((with_reducible refine gf 124 rfl ?_); refine gL 25 Try.func124 #[.int .i64 a0_0] ?_; (with_reducible refine (spec_l4Val.calls a0_0 true _ A16.out).mono ?_); rintro e w' ⟨rfl, ⟨nd, rfl⟩⟩; refine ⟨_, rfl, ?_⟩))
      go_ret
      exact ⟨er, tb HB⟩
     replace H := ipt H
     obtain ⟨t152, A19, H⟩ := bn H
     try dsimp only at H
     obtain rfl := oin H
     have hz20 := cs3_ BK146
     go_wp2_with (first | ((with_reducible refine gf 124 rfl ?_); refine gL 25 Try.func124 #[.int .i64 a0_0] ?_; (with_reducible refine (spec_l4Val.calls a0_0 true _ A16.out).mono ?_); rintro e w' ⟨rfl, ⟨nd, rfl⟩⟩; refine ⟨_, rfl, ?_⟩) | (go_at_call 125; (with_reducible refine (spec_ValOk.calls a0_2 t152 _ A19.out).mono ?_); rintro e w' ⟨rfl, ⟨nd, rfl⟩⟩))
     go_ret
     exact ⟨er, tb HB⟩
mutual
def impl_OpOk.j0 : Nat → Int → Bool → Int → Int → Int → Option (Bool)
 | 0, _, _, _, _, _ => none
 | k + 1, x4, x5, x215000, x215001, x215002 => if x5 = true then ((impl_KeyOk.f x215001).bind fun t215 => (if t215 = true then ((impl_ValOk.f x215002).bind fun t216 => (some t216)) else (some false))) else (if x4 = 3 then (impl_OpOk.j1 k x4 (x4 == 3) x215000 x215001 x215002) else (impl_OpOk.j1 k x4 (x4 == 4) x215000 x215001 x215002))
def impl_OpOk.j1 : Nat → Int → Bool → Int → Int → Int → Option (Bool)
 | 0, _, _, _, _, _ => none
 | k + 1, x4, x16, x215000, x215001, x215002 => if x16 = true then ((impl_KeyOk.f x215001).bind fun t217 => (if t217 = true then (some (x215002 == 0)) else (some false))) else (if x4 = 5 then (impl_OpOk.j2 k x4 (x4 == 5) x215000 x215001 x215002) else (impl_OpOk.j2 k x4 (x4 == 10) x215000 x215001 x215002))
def impl_OpOk.j2 : Nat → Int → Bool → Int → Int → Int → Option (Bool)
 | 0, _, _, _, _, _ => none
 | k + 1, x4, x27, x215000, x215001, x215002 => if x27 = true then (if x215001 = 0 then ((impl_ValOk.f x215002).bind fun t218 => (some t218)) else (some false)) else (if x4 = 6 then ((impl_isClass.f x215001).bind fun t219 => (if t219 = true then (some (x215002 == 0)) else (some false))) else (if x4 = 7 then (if x215001 = 0 then (some (x215002 == 0)) else (some false)) else (if x4 = 8 then (if x215001 = 0 then (some (x215002 == 0)) else (some false)) else (if x4 = 9 then (if x215001 = 0 then (some (x215002 == 0)) else (some false)) else (some false)))))
end
def impl_OpOk.f (k : Nat) (a0_0 : Int) (a0_1 : Int) (a0_2 : Int) : Option (Bool) := if a0_0 = 1 then (impl_OpOk.j0 k a0_0 (a0_0 == 1) a0_0 a0_1 a0_2) else (impl_OpOk.j0 k a0_0 (a0_0 == 2) a0_0 a0_1 a0_2)
theorem impl_OpOk.mono_l : ∀ k, (∀ y0 y1 y2 y3 y4, LeO (impl_OpOk.j0 k y0 y1 y2 y3 y4) (impl_OpOk.j0 (k + 1) y0 y1 y2 y3 y4)) ∧ (∀ y0 y1 y2 y3 y4, LeO (impl_OpOk.j1 k y0 y1 y2 y3 y4) (impl_OpOk.j1 (k + 1) y0 y1 y2 y3 y4)) ∧ (∀ y0 y1 y2 y3 y4, LeO (impl_OpOk.j2 k y0 y1 y2 y3 y4) (impl_OpOk.j2 (k + 1) y0 y1 y2 y3 y4))
 | 0 => ⟨fun _ _ _ _ _ r h => by simp [impl_OpOk.j0] at h, fun _ _ _ _ _ r h => by simp [impl_OpOk.j1] at h, fun _ _ _ _ _ r h => by simp [impl_OpOk.j2] at h⟩
 | k + 1 => by
  obtain ⟨ih0, ih1, ih2⟩ := impl_OpOk.mono_l k
  refine ⟨?_, ?_, ?_⟩
  ·intro y0 y1 y2 y3 y4
   unfold impl_OpOk.j0
   repeat' first
   | (with_reducible exact ih0 _ _ _ _ _)
   | (with_reducible exact ih1 _ _ _ _ _)
   | (with_reducible exact ih2 _ _ _ _ _)
   | (with_reducible exact LeO.refl _)
   | (with_reducible exact LeO.none _)
   | (with_reducible refine LeO.ite ?_ ?_)
   | (with_reducible refine LeO.bind ?_ (fun _ => ?_))
   | exact ih0 _ _ _ _ _
   | exact ih1 _ _ _ _ _
   | exact ih2 _ _ _ _ _
   | exact LeO.none _
   | refine LeO.ite ?_ ?_
   | refine LeO.bind ?_ (fun _ => ?_)
  ·intro y0 y1 y2 y3 y4
   unfold impl_OpOk.j1
   repeat' first
   | (with_reducible exact ih0 _ _ _ _ _)
   | (with_reducible exact ih1 _ _ _ _ _)
   | (with_reducible exact ih2 _ _ _ _ _)
   | (with_reducible exact LeO.refl _)
   | (with_reducible exact LeO.none _)
   | (with_reducible refine LeO.ite ?_ ?_)
   | (with_reducible refine LeO.bind ?_ (fun _ => ?_))
   | exact ih0 _ _ _ _ _
   | exact ih1 _ _ _ _ _
   | exact ih2 _ _ _ _ _
   | exact LeO.none _
   | refine LeO.ite ?_ ?_
   | refine LeO.bind ?_ (fun _ => ?_)
  ·intro y0 y1 y2 y3 y4
   unfold impl_OpOk.j2
   repeat' first
   | (with_reducible exact ih0 _ _ _ _ _)
   | (with_reducible exact ih1 _ _ _ _ _)
   | (with_reducible exact ih2 _ _ _ _ _)
   | (with_reducible exact LeO.refl _)
   | (with_reducible exact LeO.none _)
   | (with_reducible refine LeO.ite ?_ ?_)
   | (with_reducible refine LeO.bind ?_ (fun _ => ?_))
   | exact ih0 _ _ _ _ _
   | exact ih1 _ _ _ _ _
   | exact ih2 _ _ _ _ _
   | exact LeO.none _
   | refine LeO.ite ?_ ?_
   | refine LeO.bind ?_ (fun _ => ?_)
theorem impl_OpOk.mono : ∀ a0 a1 a2 k, LeO (impl_OpOk.f k a0 a1 a2) (impl_OpOk.f (k + 1) a0 a1 a2) := by
 intro a0 a1 a2 k
 obtain ⟨ih0, ih1, ih2⟩ := impl_OpOk.mono_l k
 unfold impl_OpOk.f
 repeat' first
   | (with_reducible exact ih0 _ _ _ _ _)
   | (with_reducible exact ih1 _ _ _ _ _)
   | (with_reducible exact ih2 _ _ _ _ _)
   | (with_reducible exact LeO.refl _)
   | (with_reducible exact LeO.none _)
   | (with_reducible refine LeO.ite ?_ ?_)
   | (with_reducible refine LeO.bind ?_ (fun _ => ?_))
   | exact ih0 _ _ _ _ _
   | exact ih1 _ _ _ _ _
   | exact ih2 _ _ _ _ _
   | exact LeO.none _
   | refine LeO.ite ?_ ?_
   | refine LeO.bind ?_ (fun _ => ?_)
set_option maxHeartbeats 8000000 in
set_option maxRecDepth 100000 in
theorem impl_OpOk.calls (k : Nat) (a0_0 : Int) (a0_1 : Int) (a0_2 : Int) (r : Bool) (w : World) (h : impl_OpOk.f k a0_0 a0_1 a0_2 = some r) :
  Calls Try.prog 53 #[.agg #[.int .i64 a0_0, .int .i64 a0_1, .int .i64 a0_2]] w fun e w' => e = .returned (.bool r) ∧ Below w.heap.size w w' := by
 have hu68 := Try.underlying68
 have HB := Aside0.mk (Below.refl w.heap.size w)
 have H := h
 clear h
 unfold impl_OpOk.f at H
 have HC2 := Aside0.mk H
 clear H
 go_enter Try.func53, Try.ntmps53
 go_upto_if 5 with (first | ((with_reducible refine gq 1 rfl ?_); refine bx0 HB (N := 1) (t := 68) ?_; clear HB; intro gb214 w3 BK214 GE214 HB; have hz4 := cs3_ BK214))
 (try simp only [Act.put, sA, sB, sC])
 go_cut [5] (fun v5 wc => ∃ (kq : Nat) (x5_1 : Bool), v5 = .bool x5_1 ∧ Aside0 (impl_OpOk.j0 kq a0_0 x5_1 a0_0 a0_1 a0_2 = some r) ∧ Aside0 (kq ≤ k) ∧ Aside0 (wc.heap[gb214]? = some (.cells #[.int .i64 a0_0, .int .i64 a0_1, .int .i64 a0_2] 68 (0, 0))) ∧ Aside0 (Below w.heap.size w wc))
 case first =>
  have H := HC2.out
  clear HC2
  by_cases c5 : a0_0 = 1
  case neg =>
   rw [if_neg c5] at H
   have c5b0 : (a0_0 == 1) = false := beq_eq_false_iff_ne.mpr c5
   have c5b1 : (a0_0 != 1) = true := bne_iff_ne.mpr c5
   (first | rw [c5b0] | (simp only [i64_w, i32_w]; rw [c5b0]) | skip)
   have H' := Aside0.mk H
   clear H
   go_wp2
   go_meet
   case rel => exact ⟨_, ((a0_0 == 2)), rsd, H', ⟨by first | omega | exact Nat.le_refl _⟩, ⟨by (with_reducible repeat (first | refine blk_drewN ?_ _ | refine blk_drew ?_ | refine blk_alloc ?_ _)); exact BK214.out⟩, ⟨tb HB⟩⟩
  rw [if_pos c5] at H
  have c5b0 : (a0_0 == 1) = true := beq_iff_eq.mpr c5
  have c5b1 : (a0_0 != 1) = false := bne_eq_false_iff_eq.mpr c5
  clear c5
  (first | rw [c5b0] | (simp only [i64_w, i32_w]; rw [c5b0]) | skip)
  have H' := Aside0.mk H
  clear H
  go_wp2
  go_meet
  case rel => exact ⟨_, ((a0_0 == 1)), rsd, H', ⟨by first | omega | exact Nat.le_refl _⟩, ⟨by (with_reducible repeat (first | refine blk_drewN ?_ _ | refine blk_drew ?_ | refine blk_alloc ?_ _)); exact BK214.out⟩, ⟨tb HB⟩⟩
 case rest =>
  clear HC2
  obtain ⟨kq, x5_1, rfl, HA, HJ1, BK214, HB⟩ := hcut
  cases kq with
  | zero => exact absurd HA.out (by simp [impl_OpOk.j0])
  | succ kj1 =>
   have H := HA.out
   clear HA
   simp only [impl_OpOk.j0] at H
   cases x5_1
   case true =>
    replace H := ipt H
    obtain ⟨t215, A7, H⟩ := bn H
    try dsimp only at H
    cases t215
    case false =>
     replace H := ipf H
     obtain rfl := oin H
     have hz11 := cs3_ BK214
     go_wp2_with (first | ((with_reducible refine gf 119 rfl ?_); refine gL 10 Try.func119 #[.int .i64 a0_1] ?_; (with_reducible refine (impl_KeyOk.calls a0_1 false _ A7.out).mono ?_); rintro e w' ⟨rfl, ⟨nd, rfl⟩⟩; refine ⟨_, rfl, ?_⟩))
     go_ret
     exact ⟨er, tb HB⟩
    replace H := ipt H
    obtain ⟨t216, A9, H⟩ := bn H
    try dsimp only at H
    obtain rfl := oin H
    have hz10 := cs3_ BK214
    go_wp2_with (first | ((with_reducible refine gf 119 rfl ?_); refine gL 10 Try.func119 #[.int .i64 a0_1] ?_; (with_reducible refine (impl_KeyOk.calls a0_1 true _ A7.out).mono ?_); rintro e w' ⟨rfl, ⟨nd, rfl⟩⟩; refine ⟨_, rfl, ?_⟩) | (go_at_call 120; (with_reducible refine (impl_ValOk.calls a0_2 t216 _ A9.out).mono ?_); rintro e w' ⟨rfl, ⟨nd, rfl⟩⟩))
    go_ret
    exact ⟨er, tb HB⟩
   replace H := ipf H
   have HC12 := Aside0.mk H
   clear H
   go_upto_if 16 with (fail)
   go_cut [16] (fun v16 wc => ∃ (kq : Nat) (x16_11 : Bool), v16 = .bool x16_11 ∧ Aside0 (impl_OpOk.j1 kq a0_0 x16_11 a0_0 a0_1 a0_2 = some r) ∧ Aside0 (kq ≤ kj1) ∧ Aside0 (wc.heap[gb214]? = some (.cells #[.int .i64 a0_0, .int .i64 a0_1, .int .i64 a0_2] 68 (0, 0))) ∧ Aside0 (Below w.heap.size w wc))
   case first =>
    have H := HC12.out
    clear HC12
    by_cases c13 : a0_0 = 3
    case neg =>
     rw [if_neg c13] at H
     have c13b0 : (a0_0 == 3) = false := beq_eq_false_iff_ne.mpr c13
     have c13b1 : (a0_0 != 3) = true := bne_iff_ne.mpr c13
     (first | rw [c13b0] | (simp only [i64_w, i32_w]; rw [c13b0]) | skip)
     have H' := Aside0.mk H
     clear H
     go_wp2
     go_meet
     case rel => exact ⟨_, ((a0_0 == 4)), rsd, H', ⟨by have := HJ1.out; first | omega | exact Nat.le_refl _⟩, ⟨by (with_reducible repeat (first | refine blk_drewN ?_ _ | refine blk_drew ?_ | refine blk_alloc ?_ _)); exact BK214.out⟩, ⟨tb HB⟩⟩
    rw [if_pos c13] at H
    have c13b0 : (a0_0 == 3) = true := beq_iff_eq.mpr c13
    have c13b1 : (a0_0 != 3) = false := bne_eq_false_iff_eq.mpr c13
    clear c13
    (first | rw [c13b0] | (simp only [i64_w, i32_w]; rw [c13b0]) | skip)
    have H' := Aside0.mk H
    clear H
    go_wp2
    go_meet
    case rel => exact ⟨_, ((a0_0 == 3)), rsd, H', ⟨by have := HJ1.out; first | omega | exact Nat.le_refl _⟩, ⟨by (with_reducible repeat (first | refine blk_drewN ?_ _ | refine blk_drew ?_ | refine blk_alloc ?_ _)); exact BK214.out⟩, ⟨tb HB⟩⟩
   case rest =>
    clear HC12
    obtain ⟨kq, x16_11, rfl, HA, HJ11, BK214, HB⟩ := hcut
    cases kq with
    | zero => exact absurd HA.out (by simp [impl_OpOk.j1])
    | succ kj11 =>
     have H := HA.out
     clear HA
     simp only [impl_OpOk.j1] at H
     cases x16_11
     case true =>
      replace H := ipt H
      obtain ⟨t217, A15, H⟩ := bn H
      try dsimp only at H
      cases t217
      case true =>
       replace H := ipt H
       obtain rfl := oin H
       have hz17 := cs3_ BK214
       go_wp2_with (first | ((with_reducible refine gf 119 rfl ?_); refine gL 21 Try.func119 #[.int .i64 a0_1] ?_; (with_reducible refine (impl_KeyOk.calls a0_1 true _ A15.out).mono ?_); rintro e w' ⟨rfl, ⟨nd, rfl⟩⟩; refine ⟨_, rfl, ?_⟩))
       go_ret
       exact ⟨er, tb HB⟩
      replace H := ipf H
      obtain rfl := oin H
      have hz18 := cs3_ BK214
      go_wp2_with (first | ((with_reducible refine gf 119 rfl ?_); refine gL 21 Try.func119 #[.int .i64 a0_1] ?_; (with_reducible refine (impl_KeyOk.calls a0_1 false _ A15.out).mono ?_); rintro e w' ⟨rfl, ⟨nd, rfl⟩⟩; refine ⟨_, rfl, ?_⟩))
      go_ret
      exact ⟨er, tb HB⟩
     replace H := ipf H
     have HC19 := Aside0.mk H
     clear H
     go_upto_if 27 with (fail)
     go_cut [27] (fun v27 wc => ∃ (kq : Nat) (x27_18 : Bool), v27 = .bool x27_18 ∧ Aside0 (impl_OpOk.j2 kq a0_0 x27_18 a0_0 a0_1 a0_2 = some r) ∧ Aside0 (kq ≤ kj11) ∧ Aside0 (wc.heap[gb214]? = some (.cells #[.int .i64 a0_0, .int .i64 a0_1, .int .i64 a0_2] 68 (0, 0))) ∧ Aside0 (Below w.heap.size w wc))
     case first =>
      have H := HC19.out
      clear HC19
      by_cases c20 : a0_0 = 5
      case neg =>
       rw [if_neg c20] at H
       have c20b0 : (a0_0 == 5) = false := beq_eq_false_iff_ne.mpr c20
       have c20b1 : (a0_0 != 5) = true := bne_iff_ne.mpr c20
       (first | rw [c20b0] | (simp only [i64_w, i32_w]; rw [c20b0]) | skip)
       have H' := Aside0.mk H
       clear H
       go_wp2
       go_meet
       case rel => exact ⟨_, ((a0_0 == 10)), rsd, H', ⟨by have := HJ1.out; have := HJ11.out; first | omega | exact Nat.le_refl _⟩, ⟨by (with_reducible repeat (first | refine blk_drewN ?_ _ | refine blk_drew ?_ | refine blk_alloc ?_ _)); exact BK214.out⟩, ⟨tb HB⟩⟩
      rw [if_pos c20] at H
      have c20b0 : (a0_0 == 5) = true := beq_iff_eq.mpr c20
      have c20b1 : (a0_0 != 5) = false := bne_eq_false_iff_eq.mpr c20
      clear c20
      (first | rw [c20b0] | (simp only [i64_w, i32_w]; rw [c20b0]) | skip)
      have H' := Aside0.mk H
      clear H
      go_wp2
      go_meet
      case rel => exact ⟨_, ((a0_0 == 5)), rsd, H', ⟨by have := HJ1.out; have := HJ11.out; first | omega | exact Nat.le_refl _⟩, ⟨by (with_reducible repeat (first | refine blk_drewN ?_ _ | refine blk_drew ?_ | refine blk_alloc ?_ _)); exact BK214.out⟩, ⟨tb HB⟩⟩
     case rest =>
      clear HC19
      obtain ⟨kq, x27_18, rfl, HA, HJ18, BK214, HB⟩ := hcut
      cases kq with
      | zero => exact absurd HA.out (by simp [impl_OpOk.j2])
      | succ kj18 =>
       have H := HA.out
       clear HA
       simp only [impl_OpOk.j2] at H
       cases x27_18
       case true =>
        replace H := ipt H
        by_cases c22 : a0_1 = 0
        case neg =>
         rw [if_neg c22] at H
         have c22b0 : (a0_1 == 0) = false := beq_eq_false_iff_ne.mpr c22
         have c22b1 : (a0_1 != 0) = true := bne_iff_ne.mpr c22
         obtain rfl := oin H
         have hz25 := cs3_ BK214
         go_wp2
         go_ret
         exact ⟨er, tb HB⟩
        rw [if_pos c22] at H
        have c22b0 : (a0_1 == 0) = true := beq_iff_eq.mpr c22
        have c22b1 : (a0_1 != 0) = false := bne_eq_false_iff_eq.mpr c22
        clear c22
        obtain ⟨t218, A23, H⟩ := bn H
        try dsimp only at H
        obtain rfl := oin H
        have hz24 := cs3_ BK214
        go_wp2_with (first | (go_at_call 120; (with_reducible refine (impl_ValOk.calls a0_2 t218 _ A23.out).mono ?_); rintro e w' ⟨rfl, ⟨nd, rfl⟩⟩))
        go_ret
        exact ⟨er, tb HB⟩
       replace H := ipf H
       by_cases c26 : a0_0 = 6
       case pos =>
        rw [if_pos c26] at H
        have c26b0 : (a0_0 == 6) = true := beq_iff_eq.mpr c26
        have c26b1 : (a0_0 != 6) = false := bne_eq_false_iff_eq.mpr c26
        clear c26
        obtain ⟨t219, A27, H⟩ := bn H
        try dsimp only at H
        cases t219
        case true =>
         replace H := ipt H
         obtain rfl := oin H
         have hz29 := cs3_ BK214
         go_wp2_with (first | ((with_reducible refine gf 121 rfl ?_); refine gL 42 Try.func121 #[.int .i64 a0_1] ?_; (with_reducible refine (impl_isClass.calls a0_1 true _ A27.out).mono ?_); rintro e w' ⟨rfl, ⟨nd, rfl⟩⟩; refine ⟨_, rfl, ?_⟩))
         go_ret
         exact ⟨er, tb HB⟩
        replace H := ipf H
        obtain rfl := oin H
        have hz30 := cs3_ BK214
        go_wp2_with (first | ((with_reducible refine gf 121 rfl ?_); refine gL 42 Try.func121 #[.int .i64 a0_1] ?_; (with_reducible refine (impl_isClass.calls a0_1 false _ A27.out).mono ?_); rintro e w' ⟨rfl, ⟨nd, rfl⟩⟩; refine ⟨_, rfl, ?_⟩))
        go_ret
        exact ⟨er, tb HB⟩
       rw [if_neg c26] at H
       have c26b0 : (a0_0 == 6) = false := beq_eq_false_iff_ne.mpr c26
       have c26b1 : (a0_0 != 6) = true := bne_iff_ne.mpr c26
       by_cases c31 : a0_0 = 7
       case pos =>
        rw [if_pos c31] at H
        have c31b0 : (a0_0 == 7) = true := beq_iff_eq.mpr c31
        have c31b1 : (a0_0 != 7) = false := bne_eq_false_iff_eq.mpr c31
        clear c31
        by_cases c32 : a0_1 = 0
        case neg =>
         rw [if_neg c32] at H
         have c32b0 : (a0_1 == 0) = false := beq_eq_false_iff_ne.mpr c32
         have c32b1 : (a0_1 != 0) = true := bne_iff_ne.mpr c32
         obtain rfl := oin H
         have hz34 := cs3_ BK214
         go_wp2
         go_ret
         exact ⟨er, tb HB⟩
        rw [if_pos c32] at H
        have c32b0 : (a0_1 == 0) = true := beq_iff_eq.mpr c32
        have c32b1 : (a0_1 != 0) = false := bne_eq_false_iff_eq.mpr c32
        clear c32
        obtain rfl := oin H
        have hz33 := cs3_ BK214
        go_wp2
        go_ret
        exact ⟨er, tb HB⟩
       rw [if_neg c31] at H
       have c31b0 : (a0_0 == 7) = false := beq_eq_false_iff_ne.mpr c31
       have c31b1 : (a0_0 != 7) = true := bne_iff_ne.mpr c31
       by_cases c35 : a0_0 = 8
       case pos =>
        rw [if_pos c35] at H
        have c35b0 : (a0_0 == 8) = true := beq_iff_eq.mpr c35
        have c35b1 : (a0_0 != 8) = false := bne_eq_false_iff_eq.mpr c35
        clear c35
        by_cases c36 : a0_1 = 0
        case neg =>
         rw [if_neg c36] at H
         have c36b0 : (a0_1 == 0) = false := beq_eq_false_iff_ne.mpr c36
         have c36b1 : (a0_1 != 0) = true := bne_iff_ne.mpr c36
         obtain rfl := oin H
         have hz38 := cs3_ BK214
         go_wp2
         go_ret
         exact ⟨er, tb HB⟩
        rw [if_pos c36] at H
        have c36b0 : (a0_1 == 0) = true := beq_iff_eq.mpr c36
        have c36b1 : (a0_1 != 0) = false := bne_eq_false_iff_eq.mpr c36
        clear c36
        obtain rfl := oin H
        have hz37 := cs3_ BK214
        go_wp2
        go_ret
        exact ⟨er, tb HB⟩
       rw [if_neg c35] at H
       have c35b0 : (a0_0 == 8) = false := beq_eq_false_iff_ne.mpr c35
       have c35b1 : (a0_0 != 8) = true := bne_iff_ne.mpr c35
       by_cases c39 : a0_0 = 9
       case neg =>
        rw [if_neg c39] at H
        have c39b0 : (a0_0 == 9) = false := beq_eq_false_iff_ne.mpr c39
        have c39b1 : (a0_0 != 9) = true := bne_iff_ne.mpr c39
        obtain rfl := oin H
        go_wp2
        go_ret
        exact ⟨er, tb HB⟩
 
 
       rw [if_pos c39] at H
       have c39b0 : (a0_0 == 9) = true := beq_iff_eq.mpr c39
       have c39b1 : (a0_0 != 9) = false := bne_eq_false_iff_eq.mpr c39
       clear c39
       by_cases c40 : a0_1 = 0
       case neg =>
        rw [if_neg c40] at H
        have c40b0 : (a0_1 == 0) = false := beq_eq_false_iff_ne.mpr c40
        have c40b1 : (a0_1 != 0) = true := bne_iff_ne.mpr c40
        obtain rfl := oin H
        have hz42 := cs3_ BK214
        go_wp2
        go_ret
        exact ⟨er, tb HB⟩
       rw [if_pos c40] at H
       have c40b0 : (a0_1 == 0) = true := beq_iff_eq.mpr c40
       have c40b1 : (a0_1 != 0) = false := bne_eq_false_iff_eq.mpr c40
       clear c40
       obtain rfl := oin H
       have hz41 := cs3_ BK214
       go_wp2
       go_ret
       exact ⟨er, tb HB⟩
def impl_ThreadOk_2.f (a0_0 : Int) (a0_1 : Int) : Option (Bool) := (impl_isPlace.f a0_0).bind fun t225 => (if t225 = true then ((impl_isWordNum.f a0_1).bind fun t226 => (some (!t226))) else (some true))
set_option maxHeartbeats 8000000 in
set_option maxRecDepth 100000 in
theorem impl_ThreadOk_2.calls (a0_0 : Int) (a0_1 : Int) (r : Bool) (w : World) (h : impl_ThreadOk_2.f a0_0 a0_1 = some r) :
  Calls Try.prog 87 #[.agg #[.int .i64 a0_0, .int .i64 a0_1]] w fun e w' => e = .returned (.bool r) ∧ Below w.heap.size w w' := by
 have hu123 := Try.underlying123
 have HB := Aside0.mk (Below.refl w.heap.size w)
 have H := h
 clear h
 unfold impl_ThreadOk_2.f at H
 obtain ⟨t225, A2, H⟩ := bn H
 try dsimp only at H
 cases t225
 case true =>
  replace H := ipt H
  obtain ⟨t226, A4, H⟩ := bn H
  try dsimp only at H
  obtain rfl := oin H
  go_enter Try.func87, Try.ntmps87
  go_wp2_with (first | ((with_reducible refine gq 1 rfl ?_); refine bx0 HB (N := 1) (t := 123) ?_; clear HB; intro gb224 w5 BK224 GE224 HB; have hz6 := cs2_ BK224) | ((with_reducible refine gf 88 rfl ?_); refine gL 5 Try.func88 #[.int .i64 a0_0] ?_; (with_reducible refine (impl_isPlace.calls a0_0 true _ A2.out).mono ?_); rintro e w' ⟨rfl, ⟨nd, rfl⟩⟩; refine ⟨_, rfl, ?_⟩) | (go_at_call 89; (with_reducible refine (impl_isWordNum.calls a0_1 t226 _ A4.out).mono ?_); rintro e w' ⟨rfl, ⟨nd, rfl⟩⟩))
  go_ret
  exact ⟨er, tb HB⟩
 replace H := ipf H
 obtain rfl := oin H
 go_enter Try.func87, Try.ntmps87
 go_wp2_with (first | ((with_reducible refine gq 1 rfl ?_); refine bx0 HB (N := 1) (t := 123) ?_; clear HB; intro gb224 w7 BK224 GE224 HB; have hz8 := cs2_ BK224) | ((with_reducible refine gf 88 rfl ?_); refine gL 5 Try.func88 #[.int .i64 a0_0] ?_; (with_reducible refine (impl_isPlace.calls a0_0 false _ A2.out).mono ?_); rintro e w' ⟨rfl, ⟨nd, rfl⟩⟩; refine ⟨_, rfl, ?_⟩))
 go_ret
 exact ⟨er, tb HB⟩
def impl_DescOk.l0 : Nat → List (S166) → Int → Int → Int → Int → List (S166) → Int → List Int → Option (Bool)
 | 0, _, _, _, _, _, _, _, _ => none
 | k + 1, x31, x32, x33, x1096000, x1096001, x1096002, x1096003, x1096004 => if x33 < x32 then (if 0 ≤ x33 then (if x33 < (x31.length : Int) then ((impl_isPlace.f ((rd_T166 x31 x33).f0)).bind fun t1100 => (if t1100 = true then ((impl_isWordNum.f ((rd_T166 x31 x33).f1)).bind fun t1101 => (if t1101 = true then ((impl_isWordNum.f ((rd_T166 x31 x33).f2)).bind fun t1102 => (if t1102 = true then (if x33 > 0 then (if 0 ≤ (wrap64 (x33 - 1)) then (if (wrap64 (x33 - 1)) < (x1096002.length : Int) then (if ((rd_T166 x1096002 (wrap64 (x33 - 1))).f0) ≥ ((rd_T166 x31 x33).f0) then (some false) else (impl_DescOk.l0 k x31 x32 (wrap64 (x33 + 1)) x1096000 x1096001 x1096002 x1096003 x1096004)) else (none)) else (none)) else (impl_DescOk.l0 k x31 x32 (wrap64 (x33 + 1)) x1096000 x1096001 x1096002 x1096003 x1096004)) else (some false))) else (some false))) else (some false))) else (none)) else (none)) else ((impl_from.f x1096000 1 1000000).bind fun t1096 => (if t1096 = true then ((impl_from.f x1096001 1 3).bind fun t1097 => (if t1097 = true then (some (decide ((x1096002.length : Int) ≤ 20))) else (some false))) else (some false)))
def impl_DescOk.f (k : Nat) (a0_0 : Int) (a0_1 : Int) (l0_2 : List (S166)) (a0_3 : Int) (l0_4 : List Int) : Option (Bool) := if a0_0 = 0 then (if a0_1 = 0 then (if (l0_2.length : Int) = 0 then (if a0_3 = 0 then (some ((l0_4.length : Int) == 0)) else (some false)) else (some false)) else (some false)) else (impl_DescOk.l0 k l0_2 (l0_2.length : Int) 0 a0_0 a0_1 l0_2 a0_3 l0_4)
theorem impl_DescOk.mono_l : ∀ k, (∀ y0 y1 y2 y3 y4 y5 y6 y7, LeO (impl_DescOk.l0 k y0 y1 y2 y3 y4 y5 y6 y7) (impl_DescOk.l0 (k + 1) y0 y1 y2 y3 y4 y5 y6 y7))
 | 0 => fun _ _ _ _ _ _ _ _ r h => by simp [impl_DescOk.l0] at h
 | k + 1 => by
  have ih0 := impl_DescOk.mono_l k
  ·intro y0 y1 y2 y3 y4 y5 y6 y7
   unfold impl_DescOk.l0
   repeat' first
   | (with_reducible exact ih0 _ _ _ _ _ _ _ _)
   | (with_reducible exact LeO.refl _)
   | (with_reducible exact LeO.none _)
   | (with_reducible refine LeO.ite ?_ ?_)
   | (with_reducible refine LeO.bind ?_ (fun _ => ?_))
   | exact ih0 _ _ _ _ _ _ _ _
   | exact LeO.none _
   | refine LeO.ite ?_ ?_
   | refine LeO.bind ?_ (fun _ => ?_)
theorem impl_DescOk.mono : ∀ a0 a1 a2 a3 a4 k, LeO (impl_DescOk.f k a0 a1 a2 a3 a4) (impl_DescOk.f (k + 1) a0 a1 a2 a3 a4) := by
 intro a0 a1 a2 a3 a4 k
 have ih0 := impl_DescOk.mono_l k
 unfold impl_DescOk.f
 repeat' first
   | (with_reducible exact ih0 _ _ _ _ _ _ _ _)
   | (with_reducible exact LeO.refl _)
   | (with_reducible exact LeO.none _)
   | (with_reducible refine LeO.ite ?_ ?_)
   | (with_reducible refine LeO.bind ?_ (fun _ => ?_))
   | exact ih0 _ _ _ _ _ _ _ _
   | exact LeO.none _
   | refine LeO.ite ?_ ?_
   | refine LeO.bind ?_ (fun _ => ?_)
def impl_DescOk.T6 : Bool × List (List Nat × List Nat) := (true, [([], []), ([0], [0]), ([1], [1]), ([2], [2]), ([3, 2], [3]), ([4], [4]), ([5, 4], [4, 5]), ([6, 4, 4], [4, 6]), ([7, 4], [4, 7]), ([4, 8], [4, 8]), ([9, 7], [9]), ([10], [10]), ([11, 10], [10, 11]), ([12, 10, 10], [10, 12]), ([13, 10], [10, 13]), ([10, 14], [10, 14]), ([15, 13], [15]), ([16], [16]), ([17, 16], [16, 17]), ([18, 16, 16], [16, 18]), ([19], [19]), ([20, 19], [19, 20]), ([19], [19]), ([22, 19], [19, 22]), ([21, 23, 19], [19, 21, 23]), ([24, 19], [19, 24]), ([25, 19], [19, 25]), ([19], [19]), ([27, 19], [19, 27]), ([26, 28, 19], [19, 26, 28]), ([19, 29, 16], [16, 19, 29]), ([16, 30], [16, 30])])
def impl_DescOk.B6 : List Nat := [0, 1, 3, 7, 15, 31, 63, 127, 255, 511, 1023, 2047, 4095, 8191, 16383, 32767, 65535, 131071, 262143, 524287, 1048575, 2097151, 1048575, 5242879, 16777215, 33554431, 67108863, 1048575, 135266303, 536870911, 1073741823, 2147483647]
theorem impl_DescOk.tab6 : rtab .any (opsOf Try.f182 6) = impl_DescOk.T6 := by kernel_rfl
theorem impl_DescOk.bits6 : waitsOk impl_DescOk.T6.2 impl_DescOk.B6 = true := by kernel_rfl
set_option maxHeartbeats 8000000 in
set_option maxRecDepth 100000 in
theorem impl_DescOk.calls (k : Nat) (a0_0 : Int) (a0_1 : Int) (A0_2 : Option Addr) (c0_2 : Nat) (l0_2 : List (S166)) (a0_3 : Int) (A0_4 : Option Addr) (c0_4 : Nat) (l0_4 : List Int) (r : Bool) (w : World) (hr0_2 : Kd.C k166 w A0_2 l0_2.length l0_2) (hc0_2 : l0_2.length ≤ c0_2) (hr0_4 : Kd.C (Kd.int .i64) w A0_4 l0_4.length l0_4) (hc0_4 : l0_4.length ≤ c0_4) (h : impl_DescOk.f k a0_0 a0_1 l0_2 a0_3 l0_4 = some r) :
  Calls Try.prog 182 #[.agg #[.int .i64 a0_0, .int .i64 a0_1, .slice A0_2 l0_2.length c0_2, .int .i64 a0_3, .slice A0_4 l0_4.length c0_4]] w fun e w' => e = .returned (.bool r) ∧ Below w.heap.size w w' := by
 have hu145 := Try.underlying145
 have hu166 := Try.underlying166
 have HR0_2 := Aside0.mk hr0_2
 have HC0_2 := Aside0.mk hc0_2
 clear hr0_2 hc0_2
 have HR0_4 := Aside0.mk hr0_4
 have HC0_4 := Aside0.mk hc0_4
 clear hr0_4 hc0_4
 have HB := Aside0.mk (Below.refl w.heap.size w)
 have H := h
 clear h
 unfold impl_DescOk.f at H
 by_cases c2 : a0_0 = 0
 case pos =>
  rw [if_pos c2] at H
  have c2b0 : (a0_0 == 0) = true := beq_iff_eq.mpr c2
  have c2b1 : (a0_0 != 0) = false := bne_eq_false_iff_eq.mpr c2
  clear c2
  by_cases c3 : a0_1 = 0
  case neg =>
   rw [if_neg c3] at H
   have c3b0 : (a0_1 == 0) = false := beq_eq_false_iff_ne.mpr c3
   have c3b1 : (a0_1 != 0) = true := bne_iff_ne.mpr c3
   obtain rfl := oin H
   go_enter Try.func182, Try.ntmps182
   go_wp2_with (first | ((with_reducible refine gq 1 rfl ?_); (try (refine gate_guard (by rfl) ?_; dsimp only)); refine bx0 HB (N := 1) (t := 145) ?_; clear HB; intro gb1095 w12 BK1095 GE1095 HB; have hz13 := cs5_ BK1095))
   go_ret
   exact ⟨er, tb HB⟩
  rw [if_pos c3] at H
  have c3b0 : (a0_1 == 0) = true := beq_iff_eq.mpr c3
  have c3b1 : (a0_1 != 0) = false := bne_eq_false_iff_eq.mpr c3
  clear c3
  by_cases c4 : (l0_2.length : Int) = 0
  case neg =>
   rw [if_neg c4] at H
   have c4b0 : ((l0_2.length : Int) == 0) = false := beq_eq_false_iff_ne.mpr c4
   have c4b1 : ((l0_2.length : Int) != 0) = true := bne_iff_ne.mpr c4
   have c4b2 : ¬ (l0_2 = []) := fun h_ => c4 (by rw [h_]; rfl)
   obtain rfl := oin H
   go_enter Try.func182, Try.ntmps182
   go_wp2_with (first | ((with_reducible refine gq 1 rfl ?_); (try (refine gate_guard (by rfl) ?_; dsimp only)); refine bx0 HB (N := 1) (t := 145) ?_; clear HB; intro gb1095 w10 BK1095 GE1095 HB; have hz11 := cs5_ BK1095))
   go_ret
   exact ⟨er, tb HB⟩
  rw [if_pos c4] at H
  have c4b0 : ((l0_2.length : Int) == 0) = true := beq_iff_eq.mpr c4
  have c4b1 : ((l0_2.length : Int) != 0) = false := bne_eq_false_iff_eq.mpr c4
  clear c4
  by_cases c5 : a0_3 = 0
  case neg =>
   rw [if_neg c5] at H
   have c5b0 : (a0_3 == 0) = false := beq_eq_false_iff_ne.mpr c5
   have c5b1 : (a0_3 != 0) = true := bne_iff_ne.mpr c5
   obtain rfl := oin H
   go_enter Try.func182, Try.ntmps182
   go_wp2_with (first | ((with_reducible refine gq 1 rfl ?_); (try (refine gate_guard (by rfl) ?_; dsimp only)); refine bx0 HB (N := 1) (t := 145) ?_; clear HB; intro gb1095 w8 BK1095 GE1095 HB; have hz9 := cs5_ BK1095))
   go_ret
   exact ⟨er, tb HB⟩
  rw [if_pos c5] at H
  have c5b0 : (a0_3 == 0) = true := beq_iff_eq.mpr c5
  have c5b1 : (a0_3 != 0) = false := bne_eq_false_iff_eq.mpr c5
  clear c5
  obtain rfl := oin H
  go_enter Try.func182, Try.ntmps182
  go_wp2_with (first | ((with_reducible refine gq 1 rfl ?_); (try (refine gate_guard (by rfl) ?_; dsimp only)); refine bx0 HB (N := 1) (t := 145) ?_; clear HB; intro gb1095 w6 BK1095 GE1095 HB; have hz7 := cs5_ BK1095))
  go_ret
  exact ⟨er, tb HB⟩
 rw [if_neg c2] at H
 have c2b0 : (a0_0 == 0) = false := beq_eq_false_iff_ne.mpr c2
 have c2b1 : (a0_0 != 0) = true := bne_iff_ne.mpr c2
 have H' := Aside0.mk H
 clear H
 go_enter Try.func182, Try.ntmps182
 go_wp2_with (first | ((with_reducible refine gq 1 rfl ?_); (try (refine gate_guard (by rfl) ?_; dsimp only)); refine bx0 HB (N := 1) (t := 145) ?_; clear HB; intro gb1095 w14 BK1095 GE1095 HB; have hz15 := cs5_ BK1095))
 go_loopg [33] k (fun kq v33 w' => ∃ (x33_1 : Int), v33 = .int .i64 x33_1 ∧ Aside0 (impl_DescOk.l0 kq l0_2 (l0_2.length : Int) x33_1 a0_0 a0_1 l0_2 a0_3 l0_4 = some r) ∧ Aside0 (kq ≤ k) ∧ Aside0 (w'.heap[gb1095]? = some (.cells #[.int .i64 a0_0, .int .i64 a0_1, (.slice A0_2 l0_2.length c0_2), .int .i64 a0_3, (.slice A0_4 l0_4.length c0_4)] 145 (0, 0))) ∧ Aside0 (Below w.heap.size w w'))
 case atStart => exact ⟨(0), rsd, H', ⟨Nat.le_refl _⟩, ⟨by (with_reducible repeat (first | refine blk_drewN ?_ _ | refine blk_drew ?_ | refine blk_alloc ?_ _)); exact BK1095.out⟩, ⟨tb HB⟩⟩
 case round =>
  clear H'
  obtain ⟨x33_1, rfl, HA, HK1, BK1095, HB⟩ := hrel
  cases gk with
  | zero => exact absurd HA.out (by simp [impl_DescOk.l0])
  | succ k1 =>
   have H := HA.out
   clear HA
   simp only [impl_DescOk.l0] at H
   revert H; refine icd (fun c16b0 H => ?_) fun c16b0 H => ?neg
   case neg =>
    obtain ⟨t1096, A60, H⟩ := bn H
    try dsimp only at H
    cases t1096
    case false =>
     replace H := ipf H
     obtain rfl := oin H
     have hz66 := cs5_ BK1095
     go_wp2_with (first | ((with_reducible refine gf 85 rfl ?_); refine gL 73 Try.func85 #[.int .i64 a0_0, .int .i64 1, .int .i64 1000000] ?_; (with_reducible refine (impl_from.calls a0_0 1 1000000 false _ A60.out).mono ?_); rintro e w' ⟨rfl, ⟨nd, rfl⟩⟩; refine ⟨_, rfl, ?_⟩))
     go_ret
     exact ⟨er, tb HB⟩
    replace H := ipt H
    obtain ⟨t1097, A62, H⟩ := bn H
    try dsimp only at H
    cases t1097
    case true =>
     replace H := ipt H
     obtain rfl := oin H
     have hz64 := cs5_ BK1095
     go_wp2_with (first | ((with_reducible refine gf 85 rfl ?_); refine gL 73 Try.func85 #[.int .i64 a0_0, .int .i64 1, .int .i64 1000000] ?_; (with_reducible refine (impl_from.calls a0_0 1 1000000 true _ A60.out).mono ?_); rintro e w' ⟨rfl, ⟨nd, rfl⟩⟩; refine ⟨_, rfl, ?_⟩) | (go_at_call 85; (with_reducible refine (impl_from.calls a0_1 1 3 true _ A62.out).mono ?_); rintro e w' ⟨rfl, ⟨nd, rfl⟩⟩))
     go_ret
     exact ⟨er, tb HB⟩
    replace H := ipf H
    obtain rfl := oin H
    have hz65 := cs5_ BK1095
    go_wp2_with (first | ((with_reducible refine gf 85 rfl ?_); refine gL 73 Try.func85 #[.int .i64 a0_0, .int .i64 1, .int .i64 1000000] ?_; (with_reducible refine (impl_from.calls a0_0 1 1000000 true _ A60.out).mono ?_); rintro e w' ⟨rfl, ⟨nd, rfl⟩⟩; refine ⟨_, rfl, ?_⟩) | (go_at_call 85; (with_reducible refine (impl_from.calls a0_1 1 3 false _ A62.out).mono ?_); rintro e w' ⟨rfl, ⟨nd, rfl⟩⟩))
    go_ret
    exact ⟨er, tb HB⟩
   obtain ⟨c17b0, H⟩ := itd H
   obtain ⟨c18b0, H⟩ := itd H
   obtain ⟨t1100, A19, H⟩ := bn H
   try dsimp only at H
   cases t1100
   case false =>
    replace H := ipf H
    obtain rfl := oin H
    have p1098 : 0 ≤ (x33_1 : Int) := od
    have q1098 : x33_1 < (l0_2.length : Int) := od
    obtain ⟨ad1098, e1098, hx1098⟩ := att166 HR0_2.out x33_1 p1098 q1098
    cases e1098
    replace hx1098 := ox3 HB hx1098
    replace p1098 := eq_true p1098
    replace q1098 := eq_true q1098
    try go_wp2_with (first | ((with_reducible refine gq 4 rfl ?_); (try (refine gate_guard (by rfl) ?_; dsimp only)); refine bx1 HB BK1095 (N := 4) (cs := #[.int .i64 0, .int .i64 0, .int .i64 0]) (t := 166) ?_; clear HB BK1095; intro gb1099 w55 BK1099 GE1099 HB NB1095_1099 NB1099_1095 BK1095; have hnb56 := NB1099_1095.out; have hnc56 := NB1095_1099.out; have hz57 := cs3_ BK1099))
    have n0_ : Aside0 ((((w55.setCell ⟨gb1099, 0, none⟩ (.int .i64 ((rd_T166 l0_2 x33_1).f0))).setCell ⟨gb1099, 1, none⟩ (.int .i64 ((rd_T166 l0_2 x33_1).f1))).setCell ⟨gb1099, 2, none⟩ (.int .i64 ((rd_T166 l0_2 x33_1).f2))).heap[gb1095]? = some (.cells #[.int .i64 a0_0, .int .i64 a0_1, .slice (some ad1098) l0_2.length c0_2, .int .i64 a0_3, .slice A0_4 l0_4.length c0_4] 145 (0, 0))) := ⟨bf BK1095⟩
    have n1_ : Aside0 ((((w55.setCell ⟨gb1099, 0, none⟩ (.int .i64 ((rd_T166 l0_2 x33_1).f0))).setCell ⟨gb1099, 1, none⟩ (.int .i64 ((rd_T166 l0_2 x33_1).f1))).setCell ⟨gb1099, 2, none⟩ (.int .i64 ((rd_T166 l0_2 x33_1).f2))).heap[gb1099]? = some (.cells #[.int .i64 ((rd_T166 l0_2 x33_1).f0), .int .i64 ((rd_T166 l0_2 x33_1).f1), .int .i64 ((rd_T166 l0_2 x33_1).f2)] 166 (0, 0))) := ⟨bfp3 BK1099⟩
    have n2_ : Aside0 (Below w.heap.size w (((w55.setCell ⟨gb1099, 0, none⟩ (.int .i64 ((rd_T166 l0_2 x33_1).f0))).setCell ⟨gb1099, 1, none⟩ (.int .i64 ((rd_T166 l0_2 x33_1).f1))).setCell ⟨gb1099, 2, none⟩ (.int .i64 ((rd_T166 l0_2 x33_1).f2)))) := ⟨tb HB⟩
    (try clear BK1095)
    (try clear BK1099)
    (try clear HB)
    generalize (((w55.setCell ⟨gb1099, 0, none⟩ (.int .i64 ((rd_T166 l0_2 x33_1).f0))).setCell ⟨gb1099, 1, none⟩ (.int .i64 ((rd_T166 l0_2 x33_1).f1))).setCell ⟨gb1099, 2, none⟩ (.int .i64 ((rd_T166 l0_2 x33_1).f2))) = w58 at n0_ n1_ n2_ ⊢
    have BK1095 := n0_
    have BK1099 := n1_
    have HB := n2_
    clear n0_ n1_ n2_
    replace BK1095 := bd BK1095
    replace BK1099 := bd BK1099
    replace HB := Aside0.mk (below_drew1 HB.out)
    refine start_ (n := 32) (S := fun w' => cS3 gb1099 (.int .i64 ((rd_T166 l0_2 x33_1).f0)) (.int .i64 ((rd_T166 l0_2 x33_1).f1)) (.int .i64 ((rd_T166 l0_2 x33_1).f2)) w') (ds := []) #[false, false, false, false, false, false, false, false, false, false, false, false, false, false, false, false, false, false, false, false, false, false, false, false, false, false, false, false, false, false, false, false] (by kernel_rfl) rfl rfl (ds3_ BK1099) (fun hHeld => ?_); refine with_tabW impl_DescOk.tab6 impl_DescOk.bits6 (fun HT_ HW_ => ?_)
    generalize w58.drew = w59 at BK1095 BK1099 HB hHeld ⊢
    refine pu 0 38 ?_; refine ta 1 39 ?_
    refine on1 2 (some 40) (fun K hK => ?_)
    refine gS Try.func88 #[.int .i64 ((rd_T166 l0_2 x33_1).f0)] ?_
    with_reducible refine (impl_isPlace.calls ((rd_T166 l0_2 x33_1).f0) false _ A19.out).mono ?_
    rintro e w' ⟨rfl, ⟨nd, rfl⟩⟩
    refine ⟨_, rfl, ?_⟩
    refine hK.out _ _ (ds3_ BK1099) (fun hHeld => ?_)
    clear hK K
    refine nm 40 ?_
    refine pu 3 41 ?_; refine pu 4 42 ?_; refine pn 5 43 ?_; refine pn 6 44 ?_; refine pn 7 45 ?_; refine pn 8 46 ?_; refine pu 9 47 ?_; refine pu 10 48 ?_; refine pn 11 49 ?_; refine pn 12 50 ?_; refine pn 13 51 ?_; refine pn 14 52 ?_
    refine pu 15 53 ?_; refine pu 16 54 ?_; refine pn 17 55 ?_; refine pn 18 56 ?_; refine pn 19 57 ?_; refine pn 20 58 ?_; refine pn 21 59 ?_; refine pn 22 60 ?_; refine pn 23 61 ?_; refine pn 24 62 ?_; refine pn 25 63 ?_; refine pn 26 64 ?_
    refine pn 27 65 ?_; refine pn 28 66 ?_; refine pn 29 67 ?_; refine pn 30 68 ?_; refine pu 31 69 ?_
    refine done_ (done_of HT_.out (by kernel_rfl)) ?_
    try go_wp2
    go_ret
    exact ⟨er, tb HB⟩
   replace H := ipt H
   obtain ⟨t1101, A21, H⟩ := bn H
   try dsimp only at H
   cases t1101
   case false =>
    replace H := ipf H
    obtain rfl := oin H
    have p1098 : 0 ≤ (x33_1 : Int) := od
    have q1098 : x33_1 < (l0_2.length : Int) := od
    obtain ⟨ad1098, e1098, hx1098_0, hx1098_1, hx1098_2⟩ := at_T166 HR0_2.out x33_1 p1098 q1098
    cases e1098
    replace hx1098_0 := ox HB hx1098_0
    replace hx1098_1 := ox HB hx1098_1
    replace hx1098_2 := ox HB hx1098_2
    replace p1098 := eq_true p1098
    replace q1098 := eq_true q1098
    try go_wp2_with (first | ((with_reducible refine gq 4 rfl ?_); (try (refine gate_guard (by rfl) ?_; dsimp only)); refine bx1 HB BK1095 (N := 4) (cs := #[.int .i64 0, .int .i64 0, .int .i64 0]) (t := 166) ?_; clear HB BK1095; intro gb1099 w50 BK1099 GE1099 HB NB1095_1099 NB1099_1095 BK1095; have hnb51 := NB1099_1095.out; have hnc51 := NB1095_1099.out; have hz52 := cs3_ BK1099))
    have n0_ : Aside0 ((((w50.setCell ⟨gb1099, 0, none⟩ (.int .i64 ((rd_T166 l0_2 x33_1).f0))).setCell ⟨gb1099, 1, none⟩ (.int .i64 ((rd_T166 l0_2 x33_1).f1))).setCell ⟨gb1099, 2, none⟩ (.int .i64 ((rd_T166 l0_2 x33_1).f2))).heap[gb1095]? = some (.cells #[.int .i64 a0_0, .int .i64 a0_1, .slice (some ad1098) l0_2.length c0_2, .int .i64 a0_3, .slice A0_4 l0_4.length c0_4] 145 (0, 0))) := ⟨bf BK1095⟩
    have n1_ : Aside0 ((((w50.setCell ⟨gb1099, 0, none⟩ (.int .i64 ((rd_T166 l0_2 x33_1).f0))).setCell ⟨gb1099, 1, none⟩ (.int .i64 ((rd_T166 l0_2 x33_1).f1))).setCell ⟨gb1099, 2, none⟩ (.int .i64 ((rd_T166 l0_2 x33_1).f2))).heap[gb1099]? = some (.cells #[.int .i64 ((rd_T166 l0_2 x33_1).f0), .int .i64 ((rd_T166 l0_2 x33_1).f1), .int .i64 ((rd_T166 l0_2 x33_1).f2)] 166 (0, 0))) := ⟨bfp3 BK1099⟩
    have n2_ : Aside0 (Below w.heap.size w (((w50.setCell ⟨gb1099, 0, none⟩ (.int .i64 ((rd_T166 l0_2 x33_1).f0))).setCell ⟨gb1099, 1, none⟩ (.int .i64 ((rd_T166 l0_2 x33_1).f1))).setCell ⟨gb1099, 2, none⟩ (.int .i64 ((rd_T166 l0_2 x33_1).f2)))) := ⟨tb HB⟩
    (try clear BK1095)
    (try clear BK1099)
    (try clear HB)
    generalize (((w50.setCell ⟨gb1099, 0, none⟩ (.int .i64 ((rd_T166 l0_2 x33_1).f0))).setCell ⟨gb1099, 1, none⟩ (.int .i64 ((rd_T166 l0_2 x33_1).f1))).setCell ⟨gb1099, 2, none⟩ (.int .i64 ((rd_T166 l0_2 x33_1).f2))) = w53 at n0_ n1_ n2_ ⊢
    have BK1095 := n0_
    have BK1099 := n1_
    have HB := n2_
    clear n0_ n1_ n2_
    replace BK1095 := bd BK1095
    replace BK1099 := bd BK1099
    replace HB := Aside0.mk (below_drew1 HB.out)
    refine start_ (n := 32) (S := fun w' => cS3 gb1099 (.int .i64 ((rd_T166 l0_2 x33_1).f0)) (.int .i64 ((rd_T166 l0_2 x33_1).f1)) (.int .i64 ((rd_T166 l0_2 x33_1).f2)) w') (ds := []) #[false, false, false, false, false, false, false, false, false, false, false, false, false, false, false, false, false, false, false, false, false, false, false, false, false, false, false, false, false, false, false, false] (by kernel_rfl) rfl rfl (ds3_ BK1099) (fun hHeld => ?_); refine with_tabW impl_DescOk.tab6 impl_DescOk.bits6 (fun HT_ HW_ => ?_)
    generalize w53.drew = w54 at BK1095 BK1099 HB hHeld ⊢
    refine pu 0 38 ?_; refine ta 1 39 ?_
    refine on1 2 (some 40) (fun K hK => ?_)
    refine gS Try.func88 #[.int .i64 ((rd_T166 l0_2 x33_1).f0)] ?_
    with_reducible refine (impl_isPlace.calls ((rd_T166 l0_2 x33_1).f0) true _ A19.out).mono ?_
    rintro e w' ⟨rfl, ⟨nd, rfl⟩⟩
    refine ⟨_, rfl, ?_⟩
    refine hK.out _ _ (ds3_ BK1099) (fun hHeld => ?_)
    clear hK K
    refine nm 40 ?_
    refine pu 3 41 ?_; refine pu 4 42 ?_; refine pu 5 43 ?_; refine ta 6 44 ?_
    refine on1 7 (some 45) (fun K hK => ?_)
    refine gS Try.func89 #[.int .i64 ((rd_T166 l0_2 x33_1).f1)] ?_
    with_reducible refine (impl_isWordNum.calls ((rd_T166 l0_2 x33_1).f1) false _ A21.out).mono ?_
    rintro e w' ⟨rfl, ⟨nd, rfl⟩⟩
    refine ⟨_, rfl, ?_⟩
    refine hK.out _ _ (ds3_ BK1099) (fun hHeld => ?_)
    clear hK K
    refine nm 45 ?_
    refine pu 8 46 ?_; refine pu 9 47 ?_; refine pu 10 48 ?_; refine pn 11 49 ?_; refine pn 12 50 ?_; refine pn 13 51 ?_; refine pn 14 52 ?_; refine pu 15 53 ?_; refine pu 16 54 ?_; refine pn 17 55 ?_; refine pn 18 56 ?_; refine pn 19 57 ?_
    refine pn 20 58 ?_; refine pn 21 59 ?_; refine pn 22 60 ?_; refine pn 23 61 ?_; refine pn 24 62 ?_; refine pn 25 63 ?_; refine pn 26 64 ?_; refine pn 27 65 ?_; refine pn 28 66 ?_; refine pn 29 67 ?_; refine pn 30 68 ?_; refine pu 31 69 ?_
    refine done_ (done_of HT_.out (by kernel_rfl)) ?_
    try go_wp2
    go_ret
    exact ⟨er, tb HB⟩
   replace H := ipt H
   obtain ⟨t1102, A23, H⟩ := bn H
   try dsimp only at H
   cases t1102
   case false =>
    replace H := ipf H
    obtain rfl := oin H
    have p1098 : 0 ≤ (x33_1 : Int) := od
    have q1098 : x33_1 < (l0_2.length : Int) := od
    obtain ⟨ad1098, e1098, hx1098_0, hx1098_1, hx1098_2⟩ := at_T166 HR0_2.out x33_1 p1098 q1098
    cases e1098
    replace hx1098_0 := ox HB hx1098_0
    replace hx1098_1 := ox HB hx1098_1
    replace hx1098_2 := ox HB hx1098_2
    replace p1098 := eq_true p1098
    replace q1098 := eq_true q1098
    try go_wp2_with (first | ((with_reducible refine gq 4 rfl ?_); (try (refine gate_guard (by rfl) ?_; dsimp only)); refine bx1 HB BK1095 (N := 4) (cs := #[.int .i64 0, .int .i64 0, .int .i64 0]) (t := 166) ?_; clear HB BK1095; intro gb1099 w45 BK1099 GE1099 HB NB1095_1099 NB1099_1095 BK1095; have hnb46 := NB1099_1095.out; have hnc46 := NB1095_1099.out; have hz47 := cs3_ BK1099))
    have n0_ : Aside0 ((((w45.setCell ⟨gb1099, 0, none⟩ (.int .i64 ((rd_T166 l0_2 x33_1).f0))).setCell ⟨gb1099, 1, none⟩ (.int .i64 ((rd_T166 l0_2 x33_1).f1))).setCell ⟨gb1099, 2, none⟩ (.int .i64 ((rd_T166 l0_2 x33_1).f2))).heap[gb1095]? = some (.cells #[.int .i64 a0_0, .int .i64 a0_1, .slice (some ad1098) l0_2.length c0_2, .int .i64 a0_3, .slice A0_4 l0_4.length c0_4] 145 (0, 0))) := ⟨bf BK1095⟩
    have n1_ : Aside0 ((((w45.setCell ⟨gb1099, 0, none⟩ (.int .i64 ((rd_T166 l0_2 x33_1).f0))).setCell ⟨gb1099, 1, none⟩ (.int .i64 ((rd_T166 l0_2 x33_1).f1))).setCell ⟨gb1099, 2, none⟩ (.int .i64 ((rd_T166 l0_2 x33_1).f2))).heap[gb1099]? = some (.cells #[.int .i64 ((rd_T166 l0_2 x33_1).f0), .int .i64 ((rd_T166 l0_2 x33_1).f1), .int .i64 ((rd_T166 l0_2 x33_1).f2)] 166 (0, 0))) := ⟨bfp3 BK1099⟩
    have n2_ : Aside0 (Below w.heap.size w (((w45.setCell ⟨gb1099, 0, none⟩ (.int .i64 ((rd_T166 l0_2 x33_1).f0))).setCell ⟨gb1099, 1, none⟩ (.int .i64 ((rd_T166 l0_2 x33_1).f1))).setCell ⟨gb1099, 2, none⟩ (.int .i64 ((rd_T166 l0_2 x33_1).f2)))) := ⟨tb HB⟩
    (try clear BK1095)
    (try clear BK1099)
    (try clear HB)
    generalize (((w45.setCell ⟨gb1099, 0, none⟩ (.int .i64 ((rd_T166 l0_2 x33_1).f0))).setCell ⟨gb1099, 1, none⟩ (.int .i64 ((rd_T166 l0_2 x33_1).f1))).setCell ⟨gb1099, 2, none⟩ (.int .i64 ((rd_T166 l0_2 x33_1).f2))) = w48 at n0_ n1_ n2_ ⊢
    have BK1095 := n0_
    have BK1099 := n1_
    have HB := n2_
    clear n0_ n1_ n2_
    replace BK1095 := bd BK1095
    replace BK1099 := bd BK1099
    replace HB := Aside0.mk (below_drew1 HB.out)
    refine start_ (n := 32) (S := fun w' => cS3 gb1099 (.int .i64 ((rd_T166 l0_2 x33_1).f0)) (.int .i64 ((rd_T166 l0_2 x33_1).f1)) (.int .i64 ((rd_T166 l0_2 x33_1).f2)) w') (ds := []) #[false, false, false, false, false, false, false, false, false, false, false, false, false, false, false, false, false, false, false, false, false, false, false, false, false, false, false, false, false, false, false, false] (by kernel_rfl) rfl rfl (ds3_ BK1099) (fun hHeld => ?_); refine with_tabW impl_DescOk.tab6 impl_DescOk.bits6 (fun HT_ HW_ => ?_)
    generalize w48.drew = w49 at BK1095 BK1099 HB hHeld ⊢
    refine pu 0 38 ?_; refine ta 1 39 ?_
    refine on1 2 (some 40) (fun K hK => ?_)
    refine gS Try.func88 #[.int .i64 ((rd_T166 l0_2 x33_1).f0)] ?_
    with_reducible refine (impl_isPlace.calls ((rd_T166 l0_2 x33_1).f0) true _ A19.out).mono ?_
    rintro e w' ⟨rfl, ⟨nd, rfl⟩⟩
    refine ⟨_, rfl, ?_⟩
    refine hK.out _ _ (ds3_ BK1099) (fun hHeld => ?_)
    clear hK K
    refine nm 40 ?_
    refine pu 3 41 ?_; refine pu 4 42 ?_; refine pu 5 43 ?_; refine ta 6 44 ?_
    refine on1 7 (some 45) (fun K hK => ?_)
    refine gS Try.func89 #[.int .i64 ((rd_T166 l0_2 x33_1).f1)] ?_
    with_reducible refine (impl_isWordNum.calls ((rd_T166 l0_2 x33_1).f1) true _ A21.out).mono ?_
    rintro e w' ⟨rfl, ⟨nd, rfl⟩⟩
    refine ⟨_, rfl, ?_⟩
    refine hK.out _ _ (ds3_ BK1099) (fun hHeld => ?_)
    clear hK K
    refine nm 45 ?_
    refine pu 8 46 ?_; refine pu 9 47 ?_; refine pu 10 48 ?_; refine pu 11 49 ?_; refine ta 12 50 ?_
    refine on1 13 (some 51) (fun K hK => ?_)
    refine gS Try.func89 #[.int .i64 ((rd_T166 l0_2 x33_1).f2)] ?_
    with_reducible refine (impl_isWordNum.calls ((rd_T166 l0_2 x33_1).f2) false _ A23.out).mono ?_
    rintro e w' ⟨rfl, ⟨nd, rfl⟩⟩
    refine ⟨_, rfl, ?_⟩
    refine hK.out _ _ (ds3_ BK1099) (fun hHeld => ?_)
    clear hK K
    refine nm 51 ?_
    refine pu 14 52 ?_; refine pu 15 53 ?_; refine pu 16 54 ?_; refine pn 17 55 ?_; refine pn 18 56 ?_; refine pn 19 57 ?_; refine pn 20 58 ?_; refine pn 21 59 ?_; refine pn 22 60 ?_; refine pn 23 61 ?_; refine pn 24 62 ?_; refine pn 25 63 ?_
    refine pn 26 64 ?_; refine pn 27 65 ?_; refine pn 28 66 ?_; refine pn 29 67 ?_; refine pn 30 68 ?_; refine pu 31 69 ?_
    refine done_ (done_of HT_.out (by kernel_rfl)) ?_
    try go_wp2
    go_ret
    exact ⟨er, tb HB⟩
   replace H := ipt H
   revert H; refine icd (fun c25b0 H => ?_) fun c25b0 H => ?neg
   case neg =>
    have H' := Aside0.mk H
    clear H
    have p1098 : 0 ≤ (x33_1 : Int) := od
    have q1098 : x33_1 < (l0_2.length : Int) := od
    obtain ⟨ad1098, e1098, hx1098_0, hx1098_1, hx1098_2⟩ := at_T166 HR0_2.out x33_1 p1098 q1098
    cases e1098
    replace hx1098_0 := ox HB hx1098_0
    replace hx1098_1 := ox HB hx1098_1
    replace hx1098_2 := ox HB hx1098_2
    replace p1098 := eq_true p1098
    replace q1098 := eq_true q1098
    try go_wp2_with (first | ((with_reducible refine gq 4 rfl ?_); (try (refine gate_guard (by rfl) ?_; dsimp only)); refine bx1 HB BK1095 (N := 4) (cs := #[.int .i64 0, .int .i64 0, .int .i64 0]) (t := 166) ?_; clear HB BK1095; intro gb1099 w40 BK1099 GE1099 HB NB1095_1099 NB1099_1095 BK1095; have hnb41 := NB1099_1095.out; have hnc41 := NB1095_1099.out; have hz42 := cs3_ BK1099))
    have n0_ : Aside0 ((((w40.setCell ⟨gb1099, 0, none⟩ (.int .i64 ((rd_T166 l0_2 x33_1).f0))).setCell ⟨gb1099, 1, none⟩ (.int .i64 ((rd_T166 l0_2 x33_1).f1))).setCell ⟨gb1099, 2, none⟩ (.int .i64 ((rd_T166 l0_2 x33_1).f2))).heap[gb1095]? = some (.cells #[.int .i64 a0_0, .int .i64 a0_1, .slice (some ad1098) l0_2.length c0_2, .int .i64 a0_3, .slice A0_4 l0_4.length c0_4] 145 (0, 0))) := ⟨bf BK1095⟩
    have n1_ : Aside0 ((((w40.setCell ⟨gb1099, 0, none⟩ (.int .i64 ((rd_T166 l0_2 x33_1).f0))).setCell ⟨gb1099, 1, none⟩ (.int .i64 ((rd_T166 l0_2 x33_1).f1))).setCell ⟨gb1099, 2, none⟩ (.int .i64 ((rd_T166 l0_2 x33_1).f2))).heap[gb1099]? = some (.cells #[.int .i64 ((rd_T166 l0_2 x33_1).f0), .int .i64 ((rd_T166 l0_2 x33_1).f1), .int .i64 ((rd_T166 l0_2 x33_1).f2)] 166 (0, 0))) := ⟨bfp3 BK1099⟩
    have n2_ : Aside0 (Below w.heap.size w (((w40.setCell ⟨gb1099, 0, none⟩ (.int .i64 ((rd_T166 l0_2 x33_1).f0))).setCell ⟨gb1099, 1, none⟩ (.int .i64 ((rd_T166 l0_2 x33_1).f1))).setCell ⟨gb1099, 2, none⟩ (.int .i64 ((rd_T166 l0_2 x33_1).f2)))) := ⟨tb HB⟩
    (try clear BK1095)
    (try clear BK1099)
    (try clear HB)
    generalize (((w40.setCell ⟨gb1099, 0, none⟩ (.int .i64 ((rd_T166 l0_2 x33_1).f0))).setCell ⟨gb1099, 1, none⟩ (.int .i64 ((rd_T166 l0_2 x33_1).f1))).setCell ⟨gb1099, 2, none⟩ (.int .i64 ((rd_T166 l0_2 x33_1).f2))) = w43 at n0_ n1_ n2_ ⊢
    have BK1095 := n0_
    have BK1099 := n1_
    have HB := n2_
    clear n0_ n1_ n2_
    replace BK1095 := bd BK1095
    replace BK1099 := bd BK1099
    replace HB := Aside0.mk (below_drew1 HB.out)
    refine start_ (n := 32) (S := fun w' => cS3 gb1099 (.int .i64 ((rd_T166 l0_2 x33_1).f0)) (.int .i64 ((rd_T166 l0_2 x33_1).f1)) (.int .i64 ((rd_T166 l0_2 x33_1).f2)) w') (ds := []) #[false, false, false, false, false, false, false, false, false, false, false, false, false, false, false, false, false, false, false, false, false, false, false, false, false, false, false, false, false, false, false, false] (by kernel_rfl) rfl rfl (ds3_ BK1099) (fun hHeld => ?_); refine with_tabW impl_DescOk.tab6 impl_DescOk.bits6 (fun HT_ HW_ => ?_)
    generalize w43.drew = w44 at BK1095 BK1099 HB hHeld ⊢
    refine pu 0 38 ?_; refine ta 1 39 ?_
    refine on1 2 (some 40) (fun K hK => ?_)
    refine gS Try.func88 #[.int .i64 ((rd_T166 l0_2 x33_1).f0)] ?_
    with_reducible refine (impl_isPlace.calls ((rd_T166 l0_2 x33_1).f0) true _ A19.out).mono ?_
    rintro e w' ⟨rfl, ⟨nd, rfl⟩⟩
    refine ⟨_, rfl, ?_⟩
    refine hK.out _ _ (ds3_ BK1099) (fun hHeld => ?_)
    clear hK K
    refine nm 40 ?_
    refine pu 3 41 ?_; refine pu 4 42 ?_; refine pu 5 43 ?_; refine ta 6 44 ?_
    refine on1 7 (some 45) (fun K hK => ?_)
    refine gS Try.func89 #[.int .i64 ((rd_T166 l0_2 x33_1).f1)] ?_
    with_reducible refine (impl_isWordNum.calls ((rd_T166 l0_2 x33_1).f1) true _ A21.out).mono ?_
    rintro e w' ⟨rfl, ⟨nd, rfl⟩⟩
    refine ⟨_, rfl, ?_⟩
    refine hK.out _ _ (ds3_ BK1099) (fun hHeld => ?_)
    clear hK K
    refine nm 45 ?_
    refine pu 8 46 ?_; refine pu 9 47 ?_; refine pu 10 48 ?_; refine pu 11 49 ?_; refine ta 12 50 ?_
    refine on1 13 (some 51) (fun K hK => ?_)
    refine gS Try.func89 #[.int .i64 ((rd_T166 l0_2 x33_1).f2)] ?_
    with_reducible refine (impl_isWordNum.calls ((rd_T166 l0_2 x33_1).f2) true _ A23.out).mono ?_
    rintro e w' ⟨rfl, ⟨nd, rfl⟩⟩
    refine ⟨_, rfl, ?_⟩
    refine hK.out _ _ (ds3_ BK1099) (fun hHeld => ?_)
    clear hK K
    refine nm 51 ?_
    refine pu 14 52 ?_; refine pu 15 53 ?_; refine pu 16 54 ?_; refine pu 17 55 ?_; refine pu 18 56 ?_; refine pu 19 57 ?_; refine pn 20 58 ?_; refine pn 21 59 ?_; refine pn 22 60 ?_; refine pn 23 61 ?_; refine pn 24 62 ?_; refine pn 25 63 ?_
    refine pn 26 64 ?_; refine pn 27 65 ?_; refine pn 28 66 ?_; refine pn 29 67 ?_; refine pu 30 68 ?_; refine pu 31 69 ?_
    refine done_ (done_of HT_.out (by kernel_rfl)) ?_
    try go_wp2
    go_roundg k1
    case measure => have := HK1.out; omega
    case rel => exact ⟨(wrap64 (x33_1 + 1)), rsd, H', ⟨by have := HK1.out; omega⟩, ⟨by (with_reducible repeat (first | refine blk_drewN ?_ _ | refine blk_drew ?_ | refine blk_alloc ?_ _)); exact BK1095.out⟩, ⟨tb HB⟩⟩
   obtain ⟨ji26, hji26⟩ : ∃ j_ : Int, (wrap64 (x33_1 - 1)) = j_ := ⟨_, rfl⟩
   replace H : (if 0 ≤ (ji26) then (if (ji26) < (l0_2.length : Int) then (if ((rd_T166 l0_2 (ji26)).f0) ≥ ((rd_T166 l0_2 x33_1).f0) then (some false) else (impl_DescOk.l0 k1 l0_2 (l0_2.length : Int) (wrap64 (x33_1 + 1)) a0_0 a0_1 l0_2 a0_3 l0_4)) else (none)) else (none)) = some r := by first | (rw [hji26] at H; exact H) | (simp only [hji26] at H ⊢; exact H)
   (try rw [hji26] at A19)
   (try rw [hji26] at A21)
   (try rw [hji26] at A23)
   have hji26w : (IntKind.i64.wrap (x33_1 - 1)) = ji26 := (i64_w _).trans hji26
   obtain ⟨c27b0, H⟩ := itd H
   obtain ⟨c28b0, H⟩ := itd H
   revert H; refine icd (fun c29b0 H => ?pos) fun c29b0 H => ?_
   case pos =>
    obtain rfl := oin H
    have p1098 : 0 ≤ (x33_1 : Int) := od
    have q1098 : x33_1 < (l0_2.length : Int) := od
    obtain ⟨ad1098, e1098, hx1098_0, hx1098_1, hx1098_2⟩ := at_T166 HR0_2.out x33_1 p1098 q1098
    cases e1098
    replace hx1098_0 := ox HB hx1098_0
    replace hx1098_1 := ox HB hx1098_1
    replace hx1098_2 := ox HB hx1098_2
    replace p1098 := eq_true p1098
    replace q1098 := eq_true q1098
    try go_wp2_with (first | ((with_reducible refine gq 4 rfl ?_); (try (refine gate_guard (by rfl) ?_; dsimp only)); refine bx1 HB BK1095 (N := 4) (cs := #[.int .i64 0, .int .i64 0, .int .i64 0]) (t := 166) ?_; clear HB BK1095; intro gb1099 w30 BK1099 GE1099 HB NB1095_1099 NB1099_1095 BK1095; have hnb31 := NB1099_1095.out; have hnc31 := NB1095_1099.out; have hz32 := cs3_ BK1099))
    have n0_ : Aside0 ((((w30.setCell ⟨gb1099, 0, none⟩ (.int .i64 ((rd_T166 l0_2 x33_1).f0))).setCell ⟨gb1099, 1, none⟩ (.int .i64 ((rd_T166 l0_2 x33_1).f1))).setCell ⟨gb1099, 2, none⟩ (.int .i64 ((rd_T166 l0_2 x33_1).f2))).heap[gb1095]? = some (.cells #[.int .i64 a0_0, .int .i64 a0_1, .slice (some ad1098) l0_2.length c0_2, .int .i64 a0_3, .slice A0_4 l0_4.length c0_4] 145 (0, 0))) := ⟨bf BK1095⟩
    have n1_ : Aside0 ((((w30.setCell ⟨gb1099, 0, none⟩ (.int .i64 ((rd_T166 l0_2 x33_1).f0))).setCell ⟨gb1099, 1, none⟩ (.int .i64 ((rd_T166 l0_2 x33_1).f1))).setCell ⟨gb1099, 2, none⟩ (.int .i64 ((rd_T166 l0_2 x33_1).f2))).heap[gb1099]? = some (.cells #[.int .i64 ((rd_T166 l0_2 x33_1).f0), .int .i64 ((rd_T166 l0_2 x33_1).f1), .int .i64 ((rd_T166 l0_2 x33_1).f2)] 166 (0, 0))) := ⟨bfp3 BK1099⟩
    have n2_ : Aside0 (Below w.heap.size w (((w30.setCell ⟨gb1099, 0, none⟩ (.int .i64 ((rd_T166 l0_2 x33_1).f0))).setCell ⟨gb1099, 1, none⟩ (.int .i64 ((rd_T166 l0_2 x33_1).f1))).setCell ⟨gb1099, 2, none⟩ (.int .i64 ((rd_T166 l0_2 x33_1).f2)))) := ⟨tb HB⟩
    (try clear BK1095)
    (try clear BK1099)
    (try clear HB)
    generalize (((w30.setCell ⟨gb1099, 0, none⟩ (.int .i64 ((rd_T166 l0_2 x33_1).f0))).setCell ⟨gb1099, 1, none⟩ (.int .i64 ((rd_T166 l0_2 x33_1).f1))).setCell ⟨gb1099, 2, none⟩ (.int .i64 ((rd_T166 l0_2 x33_1).f2))) = w33 at n0_ n1_ n2_ ⊢
    have BK1095 := n0_
    have BK1099 := n1_
    have HB := n2_
    clear n0_ n1_ n2_
    replace BK1095 := bd BK1095
    replace BK1099 := bd BK1099
    replace HB := Aside0.mk (below_drew1 HB.out)
    have p1103 : 0 ≤ ((ji26) : Int) := od
    have q1103 : (ji26) < (l0_2.length : Int) := od
    obtain ⟨ad1103, e1103, hx1103⟩ := att166 HR0_2.out (ji26) p1103 q1103
    have hw1103 := hx1103
    obtain rfl : ad1098 = ad1103 := (by injection e1103)
    replace hx1103 := ox3 HB hx1103
    replace p1103 := eq_true p1103
    replace q1103 := eq_true q1103
    refine start_ (n := 32) (S := fun w' => cS3 gb1099 (.int .i64 ((rd_T166 l0_2 x33_1).f0)) (.int .i64 ((rd_T166 l0_2 x33_1).f1)) (.int .i64 ((rd_T166 l0_2 x33_1).f2)) w' ∧ cS5 gb1095 (.int .i64 a0_0) (.int .i64 a0_1) (.slice (some ad1098) l0_2.length c0_2) (.int .i64 a0_3) (.slice A0_4 l0_4.length c0_4) w' ∧ eT166 (ad1098.add (((ji26)).toNat * 3)) (rd_T166 l0_2 (ji26)) w') (ds := []) #[false, false, false, false, false, false, false, false, false, false, false, false, false, false, false, false, false, false, false, false, false, false, false, false, false, false, false, false, false, false, false, false] (by kernel_rfl) rfl rfl ⟨ds3_ BK1099, ds5_ BK1095, (ox3 HB hw1103 :)⟩ (fun hHeld => ?_); refine with_tabW impl_DescOk.tab6 impl_DescOk.bits6 (fun HT_ HW_ => ?_)
    generalize w33.drew = w34 at BK1095 BK1099 HB hx1103 hHeld ⊢
    refine pu 0 38 ?_; refine ta 1 39 ?_
    refine on1 2 (some 40) (fun K hK => ?_)
    refine gS Try.func88 #[.int .i64 ((rd_T166 l0_2 x33_1).f0)] ?_
    with_reducible refine (impl_isPlace.calls ((rd_T166 l0_2 x33_1).f0) true _ A19.out).mono ?_
    rintro e w' ⟨rfl, ⟨nd, rfl⟩⟩
    refine ⟨_, rfl, ?_⟩
    refine hK.out _ _ ⟨ds3_ BK1099, ds5_ BK1095, (ox3 HB hw1103 :)⟩ (fun hHeld => ?_)
    clear hK K
    refine nm 40 ?_
    refine pu 3 41 ?_; refine pu 4 42 ?_; refine pu 5 43 ?_; refine ta 6 44 ?_
    refine on1 7 (some 45) (fun K hK => ?_)
    refine gS Try.func89 #[.int .i64 ((rd_T166 l0_2 x33_1).f1)] ?_
    with_reducible refine (impl_isWordNum.calls ((rd_T166 l0_2 x33_1).f1) true _ A21.out).mono ?_
    rintro e w' ⟨rfl, ⟨nd, rfl⟩⟩
    refine ⟨_, rfl, ?_⟩
    refine hK.out _ _ ⟨ds3_ BK1099, ds5_ BK1095, (ox3 HB hw1103 :)⟩ (fun hHeld => ?_)
    clear hK K
    refine nm 45 ?_
    refine pu 8 46 ?_; refine pu 9 47 ?_; refine pu 10 48 ?_; refine pu 11 49 ?_; refine ta 12 50 ?_
    refine on1 13 (some 51) (fun K hK => ?_)
    refine gS Try.func89 #[.int .i64 ((rd_T166 l0_2 x33_1).f2)] ?_
    with_reducible refine (impl_isWordNum.calls ((rd_T166 l0_2 x33_1).f2) true _ A23.out).mono ?_
    rintro e w' ⟨rfl, ⟨nd, rfl⟩⟩
    refine ⟨_, rfl, ?_⟩
    refine hK.out _ _ ⟨ds3_ BK1099, ds5_ BK1095, (ox3 HB hw1103 :)⟩ (fun hHeld => ?_)
    clear hK K
    refine nm 51 ?_
    refine pu 14 52 ?_; refine pu 15 53 ?_; refine pu 16 54 ?_; refine pu 17 55 ?_; refine pu 18 56 ?_; refine pu 19 57 ?_; refine pu 20 58 ?_; refine pu 22 60 ?_; refine pu 23 61 ?_; refine pu 27 65 ?_; refine ta 21 59 ?_; refine pu 24 62 ?_
    refine pu 25 63 ?_; refine ta 26 64 ?_; refine ta 28 66 ?_; refine pu 29 67 ?_; refine pu 30 68 ?_; refine pu 31 69 ?_
    refine done_ (done_of HT_.out (by kernel_rfl)) ?_
    try go_wp2
    go_ret
    exact ⟨by first | rfl | (simp [errW_none, errW_some] <;> rfl) | (simp only [← hji26]; first | rfl | (simp [errW_none, errW_some] <;> rfl)) | (simp [*, errW_none, errW_some] <;> rfl), tb HB⟩
   have H' := Aside0.mk H
   clear H
   have p1098 : 0 ≤ (x33_1 : Int) := od
   have q1098 : x33_1 < (l0_2.length : Int) := od
   obtain ⟨ad1098, e1098, hx1098_0, hx1098_1, hx1098_2⟩ := at_T166 HR0_2.out x33_1 p1098 q1098
   cases e1098
   replace hx1098_0 := ox HB hx1098_0
   replace hx1098_1 := ox HB hx1098_1
   replace hx1098_2 := ox HB hx1098_2
   replace p1098 := eq_true p1098
   replace q1098 := eq_true q1098
   try go_wp2_with (first | ((with_reducible refine gq 4 rfl ?_); (try (refine gate_guard (by rfl) ?_; dsimp only)); refine bx1 HB BK1095 (N := 4) (cs := #[.int .i64 0, .int .i64 0, .int .i64 0]) (t := 166) ?_; clear HB BK1095; intro gb1099 w35 BK1099 GE1099 HB NB1095_1099 NB1099_1095 BK1095; have hnb36 := NB1099_1095.out; have hnc36 := NB1095_1099.out; have hz37 := cs3_ BK1099))
   have n0_ : Aside0 ((((w35.setCell ⟨gb1099, 0, none⟩ (.int .i64 ((rd_T166 l0_2 x33_1).f0))).setCell ⟨gb1099, 1, none⟩ (.int .i64 ((rd_T166 l0_2 x33_1).f1))).setCell ⟨gb1099, 2, none⟩ (.int .i64 ((rd_T166 l0_2 x33_1).f2))).heap[gb1095]? = some (.cells #[.int .i64 a0_0, .int .i64 a0_1, .slice (some ad1098) l0_2.length c0_2, .int .i64 a0_3, .slice A0_4 l0_4.length c0_4] 145 (0, 0))) := ⟨bf BK1095⟩
   have n1_ : Aside0 ((((w35.setCell ⟨gb1099, 0, none⟩ (.int .i64 ((rd_T166 l0_2 x33_1).f0))).setCell ⟨gb1099, 1, none⟩ (.int .i64 ((rd_T166 l0_2 x33_1).f1))).setCell ⟨gb1099, 2, none⟩ (.int .i64 ((rd_T166 l0_2 x33_1).f2))).heap[gb1099]? = some (.cells #[.int .i64 ((rd_T166 l0_2 x33_1).f0), .int .i64 ((rd_T166 l0_2 x33_1).f1), .int .i64 ((rd_T166 l0_2 x33_1).f2)] 166 (0, 0))) := ⟨bfp3 BK1099⟩
   have n2_ : Aside0 (Below w.heap.size w (((w35.setCell ⟨gb1099, 0, none⟩ (.int .i64 ((rd_T166 l0_2 x33_1).f0))).setCell ⟨gb1099, 1, none⟩ (.int .i64 ((rd_T166 l0_2 x33_1).f1))).setCell ⟨gb1099, 2, none⟩ (.int .i64 ((rd_T166 l0_2 x33_1).f2)))) := ⟨tb HB⟩
   (try clear BK1095)
   (try clear BK1099)
   (try clear HB)
   generalize (((w35.setCell ⟨gb1099, 0, none⟩ (.int .i64 ((rd_T166 l0_2 x33_1).f0))).setCell ⟨gb1099, 1, none⟩ (.int .i64 ((rd_T166 l0_2 x33_1).f1))).setCell ⟨gb1099, 2, none⟩ (.int .i64 ((rd_T166 l0_2 x33_1).f2))) = w38 at n0_ n1_ n2_ ⊢
   have BK1095 := n0_
   have BK1099 := n1_
   have HB := n2_
   clear n0_ n1_ n2_
   replace BK1095 := bd BK1095
   replace BK1099 := bd BK1099
   replace HB := Aside0.mk (below_drew1 HB.out)
   have p1103 : 0 ≤ ((ji26) : Int) := od
   have q1103 : (ji26) < (l0_2.length : Int) := od
   obtain ⟨ad1103, e1103, hx1103⟩ := att166 HR0_2.out (ji26) p1103 q1103
   have hw1103 := hx1103
   obtain rfl : ad1098 = ad1103 := (by injection e1103)
   replace hx1103 := ox3 HB hx1103
   replace p1103 := eq_true p1103
   replace q1103 := eq_true q1103
   refine start_ (n := 32) (S := fun w' => cS3 gb1099 (.int .i64 ((rd_T166 l0_2 x33_1).f0)) (.int .i64 ((rd_T166 l0_2 x33_1).f1)) (.int .i64 ((rd_T166 l0_2 x33_1).f2)) w' ∧ cS5 gb1095 (.int .i64 a0_0) (.int .i64 a0_1) (.slice (some ad1098) l0_2.length c0_2) (.int .i64 a0_3) (.slice A0_4 l0_4.length c0_4) w' ∧ eT166 (ad1098.add (((ji26)).toNat * 3)) (rd_T166 l0_2 (ji26)) w') (ds := []) #[false, false, false, false, false, false, false, false, false, false, false, false, false, false, false, false, false, false, false, false, false, false, false, false, false, false, false, false, false, false, false, false] (by kernel_rfl) rfl rfl ⟨ds3_ BK1099, ds5_ BK1095, (ox3 HB hw1103 :)⟩ (fun hHeld => ?_); refine with_tabW impl_DescOk.tab6 impl_DescOk.bits6 (fun HT_ HW_ => ?_)
   generalize w38.drew = w39 at BK1095 BK1099 HB hx1103 hHeld ⊢
   refine pu 0 38 ?_; refine ta 1 39 ?_
   refine on1 2 (some 40) (fun K hK => ?_)
   refine gS Try.func88 #[.int .i64 ((rd_T166 l0_2 x33_1).f0)] ?_
   with_reducible refine (impl_isPlace.calls ((rd_T166 l0_2 x33_1).f0) true _ A19.out).mono ?_
   rintro e w' ⟨rfl, ⟨nd, rfl⟩⟩
   refine ⟨_, rfl, ?_⟩
   refine hK.out _ _ ⟨ds3_ BK1099, ds5_ BK1095, (ox3 HB hw1103 :)⟩ (fun hHeld => ?_)
   clear hK K
   refine nm 40 ?_
   refine pu 3 41 ?_; refine pu 4 42 ?_; refine pu 5 43 ?_; refine ta 6 44 ?_
   refine on1 7 (some 45) (fun K hK => ?_)
   refine gS Try.func89 #[.int .i64 ((rd_T166 l0_2 x33_1).f1)] ?_
   with_reducible refine (impl_isWordNum.calls ((rd_T166 l0_2 x33_1).f1) true _ A21.out).mono ?_
   rintro e w' ⟨rfl, ⟨nd, rfl⟩⟩
   refine ⟨_, rfl, ?_⟩
   refine hK.out _ _ ⟨ds3_ BK1099, ds5_ BK1095, (ox3 HB hw1103 :)⟩ (fun hHeld => ?_)
   clear hK K
   refine nm 45 ?_
   refine pu 8 46 ?_; refine pu 9 47 ?_; refine pu 10 48 ?_; refine pu 11 49 ?_; refine ta 12 50 ?_
   refine on1 13 (some 51) (fun K hK => ?_)
   refine gS Try.func89 #[.int .i64 ((rd_T166 l0_2 x33_1).f2)] ?_
   with_reducible refine (impl_isWordNum.calls ((rd_T166 l0_2 x33_1).f2) true _ A23.out).mono ?_
   rintro e w' ⟨rfl, ⟨nd, rfl⟩⟩
   refine ⟨_, rfl, ?_⟩
   refine hK.out _ _ ⟨ds3_ BK1099, ds5_ BK1095, (ox3 HB hw1103 :)⟩ (fun hHeld => ?_)
   clear hK K
   refine nm 51 ?_
   refine pu 14 52 ?_; refine pu 15 53 ?_; refine pu 16 54 ?_; refine pu 17 55 ?_; refine pu 18 56 ?_; refine pu 19 57 ?_; refine pu 20 58 ?_; refine pu 22 60 ?_; refine pu 23 61 ?_; refine pu 27 65 ?_; refine ta 21 59 ?_; refine pu 24 62 ?_
   refine pu 25 63 ?_; refine ta 26 64 ?_; refine ta 28 66 ?_; refine pu 29 67 ?_; refine pu 30 68 ?_; refine pu 31 69 ?_
   refine done_ (done_of HT_.out (by kernel_rfl)) ?_
   try go_wp2
   go_roundg k1
   case measure => have := HK1.out; omega
   case rel => exact ⟨(wrap64 (x33_1 + 1)), rsd, H', ⟨by have := HK1.out; omega⟩, ⟨by (with_reducible repeat (first | refine blk_drewN ?_ _ | refine blk_drew ?_ | refine blk_alloc ?_ _)); exact BK1095.out⟩, ⟨tb HB⟩⟩
end Go.Proofs.Ytopikhjcbcpiaaa.Q
