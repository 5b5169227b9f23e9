/- Part 3 of the steps by which the law is shown: what each function of the program, of the reference and of the law computes. No condition. -/
import Derived.Deep.Slices
import Derived.DataReads
import Derived.Lib.SliceRun
import Derived.Test.YtopikhjcbcpiaaaBgn0
import Derived.Test.YtopikhjcbcpiaaaBgn2
section
namespace Go.Proofs.YtopikhjcbcpiaaaX
open Go.RowKit Go.Proofs.YtopikhjcbcpiaaaW.PrintWords Go.Deep Go.ChangeShapes Go.WideShapes
section
variable {H : Type} {enc : TypeId × Value → H} {P : Program} {w : World}
def Opens (enc : TypeId × Value → H) (P : Program) (w : World) {α : Type} (d : Kd α) (T : TypeId) (ok : α → Prop) : Prop :=
  P.cellsOf T = d.sz ∧ ∀ fuel cs x, DataW.trod enc P w 0 (fun _ => true) true fuel T cs = some x → ∃ a : α, d.K w a cs ∧ ok a
theorem Opens.int {T : TypeId} {k : IntKind} (hu : P.underlying T = some (.int k)) (hc : P.cellsOf T = 1) : Opens enc P w (Kd.int k) T (fun n => (Lit.int k n).wf = true) :=
  ⟨hc, fun fuel cs x h => by
    obtain ⟨n, rfl, _, hw⟩ := DataW.trod_int hu h
    exact ⟨n, rfl, hw⟩⟩
theorem Opens.bool {T : TypeId} (hu : P.underlying T = some .bool) (hc : P.cellsOf T = 1) : Opens enc P w Kd.bool T (fun _ => True) :=
  ⟨hc, fun fuel cs x h => by
    obtain ⟨b, rfl, _⟩ := DataW.trod_bool hu h
    exact ⟨b, rfl, trivial⟩⟩
theorem list_of_index {α : Type} (p : Nat → α → Prop) : ∀ n : Nat, (∀ i, i < n → ∃ a, p i a) → ∃ l : List α, l.length = n ∧ ∀ i a, l[i]? = some a → p i a
  | 0, _ => ⟨[], rfl, fun i a h => by simp at h⟩
  | n + 1, h => by
    obtain ⟨l, hl, hp⟩ := list_of_index p n (fun i hi => h i (by omega))
    obtain ⟨a, ha⟩ := h n (by omega)
    refine ⟨l ++ [a], by simp [hl], fun i b hb => ?_⟩
    rcases Nat.lt_trichotomy i n with h' | h' | h'
    · rw [List.getElem?_append_left (by omega)] at hb
      exact hp i b hb
    · subst h'
      rw [List.getElem?_append_right (by omega)] at hb
      simp [hl] at hb
      exact hb ▸ ha
    · rw [List.getElem?_eq_none (by simp [hl]; omega)] at hb
      cases hb
theorem Opens.slice {α : Type} {d : Kd α} {T e : TypeId} {ok : α → Prop} (hu : P.underlying T = some (.slice e)) (hc : P.cellsOf T = 1) (h : Opens enc P w d e ok) :
    Opens enc P w (Kd.slice e d) T (fun l => l.length ≤ 9223372036854775807 ∧ ∀ a ∈ l, ok a) :=
  ⟨hc, fun fuel cs x hx => by
    rcases open_slice hu hx with ⟨rfl, _⟩ | ⟨a, len, cap, m, n, D, Pl, rfl, hb, hl, hm, hmm, _, hel⟩
    · exact ⟨[], ⟨none, 0, rfl, Nat.le_refl _, ⟨rfl, by simp, fun h => absurd h (by simp)⟩⟩, by simp, fun a ha => by cases ha⟩
    · simp only [if_true] at hmm
      subst hmm
      obtain ⟨l, hll, hlp⟩ := list_of_index (fun i a' => (∃ c : List Value, c.length = d.sz ∧ d.K w a' c ∧ ∀ j u, c[j]? = some u → w.cell? (a.add (i * d.sz + j)) = some u) ∧ ok a') len (fun i hi => by
        obtain ⟨cs', hcs, ht⟩ := hel i (by omega)
        obtain ⟨a', hk, ha'⟩ := h.2 _ _ _ ht
        refine ⟨a', ⟨cs', d.K_len hk, hk, fun j u hu => ?_⟩, ha'⟩
        rw [h.1] at hcs
        obtain ⟨_, hlen, hcell⟩ := World.cells?_some hcs
        have hj : j < d.sz := by have := (List.getElem?_eq_some_iff.1 hu).1; rw [d.K_len hk] at this; exact this
        have := hcell j hj
        rw [Go.Deep.add_add] at this
        rw [this]
        exact hu)
      refine ⟨l, ⟨some a, m, by rw [hll], by omega, ⟨rfl, by simp only [maxLen] at hm; omega, fun _ => ⟨a, rfl, fun j p hp => (hlp j p hp).1⟩⟩⟩, by rw [hll]; simp only [maxLen] at hm; omega, fun a' ha' => ?_⟩
      obtain ⟨i, hi⟩ := List.getElem?_of_mem ha'
      exact (hlp i a' hi).2⟩
def OpensFs (enc : TypeId × Value → H) (P : Program) (w : World) {α : Type} (d : Kd α) (off : Nat) (fs : List Field) (ok : α → Prop) : Prop :=
  ∀ (n : Nat) (cs : List Value), off + d.sz = cs.length → (∀ f ∈ fs, ∃ x, DataW.trod enc P w 0 (fun _ => true) true n f.type ((cs.drop f.offset).take (P.cellsOf f.type)) = some x) → ∃ a : α, d.K w a (cs.drop off) ∧ ok a
theorem OpensFs.last {α : Type} {d : Kd α} {off : Nat} {f : Field} {ok : α → Prop} (hf : f.offset = off) (h : Opens enc P w d f.type ok) : OpensFs enc P w d off [f] ok := by
  intro n cs hl hx
  obtain ⟨x, hx⟩ := hx f (by simp)
  rw [hf, h.1, List.take_of_length_le (by simp; omega)] at hx
  exact h.2 _ _ _ hx
theorem OpensFs.cons {α β : Type} {d : Kd α} {d' : Kd β} {off : Nat} {f : Field} {fs : List Field} {ok : α → Prop} {ok' : β → Prop} (hf : f.offset = off) (h : Opens enc P w d f.type ok) (h' : OpensFs enc P w d' (off + d.sz) fs ok') :
    OpensFs enc P w (Kd.pair d d') off (f :: fs) (fun x => ok x.1 ∧ ok' x.2) := by
  intro n cs hl hx
  have hl' : off + (d.sz + d'.sz) = cs.length := hl
  obtain ⟨b, hb, hob⟩ := h' n cs (by omega) (fun g hg => hx g (by simp [hg]))
  obtain ⟨x, hx⟩ := hx f (by simp)
  rw [hf, h.1] at hx
  obtain ⟨a, ha, hoa⟩ := h.2 _ _ _ hx
  refine ⟨(a, b), ⟨(cs.drop off).take d.sz, cs.drop (off + d.sz), ?_, ha, hb⟩, hoa, hob⟩
  rw [← List.drop_drop]
  exact (List.take_append_drop _ _).symm
theorem Opens.struct {α β : Type} {d : Kd α} {f : β → α} {g : α → β} (hg : ∀ a, f (g a) = a) {T : TypeId} {fs : Array Field} {ok : α → Prop} (hu : P.underlying T = some (.struct fs)) (hc : P.cellsOf T = d.sz) (h : OpensFs enc P w d 0 fs.toList ok) :
    Opens enc P w (Kd.iso d f) T (fun b => ok (f b)) :=
  ⟨hc, fun fuel cs x hx => by
    obtain ⟨xs, n, rfl, _, hl, hlen, hfs⟩ := DataW.trod_struct hu hx
    obtain ⟨a, ha, hoa⟩ := h n cs (by rw [hl, hc]; omega) (fun f hf => by
      obtain ⟨i, hi⟩ := List.getElem?_of_mem hf
      have hi' : fs[i]? = some f := by simpa using hi
      have := hfs i f hi'
      have hlt : i < xs.length := by rw [hlen]; exact (Array.getElem?_eq_some_iff.1 hi').1
      rw [List.getElem?_eq_getElem hlt] at this
      exact ⟨_, this⟩)
    exact ⟨g a, by show d.K w (f (g a)) cs; rw [hg]; simpa using ha, by show ok (f (g a)); rw [hg]; exact hoa⟩⟩
theorem Opens.agg {α : Type} {d : Kd α} {T : TypeId} {ok : α → Prop} {fs : Array Field} {r : Reach} {b0 : Nat} {v : Value} {x : DataW H} {p : List MemPlace} (h : Opens enc P w d T ok) (hu : P.underlying T = some (.struct fs))
    (hv : Value.okWide P w r b0 T v) (hx : DataW.Trod enc P w 0 (fun _ => true) true T v x p) : ∃ (a : α) (cs : List Value), v = .agg cs.toArray ∧ d.K w a cs ∧ ok a := by
  obtain ⟨cs, rfl, _⟩ := okWide_struct hu hv
  obtain ⟨fuel, hf⟩ := hx
  obtain ⟨a, ha, hoa⟩ := h.2 _ _ _ hf
  exact ⟨a, cs.toList, rfl, ha, hoa⟩
theorem Opens.arg_slice {α : Type} {d : Kd α} {T e : TypeId} {ok : α → Prop} {r : Reach} {b0 : Nat} {v : Value} {x : DataW H} {p : List MemPlace} (h : Opens enc P w (Kd.slice e d) T (fun l => l.length ≤ 9223372036854775807 ∧ ∀ a ∈ l, ok a)) (hu : P.underlying T = some (.slice e))
    (hv : Value.okWide P w r b0 T v) (hx : DataW.Trod enc P w 0 (fun _ => true) true T v x p) : ∃ (l : List α) (A : Option Addr) (c : Nat), v = .slice A l.length c ∧ l.length ≤ c ∧ d.C w A l.length l ∧ l.length ≤ 9223372036854775807 ∧ ∀ a ∈ l, ok a := by
  obtain ⟨A, len, cap, rfl⟩ := okWide_slice hu hv
  obtain ⟨fuel, hf⟩ := hx
  obtain ⟨l, ⟨A', c', he, hl, hC⟩, hok⟩ := h.2 _ _ _ hf
  simp [Value.cells] at he
  obtain ⟨rfl, rfl, rfl⟩ := he
  exact ⟨l, _, _, rfl, hl, hC, hok⟩
end
end Go.Proofs.YtopikhjcbcpiaaaX
end
namespace Go.Proofs.Ytopikhjcbcpiaaa.Q
open Go.RowKit Go.Proofs.YtopikhjcbcpiaaaW.PrintWords Go.Proofs.YtopikhjcbcpiaaaW.PrintLast Go.Proofs.YtopikhjcbcpiaaaW.PrintMore
attribute [local go_sem] max2_int min2_int max_two min_two max_three min_three max_four min_four   -- for this text's walks alone
set_option linter.unusedVariables false
set_option linter.unusedSimpArgs false
def laws_szWordS.f (l0 : List (S143)) (a1 : Int) : Option (Int) := if (wrap64 (a1 - (l0.length : Int))) < 0 then (some (-1)) else (some (wrap64 (a1 - (l0.length : Int))))
set_option maxHeartbeats 8000000 in
set_option maxRecDepth 100000 in
theorem laws_szWordS.calls (A0 : Option Addr) (c0 : Nat) (l0 : List (S143)) (a1 : Int) (r : Int) (w : World) (hr0 : Kd.C k143 w A0 l0.length l0) (hc0 : l0.length ≤ c0) (h : laws_szWordS.f l0 a1 = some r) :
  Calls Try.prog 20 #[.slice A0 l0.length c0, .int .i64 a1] w fun e w' => e = .returned (.int .i64 r) ∧ Drawn0 w w' := by
 have HR0 := Aside0.mk hr0
 have HC0 := Aside0.mk hc0
 clear hr0 hc0
 have H := h
 clear h
 unfold laws_szWordS.f at H
 revert H; refine icd (fun c3b0 H => ?pos) fun c3b0 H => ?_
 case pos =>
  obtain rfl := oin H
  go_enter Try.func20, Try.ntmps20
  go_wp2
  go_ret
  exact ⟨rsd, by repeat (first | exact Drawn0.refl _ | apply Drawn0.step)⟩
 obtain rfl := oin H
 go_enter Try.func20, Try.ntmps20
 go_wp2
 go_ret
 exact ⟨rsd, by repeat (first | exact Drawn0.refl _ | apply Drawn0.step)⟩
def laws_toWord.f (a0_0 : Int) (a0_1 : Int) (a0_2 : Int) : Option (Int × Int × Int) := some (a0_0, a0_1, a0_2)
set_option maxHeartbeats 8000000 in
set_option maxRecDepth 100000 in
theorem laws_toWord.calls (a0_0 : Int) (a0_1 : Int) (a0_2 : Int) (r1 : Int) (r2 : Int) (r3 : Int) (w : World) (h : laws_toWord.f a0_0 a0_1 a0_2 = some (r1, r2, r3)) :
  Calls Try.prog 97 #[.agg #[.int .i64 a0_0, .int .i64 a0_1, .int .i64 a0_2]] w fun e w' => e = .returned (.agg #[.int .i64 r1, .int .i64 r2, .int .i64 r3]) ∧ Below w.heap.size w w' := by
 have hu143 := Try.underlying143
 have hu141 := Try.underlying141
 have HB := Aside0.mk (Below.refl w.heap.size w)
 have H := h
 clear h
 unfold laws_toWord.f at H
 simp only [Option.some.injEq, Prod.mk.injEq] at H
 obtain ⟨rfl, rfl, rfl⟩ := H
 go_enter Try.func97, Try.ntmps97
 go_wp2_with (first | ((with_reducible refine gq 1 rfl ?_); refine bx0 HB (N := 1) (t := 143) ?_; clear HB; intro gb321 w2 BK321 GE321 HB) | ((with_reducible refine gq 2 rfl ?_); refine bx1 HB BK321 (N := 2) (cs := #[.int .i64 0, .int .i64 0, .int .i64 0]) (t := 141) ?_; clear HB BK321; intro gb322 w3 BK322 GE322 HB NB321_322 NB322_321 BK321) | ((with_reducible refine gq 3 rfl ?_); refine bx2 HB BK321 BK322 (N := 3) (cs := #[.int .i64 0, .int .i64 0, .int .i64 0]) (t := 141) ?_; clear HB BK321 BK322; intro gb323 w4 BK323 GE323 HB NB321_323 NB323_321 BK321 NB322_323 NB323_322 BK322; have hnb5 := NB321_322.out; have hnc5 := NB322_321.out; have hnb6 := NB321_323.out; have hnc6 := NB323_321.out; have hz7 := cs3_ BK321; have hnb8 := NB323_322.out; have hnc8 := NB322_323.out; have hz9 := cs3_ BK323; have hz10 := cs3_ BK322))
 refine bodyPost_ret (results_cell_row rfl _ _ gb322 141 #[.int .i64 a0_0, .int .i64 a0_1, .int .i64 a0_2] (0, 0) _ rfl (bfp3 BK322) Try.underlying141 rfl (by kernel_rfl)) rfl ?_
 exact ⟨er, tb HB⟩
def laws_eqWord.f (a0_0 : Int) (a0_1 : Int) (a0_2 : Int) (a1_0 : Int) (a1_1 : Int) (a1_2 : Int) : Option (Bool) := if a0_0 = a1_0 then (if a0_1 = a1_1 then (if a0_2 = a1_2 then (some true) else (some false)) else (some false)) else (some false)
set_option maxHeartbeats 8000000 in
set_option maxRecDepth 100000 in
theorem laws_eqWord.calls (a0_0 : Int) (a0_1 : Int) (a0_2 : Int) (a1_0 : Int) (a1_1 : Int) (a1_2 : Int) (r : Bool) (w : World) (h : laws_eqWord.f a0_0 a0_1 a0_2 a1_0 a1_1 a1_2 = some r) :
  Calls Try.prog 100 #[.agg #[.int .i64 a0_0, .int .i64 a0_1, .int .i64 a0_2], .agg #[.int .i64 a1_0, .int .i64 a1_1, .int .i64 a1_2]] w fun e w' => e = .returned (.bool r) ∧ Below w.heap.size w w' := by
 have hu141 := Try.underlying141
 have HB := Aside0.mk (Below.refl w.heap.size w)
 have H := h
 clear h
 unfold laws_eqWord.f at H
 by_cases c3 : a0_0 = a1_0
 case neg =>
  rw [if_neg c3] at H
  have c3b0 : (a0_0 == a1_0) = false := beq_eq_false_iff_ne.mpr c3
  have c3b1 : (a0_0 != a1_0) = true := bne_iff_ne.mpr c3
  obtain rfl := oin H
  go_enter Try.func100, Try.ntmps100
  go_wp2_with (first | ((with_reducible refine gq 2 rfl ?_); refine bx0 HB (N := 2) (t := 141) ?_; clear HB; intro gb395 w21 BK395 GE395 HB) | ((with_reducible refine gq 3 rfl ?_); refine bx1 HB BK395 (N := 3) (t := 141) ?_; clear HB BK395; intro gb396 w22 BK396 GE396 HB NB395_396 NB396_395 BK395; have hnb23 := NB395_396.out; have hnc23 := NB396_395.out; have hz24 := cs3_ BK395; have hz25 := cs3_ BK396))
  go_ret
  exact ⟨er, tb HB⟩
 
 
 rw [if_pos c3] at H
 have c3b0 : (a0_0 == a1_0) = true := beq_iff_eq.mpr c3
 have c3b1 : (a0_0 != a1_0) = false := bne_eq_false_iff_eq.mpr c3
 clear c3
 by_cases c4 : a0_1 = a1_1
 case neg =>
  rw [if_neg c4] at H
  have c4b0 : (a0_1 == a1_1) = false := beq_eq_false_iff_ne.mpr c4
  have c4b1 : (a0_1 != a1_1) = true := bne_iff_ne.mpr c4
  obtain rfl := oin H
  go_enter Try.func100, Try.ntmps100
  go_wp2_with (first | ((with_reducible refine gq 2 rfl ?_); refine bx0 HB (N := 2) (t := 141) ?_; clear HB; intro gb395 w16 BK395 GE395 HB) | ((with_reducible refine gq 3 rfl ?_); refine bx1 HB BK395 (N := 3) (t := 141) ?_; clear HB BK395; intro gb396 w17 BK396 GE396 HB NB395_396 NB396_395 BK395; have hnb18 := NB395_396.out; have hnc18 := NB396_395.out; have hz19 := cs3_ BK395; have hz20 := cs3_ BK396))
  go_ret
  exact ⟨er, tb HB⟩
 rw [if_pos c4] at H
 have c4b0 : (a0_1 == a1_1) = true := beq_iff_eq.mpr c4
 have c4b1 : (a0_1 != a1_1) = false := bne_eq_false_iff_eq.mpr c4
 clear c4
 by_cases c5 : a0_2 = a1_2
 case neg =>
  rw [if_neg c5] at H
  have c5b0 : (a0_2 == a1_2) = false := beq_eq_false_iff_ne.mpr c5
  have c5b1 : (a0_2 != a1_2) = true := bne_iff_ne.mpr c5
  obtain rfl := oin H
  go_enter Try.func100, Try.ntmps100
  go_wp2_with (first | ((with_reducible refine gq 2 rfl ?_); refine bx0 HB (N := 2) (t := 141) ?_; clear HB; intro gb395 w11 BK395 GE395 HB) | ((with_reducible refine gq 3 rfl ?_); refine bx1 HB BK395 (N := 3) (t := 141) ?_; clear HB BK395; intro gb396 w12 BK396 GE396 HB NB395_396 NB396_395 BK395; have hnb13 := NB395_396.out; have hnc13 := NB396_395.out; have hz14 := cs3_ BK395; have hz15 := cs3_ BK396))
  go_ret
  exact ⟨er, tb HB⟩
 rw [if_pos c5] at H
 have c5b0 : (a0_2 == a1_2) = true := beq_iff_eq.mpr c5
 have c5b1 : (a0_2 != a1_2) = false := bne_eq_false_iff_eq.mpr c5
 clear c5
 obtain rfl := oin H
 go_enter Try.func100, Try.ntmps100
 go_wp2_with (first | ((with_reducible refine gq 2 rfl ?_); refine bx0 HB (N := 2) (t := 141) ?_; clear HB; intro gb395 w6 BK395 GE395 HB) | ((with_reducible refine gq 3 rfl ?_); refine bx1 HB BK395 (N := 3) (t := 141) ?_; clear HB BK395; intro gb396 w7 BK396 GE396 HB NB395_396 NB396_395 BK395; have hnb8 := NB395_396.out; have hnc8 := NB396_395.out; have hz9 := cs3_ BK395; have hz10 := cs3_ BK396))
 go_ret
 exact ⟨er, tb HB⟩
def laws_szEntryS.f (l0 : List (S168)) (a1 : Int) : Option (Int) := if (wrap64 (a1 - (l0.length : Int))) < 0 then (some (-1)) else (some (wrap64 (a1 - (l0.length : Int))))
set_option maxHeartbeats 8000000 in
set_option maxRecDepth 100000 in
theorem laws_szEntryS.calls (A0 : Option Addr) (c0 : Nat) (l0 : List (S168)) (a1 : Int) (r : Int) (w : World) (hr0 : Kd.C k168 w A0 l0.length l0) (hc0 : l0.length ≤ c0) (h : laws_szEntryS.f l0 a1 = some r) :
  Calls Try.prog 62 #[.slice A0 l0.length c0, .int .i64 a1] w fun e w' => e = .returned (.int .i64 r) ∧ Drawn0 w w' := by
 have HR0 := Aside0.mk hr0
 have HC0 := Aside0.mk hc0
 clear hr0 hc0
 have H := h
 clear h
 unfold laws_szEntryS.f at H
 revert H; refine icd (fun c3b0 H => ?pos) fun c3b0 H => ?_
 case pos =>
  obtain rfl := oin H
  go_enter Try.func62, Try.ntmps62
  go_wp2
  go_ret
  exact ⟨rsd, by repeat (first | exact Drawn0.refl _ | apply Drawn0.step)⟩
 obtain rfl := oin H
 go_enter Try.func62, Try.ntmps62
 go_wp2
 go_ret
 exact ⟨rsd, by repeat (first | exact Drawn0.refl _ | apply Drawn0.step)⟩
def laws_toEntry.f (a0_0 : Int) (a0_1 : Int) (a0_2 : Int) : Option (Int × Int × Int) := some (a0_0, a0_1, a0_2)
set_option maxHeartbeats 8000000 in
set_option maxRecDepth 100000 in
theorem laws_toEntry.calls (a0_0 : Int) (a0_1 : Int) (a0_2 : Int) (r1 : Int) (r2 : Int) (r3 : Int) (w : World) (h : laws_toEntry.f a0_0 a0_1 a0_2 = some (r1, r2, r3)) :
  Calls Try.prog 136 #[.agg #[.int .i64 a0_0, .int .i64 a0_1, .int .i64 a0_2]] w fun e w' => e = .returned (.agg #[.int .i64 r1, .int .i64 r2, .int .i64 r3]) ∧ Below w.heap.size w w' := by
 have hu168 := Try.underlying168
 have hu166 := Try.underlying166
 have HB := Aside0.mk (Below.refl w.heap.size w)
 have H := h
 clear h
 unfold laws_toEntry.f at H
 simp only [Option.some.injEq, Prod.mk.injEq] at H
 obtain ⟨rfl, rfl, rfl⟩ := H
 go_enter Try.func136, Try.ntmps136
 go_wp2_with (first | ((with_reducible refine gq 1 rfl ?_); refine bx0 HB (N := 1) (t := 168) ?_; clear HB; intro gb338 w2 BK338 GE338 HB) | ((with_reducible refine gq 2 rfl ?_); refine bx1 HB BK338 (N := 2) (cs := #[.int .i64 0, .int .i64 0, .int .i64 0]) (t := 166) ?_; clear HB BK338; intro gb339 w3 BK339 GE339 HB NB338_339 NB339_338 BK338) | ((with_reducible refine gq 3 rfl ?_); refine bx2 HB BK338 BK339 (N := 3) (cs := #[.int .i64 0, .int .i64 0, .int .i64 0]) (t := 166) ?_; clear HB BK338 BK339; intro gb340 w4 BK340 GE340 HB NB338_340 NB340_338 BK338 NB339_340 NB340_339 BK339; have hnb5 := NB338_339.out; have hnc5 := NB339_338.out; have hnb6 := NB338_340.out; have hnc6 := NB340_338.out; have hz7 := cs3_ BK338; have hnb8 := NB340_339.out; have hnc8 := NB339_340.out; have hz9 := cs3_ BK340; have hz10 := cs3_ BK339))
 refine bodyPost_ret (results_cell_row rfl _ _ gb339 166 #[.int .i64 a0_0, .int .i64 a0_1, .int .i64 a0_2] (0, 0) _ rfl (bfp3 BK339) Try.underlying166 rfl (by kernel_rfl)) rfl ?_
 exact ⟨er, tb HB⟩
def laws_eqEntry.f (a0_0 : Int) (a0_1 : Int) (a0_2 : Int) (a1_0 : Int) (a1_1 : Int) (a1_2 : Int) : Option (Bool) := if a0_0 = a1_0 then (if a0_1 = a1_1 then (if a0_2 = a1_2 then (some true) else (some false)) else (some false)) else (some false)
set_option maxHeartbeats 8000000 in
set_option maxRecDepth 100000 in
theorem laws_eqEntry.calls (a0_0 : Int) (a0_1 : Int) (a0_2 : Int) (a1_0 : Int) (a1_1 : Int) (a1_2 : Int) (r : Bool) (w : World) (h : laws_eqEntry.f a0_0 a0_1 a0_2 a1_0 a1_1 a1_2 = some r) :
  Calls Try.prog 142 #[.agg #[.int .i64 a0_0, .int .i64 a0_1, .int .i64 a0_2], .agg #[.int .i64 a1_0, .int .i64 a1_1, .int .i64 a1_2]] w fun e w' => e = .returned (.bool r) ∧ Below w.heap.size w w' := by
 have hu166 := Try.underlying166
 have HB := Aside0.mk (Below.refl w.heap.size w)
 have H := h
 clear h
 unfold laws_eqEntry.f at H
 by_cases c3 : a0_0 = a1_0
 case neg =>
  rw [if_neg c3] at H
  have c3b0 : (a0_0 == a1_0) = false := beq_eq_false_iff_ne.mpr c3
  have c3b1 : (a0_0 != a1_0) = true := bne_iff_ne.mpr c3
  obtain rfl := oin H
  go_enter Try.func142, Try.ntmps142
  go_wp2_with (first | ((with_reducible refine gq 2 rfl ?_); refine bx0 HB (N := 2) (t := 166) ?_; clear HB; intro gb403 w21 BK403 GE403 HB) | ((with_reducible refine gq 3 rfl ?_); refine bx1 HB BK403 (N := 3) (t := 166) ?_; clear HB BK403; intro gb404 w22 BK404 GE404 HB NB403_404 NB404_403 BK403; have hnb23 := NB403_404.out; have hnc23 := NB404_403.out; have hz24 := cs3_ BK403; have hz25 := cs3_ BK404))
  go_ret
  exact ⟨er, tb HB⟩
 
 
 rw [if_pos c3] at H
 have c3b0 : (a0_0 == a1_0) = true := beq_iff_eq.mpr c3
 have c3b1 : (a0_0 != a1_0) = false := bne_eq_false_iff_eq.mpr c3
 clear c3
 by_cases c4 : a0_1 = a1_1
 case neg =>
  rw [if_neg c4] at H
  have c4b0 : (a0_1 == a1_1) = false := beq_eq_false_iff_ne.mpr c4
  have c4b1 : (a0_1 != a1_1) = true := bne_iff_ne.mpr c4
  obtain rfl := oin H
  go_enter Try.func142, Try.ntmps142
  go_wp2_with (first | ((with_reducible refine gq 2 rfl ?_); refine bx0 HB (N := 2) (t := 166) ?_; clear HB; intro gb403 w16 BK403 GE403 HB) | ((with_reducible refine gq 3 rfl ?_); refine bx1 HB BK403 (N := 3) (t := 166) ?_; clear HB BK403; intro gb404 w17 BK404 GE404 HB NB403_404 NB404_403 BK403; have hnb18 := NB403_404.out; have hnc18 := NB404_403.out; have hz19 := cs3_ BK403; have hz20 := cs3_ BK404))
  go_ret
  exact ⟨er, tb HB⟩
 rw [if_pos c4] at H
 have c4b0 : (a0_1 == a1_1) = true := beq_iff_eq.mpr c4
 have c4b1 : (a0_1 != a1_1) = false := bne_eq_false_iff_eq.mpr c4
 clear c4
 by_cases c5 : a0_2 = a1_2
 case neg =>
  rw [if_neg c5] at H
  have c5b0 : (a0_2 == a1_2) = false := beq_eq_false_iff_ne.mpr c5
  have c5b1 : (a0_2 != a1_2) = true := bne_iff_ne.mpr c5
  obtain rfl := oin H
  go_enter Try.func142, Try.ntmps142
  go_wp2_with (first | ((with_reducible refine gq 2 rfl ?_); refine bx0 HB (N := 2) (t := 166) ?_; clear HB; intro gb403 w11 BK403 GE403 HB) | ((with_reducible refine gq 3 rfl ?_); refine bx1 HB BK403 (N := 3) (t := 166) ?_; clear HB BK403; intro gb404 w12 BK404 GE404 HB NB403_404 NB404_403 BK403; have hnb13 := NB403_404.out; have hnc13 := NB404_403.out; have hz14 := cs3_ BK403; have hz15 := cs3_ BK404))
  go_ret
  exact ⟨er, tb HB⟩
 rw [if_pos c5] at H
 have c5b0 : (a0_2 == a1_2) = true := beq_iff_eq.mpr c5
 have c5b1 : (a0_2 != a1_2) = false := bne_eq_false_iff_eq.mpr c5
 clear c5
 obtain rfl := oin H
 go_enter Try.func142, Try.ntmps142
 go_wp2_with (first | ((with_reducible refine gq 2 rfl ?_); refine bx0 HB (N := 2) (t := 166) ?_; clear HB; intro gb403 w6 BK403 GE403 HB) | ((with_reducible refine gq 3 rfl ?_); refine bx1 HB BK403 (N := 3) (t := 166) ?_; clear HB BK403; intro gb404 w7 BK404 GE404 HB NB403_404 NB404_403 BK403; have hnb8 := NB403_404.out; have hnc8 := NB404_403.out; have hz9 := cs3_ BK403; have hz10 := cs3_ BK404))
 go_ret
 exact ⟨er, tb HB⟩
end Go.Proofs.Ytopikhjcbcpiaaa.Q
section
namespace Go.Proofs.YtopikhjcbcpiaaaX
open Go.RowKit Go.Proofs.YtopikhjcbcpiaaaW.PrintWords
theorem wrap_succ {i n : Nat} (h : i < n) (hn : n ≤ 9223372036854775807) : wrap64 ((i : Int) + 1) = ((i + 1 : Nat) : Int) := by
  unfold wrap64; omega
theorem wrap_in {x : Int} (h0 : -9223372036854775808 ≤ x) (h1 : x ≤ 9223372036854775807) : wrap64 x = x := by
  unfold wrap64; omega
theorem ev_of {α : Type} {g : Nat → Option α} {r : α} (h : ∀ k, g k = some r) : Ev g r := ⟨0, fun k _ => h k⟩
theorem ev_succ {α : Type} {g : Nat → Option α} {r : α} (h : ∀ k, g (k + 1) = some r) : Ev g r := Ev.step (f := fun _ => Option.some r) h (Ev.now r)
theorem ev_to {α : Type} {g : Nat → Option α} {r q : α} (h : Ev g r) (e : r = q) : Ev g q := e ▸ h
theorem ev_pos {α : Type} {c : Prop} [Decidable c] {g f : Nat → Option α} {r : α} (hc : c) (h : Ev g r) : Ev (fun k => if c then g k else f k) r := by simp only [if_pos hc]; exact h
theorem ev_neg {α : Type} {c : Prop} [Decidable c] {g f : Nat → Option α} {r : α} (hc : ¬ c) (h : Ev f r) : Ev (fun k => if c then g k else f k) r := by simp only [if_neg hc]; exact h
theorem ev_down {β : Type} {g : Nat → Int → Option β} {R : Nat → β} {n : Nat} (h : ∀ i : Nat, i ≤ n → (i < n → Ev (fun k => g k ((i + 1 : Nat) : Int)) (R (i + 1))) → Ev (fun k => g k (i : Int)) (R i)) :
    ∀ i : Nat, i ≤ n → Ev (fun k => g k (i : Int)) (R i) := by
  have key : ∀ d i : Nat, i + d = n → Ev (fun k => g k (i : Int)) (R i) := by
    intro d
    induction d with
    | zero => intro i hi; exact h i (by omega) (fun hlt => by omega)
    | succ d ih => intro i hi; exact h i (by omega) (fun _ => ih (i + 1) (by omega))
  intro i hi
  exact key (n - i) i (by omega)
theorem ev_fill {α β : Type} {g : Nat → List β → Int → Option (List β)} {l : List α} {cv : α → β} {za : α}
    (hstep : ∀ (acc : List β) (i : Nat) (r : List β), i < l.length → acc.length = l.length → Ev (fun k => g k (acc.set i (cv (l.getD i za))) ((i + 1 : Nat) : Int)) r → Ev (fun k => g k acc (i : Int)) r)
    (hend : ∀ acc : List β, acc.length = l.length → Ev (fun k => g k acc (l.length : Int)) acc) (acc : List β) (hacc : acc.length = l.length) : Ev (fun k => g k acc 0) (l.map cv) := by
  have key : ∀ (d i : Nat) (acc : List β), acc.length = l.length → i + d = l.length → Ev (fun k => g k acc (i : Int)) (acc.take i ++ (l.drop i).map cv) := by
    intro d
    induction d with
    | zero =>
      intro i acc ha hi
      obtain rfl : i = l.length := by omega
      refine ev_to (hend acc ha) ?_
      simp [← ha]
    | succ d ih =>
      intro i acc ha hi
      refine hstep acc i _ (by omega) ha (ev_to (ih (i + 1) _ (by simpa using ha) (by omega)) ?_)
      have hl : i < l.length := by omega
      have e : l.getD i za = l[i] := by simp [List.getD_eq_getElem?_getD, List.getElem?_eq_getElem hl]
      rw [List.drop_eq_getElem_cons hl, List.map_cons, e]
      have h2 : (acc.set i (cv l[i])).take (i + 1) = acc.take i ++ [cv l[i]] := by
        rw [List.take_succ_eq_append_getElem (by simp; omega)]
        simp [List.take_set_of_le]
      rw [h2, List.append_assoc]
      rfl
  have := key l.length 0 acc hacc (by omega)
  simpa using this
end Go.Proofs.YtopikhjcbcpiaaaX
end
namespace Go.Proofs.Ytopikhjcbcpiaaa.Q
open Go.RowKit Go.Proofs.YtopikhjcbcpiaaaW.PrintWords Go.Proofs.YtopikhjcbcpiaaaW.PrintLast Go.Proofs.YtopikhjcbcpiaaaW.PrintMore
attribute [local go_sem] max2_int min2_int max_two min_two max_three min_three max_four min_four   -- for this text's walks alone
set_option linter.unusedVariables false
set_option linter.unusedSimpArgs false
def laws_szIntS.f (l0 : List Int) (a1 : Int) : Option (Int) := if (wrap64 (a1 - (l0.length : Int))) < 0 then (some (-1)) else (some (wrap64 (a1 - (l0.length : Int))))
set_option maxHeartbeats 8000000 in
set_option maxRecDepth 100000 in
theorem laws_szIntS.calls (A0 : Option Addr) (c0 : Nat) (l0 : List Int) (a1 : Int) (r : Int) (w : World) (hr0 : Kd.C (Kd.int .i64) w A0 l0.length l0) (hc0 : l0.length ≤ c0) (h : laws_szIntS.f l0 a1 = some r) :
  Calls Try.prog 102 #[.slice A0 l0.length c0, .int .i64 a1] w fun e w' => e = .returned (.int .i64 r) ∧ Drawn0 w w' := by
 have HR0 := Aside0.mk hr0
 have HC0 := Aside0.mk hc0
 clear hr0 hc0
 have H := h
 clear h
 unfold laws_szIntS.f at H
 revert H; refine icd (fun c3b0 H => ?pos) fun c3b0 H => ?_
 case pos =>
  obtain rfl := oin H
  go_enter Try.func102, Try.ntmps102
  go_wp2
  go_ret
  exact ⟨rsd, by repeat (first | exact Drawn0.refl _ | apply Drawn0.step)⟩
 obtain rfl := oin H
 go_enter Try.func102, Try.ntmps102
 go_wp2
 go_ret
 exact ⟨rsd, by repeat (first | exact Drawn0.refl _ | apply Drawn0.step)⟩
def laws_toIntS.l0 : Nat → List Int → List Int → Int → Option (List Int)
 | 0, _, _, _ => none
 | k + 1, x0, x3, x4 => if x4 < (x0.length : Int) then (if 0 ≤ x4 then (if x4 < (x3.length : Int) then (laws_toIntS.l0 k x0 (x3.set (x4 : Int).toNat (rd x0 x4)) (wrap64 (x4 + 1))) else (none)) else (none)) else (some x3)
def laws_toIntS.f (k : Nat) (l0 : List Int) : Option (List Int) := if 0 ≤ (l0.length : Int) then (if ((l0.length : Int) : Int).toNat ≤ 35184372088832 then (laws_toIntS.l0 k l0 (List.replicate ((l0.length : Int) : Int).toNat 0) 0) else (none)) else (none)
set_option maxHeartbeats 8000000 in
set_option maxRecDepth 100000 in
theorem laws_toIntS.calls (k : Nat) (A0 : Option Addr) (c0 : Nat) (l0 : List Int) (r : List Int) (w : World) (hr0 : Kd.C (Kd.int .i64) w A0 l0.length l0) (hc0 : l0.length ≤ c0) (h : laws_toIntS.f k l0 = some r) :
  Calls Try.prog 12 #[.slice A0 l0.length c0] w fun e w' => ∃ v0_ : Value, e = .returned (v0_) ∧ Kd.R (Kd.int .i64) 3 w' w.heap.size (fun _ => True) v0_ r ∧ Below w.heap.size w w' := by
 have HR0 := Aside0.mk hr0
 have HC0 := Aside0.mk hc0
 clear hr0 hc0
 have HB := Aside0.mk (Below.refl w.heap.size w)
 have H := h
 clear h
 unfold laws_toIntS.f at H
 obtain ⟨c2b0, c2b1, H⟩ := itb H
 obtain ⟨c3b0, c3b1, H⟩ := itb H
 obtain ⟨y111, hy111⟩ : ∃ y_ : List Int, y_ = (List.replicate ((l0.length : Int) : Int).toNat 0) := ⟨_, rfl⟩
 replace H : (laws_toIntS.l0 k l0 y111 0) = some r := by first | (rw [hy111]; with_reducible exact H) | (have H2_ := (Option.bind_some _ _).symm.trans H; rw [hy111]; with_reducible exact H2_) | (have H2_ := (Option.bind_some _ _).symm.trans H; with_reducible exact H2_) | with_reducible exact H | (rw [hy111]; exact H) | exact H
 have Ny111 := Aside0.mk hy111
 clear hy111
 have H' := Aside0.mk H
 clear H
 go_enter Try.func12, Try.ntmps12
 go_wp2_with (first | ((with_reducible refine gq 7 rfl ?_); refine Kd.R_make (Kd.int .i64) _ 3 rfl (N := 7) rfl 22 _ _ rfl (l0.length : Int) rfl rfl Try.underlying22 (.int .i64 0) 8 info3 rfl (by decide) (by omega) 0 (ok := fun _ => True) (okp := fun _ => True) rfl (fun _ hk => hk) trivial (od) (Nat.le_trans (Nat.mul_le_mul_right _ (od : (l0.length : Int).toNat ≤ 35184372088832)) (by omega)) (Below.refl _ _) (Nat.le_refl _) ?_; intro v112 w4 ho5 hb hg_ hnew_; clear hg_ hnew_; (first | rw [← Ny111.out] at ho5 | (simp only [Int.reduceToNat] at ho5; rw [← Ny111.out] at ho5)); have HO113 := Aside0.mk (Kd.R_lower ho5 (below_size (tb HB))); replace HB := bs HB hb; clear hb ho5))
 go_loopg [4] k (fun kq v4 w' => ∃ (x3_1 : List Int) (x4_1 : Int), v4 = .int .i64 x4_1 ∧ Aside0 (laws_toIntS.l0 kq l0 x3_1 x4_1 = some r) ∧ Aside0 (kq ≤ k) ∧ Aside0 (Kd.R (Kd.int .i64) 3 w' w.heap.size (fun _ => True) v112 x3_1) ∧ Aside0 (Below w.heap.size w w'))
 case atStart => exact ⟨(y111), (0), rsd, H', ⟨Nat.le_refl _⟩, ⟨kr HO113.out⟩, ⟨tb HB⟩⟩
 case round =>
  clear H'
  obtain ⟨x3_1, x4_1, rfl, HA, HK1, HO_3, HB⟩ := hrel
  cases gk with
  | zero => exact absurd HA.out (by simp [laws_toIntS.l0])
  | succ k1 =>
   have H := HA.out
   clear HA
   simp only [laws_toIntS.l0] at H
   revert H; refine icd (fun c6b0 H => ?_) fun c6b0 H => ?neg
   case neg =>
    obtain rfl := oin H
    go_wp2
    go_ret
    exact ⟨_, er, kr HO_3.out, tb HB⟩
   obtain ⟨c7b0, H⟩ := itd H
   obtain ⟨c8b0, H⟩ := itd H
   obtain ⟨y115, hy115⟩ : ∃ y_ : List Int, y_ = (x3_1.set (x4_1 : Int).toNat (rd l0 x4_1)) := ⟨_, rfl⟩
   replace H : (laws_toIntS.l0 k1 l0 y115 (wrap64 (x4_1 + 1))) = some r := by first | (rw [hy115]; with_reducible exact H) | (have H2_ := (Option.bind_some _ _).symm.trans H; rw [hy115]; with_reducible exact H2_) | (have H2_ := (Option.bind_some _ _).symm.trans H; with_reducible exact H2_) | with_reducible exact H | (rw [hy115]; exact H) | exact H
   have Ny115 := Aside0.mk hy115
   clear hy115
   have H' := Aside0.mk H
   clear H
   have p114 : 0 ≤ (x4_1 : Int) := od
   have q114 : x4_1 < (l0.length : Int) := od
   obtain ⟨ad114, e114, hx114_0⟩ := Kd.at_int HR0.out x4_1 p114 q114
   cases e114
   replace hx114_0 := ox HB hx114_0
   replace p114 := eq_true p114
   replace q114 := eq_true q114
   have p9 : 0 ≤ (x4_1 : Int) := od
   have q9 : (x4_1 : Int) < ((x3_1.length : Int) : Int) := od
   obtain ⟨go9, co9, eo9, gb9, gl9, cl9, HG9⟩ := Kd.R_form HO_3.out (by omega)
   (first | cases eo9 | (injection eo9 with ea_ en_ ec_; (first | subst ea_ | (injection ea_ with ea_; subst ea_)); subst ec_; clear en_))
   have GB9 := Aside0.mk gb9
   have GG9 := Aside0.mk HG9
   clear gb9 gl9 HG9
   obtain ⟨hx9_0, hf9_0⟩ := Kd.R_celln 0 HO_3.out (x4_1 : Int) p9 q9
   replace p9 := eq_true p9
   replace q9 := eq_true q9
   have HP10 := Kd.R_putg HO_3.out (x4_1 : Int) (rd l0 x4_1)
   go_wp2_with (first | ((with_reducible refine gate_store (t := 3) (p := 20) rfl ?_); refine store_event (t := 3) (p := 20) (v := ?vo_w11) (w1 := (wr.setCell ⟨go9, (x4_1 : Int).toNat, none⟩ (.int .i64 (rd l0 x4_1)))) ?hg ?ho ?hn ?hr ?_; (case ho => rfl); (case hg => rfl); (case hn => rfl); (case hr => first | (go_simp; done) | (go_simp; rfl)); intro w11 hw; have hg : wr.grownBy w11 (some go9) := (by rw [hw]; exact HP10.2); have hp_ : Kd.R (Kd.int .i64) 3 w11 w.heap.size (fun _ => True) (.slice (some ⟨go9, 0, none⟩) x3_1.length co9) y115 := (by rw [hw, Ny115.out]; exact HP10.1); clear HP10; replace HO_3 := Aside0.mk (hp_); replace HB := Aside0.mk ((by rw [hw]; exact below_set (HB.out) GB9.out : Below w.heap.size w w11)); clear hg hw hp_))
   go_roundg k1
   case measure => have := HK1.out; omega
   case rel => exact ⟨(y115), (wrap64 (x4_1 + 1)), rsd, H', ⟨by have := HK1.out; omega⟩, ⟨kr HO_3.out⟩, ⟨tb HB⟩⟩
def laws_eqIntS.l0 : Nat → List Int → List Int → Int → Option (Bool)
 | 0, _, _, _ => none
 | k + 1, x0, x1, x5 => if x5 < (x0.length : Int) then (if 0 ≤ x5 then (if x5 < (x1.length : Int) then (if (rd x0 x5) = (rd x1 x5) then (laws_eqIntS.l0 k x0 x1 (wrap64 (x5 + 1))) else (some false)) else (none)) else (none)) else (some true)
def laws_eqIntS.f (k : Nat) (l0 : List Int) (l1 : List Int) : Option (Bool) := if (l0.length : Int) = (l1.length : Int) then (laws_eqIntS.l0 k l0 l1 0) else (some false)
set_option maxHeartbeats 8000000 in
set_option maxRecDepth 100000 in
theorem laws_eqIntS.calls (k : Nat) (A0 : Option Addr) (c0 : Nat) (l0 : List Int) (A1 : Option Addr) (c1 : Nat) (l1 : List Int) (r : Bool) (w : World) (hr0 : Kd.C (Kd.int .i64) w A0 l0.length l0) (hc0 : l0.length ≤ c0) (hr1 : Kd.C (Kd.int .i64) w A1 l1.length l1) (hc1 : l1.length ≤ c1) (h : laws_eqIntS.f k l0 l1 = some r) :
  Calls Try.prog 14 #[.slice A0 l0.length c0, .slice A1 l1.length c1] w fun e w' => e = .returned (.bool r) ∧ Drawn0 w w' := by
 have HR0 := Aside0.mk hr0
 have HC0 := Aside0.mk hc0
 clear hr0 hc0
 have HR1 := Aside0.mk hr1
 have HC1 := Aside0.mk hc1
 clear hr1 hc1
 have H := h
 clear h
 unfold laws_eqIntS.f at H
 by_cases c3 : (l0.length : Int) = (l1.length : Int)
 case neg =>
  rw [if_neg c3] at H
  have c3b0 : ((l0.length : Int) == (l1.length : Int)) = false := beq_eq_false_iff_ne.mpr c3
  have c3b1 : ((l0.length : Int) != (l1.length : Int)) = true := bne_iff_ne.mpr c3
  have c3b2 : (l0.length == l1.length) = false := by first | simpa using c3 | (simp at c3 ⊢; omega)
  obtain rfl := oin H
  go_enter Try.func14, Try.ntmps14
  go_wp2
  repeat (go_quiet (fail); try go_wp2)
  go_ret
  exact ⟨rsd, by repeat (first | exact Drawn0.refl _ | apply Drawn0.step)⟩
 
 
 rw [if_pos c3] at H
 have c3b0 : ((l0.length : Int) == (l1.length : Int)) = true := beq_iff_eq.mpr c3
 have c3b1 : ((l0.length : Int) != (l1.length : Int)) = false := bne_eq_false_iff_eq.mpr c3
 have c3b2 : (l0.length == l1.length) = true := by first | simpa using c3 | (simp at c3 ⊢; omega)
 clear c3
 have H' := Aside0.mk H
 clear H
 go_enter Try.func14, Try.ntmps14
 go_wp2
 repeat (go_quiet (fail); try go_wp2)
 go_loopg [5] k (fun kq v5 w' => ∃ (x5_1 : Int), v5 = .int .i64 x5_1 ∧ Aside0 (laws_eqIntS.l0 kq l0 l1 x5_1 = some r) ∧ Aside0 (kq ≤ k) ∧ Drawn0 w w')
 case atStart => exact ⟨(0), rsd, H', ⟨Nat.le_refl _⟩, by repeat (first | exact Drawn0.refl _ | apply Drawn0.step)⟩
 case round =>
  clear H'
  obtain ⟨x5_1, rfl, HA, HK1, ⟨m1, rfl⟩⟩ := hrel
  cases gk with
  | zero => exact absurd HA.out (by simp [laws_eqIntS.l0])
  | succ k1 =>
   have H := HA.out
   clear HA
   simp only [laws_eqIntS.l0] at H
   revert H; refine icd (fun c4b0 H => ?_) fun c4b0 H => ?neg
   case neg =>
    obtain rfl := oin H
    go_wp2
    repeat (go_quiet (fail); try go_wp2)
    go_ret
    exact ⟨rsd, by repeat (first | exact Drawn0.refl _ | apply Drawn0.step)⟩
   obtain ⟨c5b0, H⟩ := itd H
   obtain ⟨c6b0, H⟩ := itd H
   by_cases c7 : (rd l0 x5_1) = (rd l1 x5_1)
   case neg =>
    rw [if_neg c7] at H
    have c7b0 : ((rd l0 x5_1) == (rd l1 x5_1)) = false := beq_eq_false_iff_ne.mpr c7
    have c7b1 : ((rd l0 x5_1) != (rd l1 x5_1)) = true := bne_iff_ne.mpr c7
    obtain rfl := oin H
    have p125 : 0 ≤ (x5_1 : Int) := od
    have q125 : x5_1 < (l0.length : Int) := od
    obtain ⟨ad125, e125, hx125_0⟩ := Kd.at_int HR0.out x5_1 p125 q125
    cases e125
    replace p125 := eq_true p125
    replace q125 := eq_true q125
    have p126 : 0 ≤ (x5_1 : Int) := od
    have q126 : x5_1 < (l1.length : Int) := od
    obtain ⟨ad126, e126, hx126_0⟩ := Kd.at_int HR1.out x5_1 p126 q126
    cases e126
    replace p126 := eq_true p126
    replace q126 := eq_true q126
    go_wp2
    repeat (go_quiet (fail); try go_wp2)
    go_ret
    exact ⟨rsd, by repeat (first | exact Drawn0.refl _ | apply Drawn0.step)⟩
   rw [if_pos c7] at H
   have c7b0 : ((rd l0 x5_1) == (rd l1 x5_1)) = true := beq_iff_eq.mpr c7
   have c7b1 : ((rd l0 x5_1) != (rd l1 x5_1)) = false := bne_eq_false_iff_eq.mpr c7
   clear c7
   have H' := Aside0.mk H
   clear H
   have p125 : 0 ≤ (x5_1 : Int) := od
   have q125 : x5_1 < (l0.length : Int) := od
   obtain ⟨ad125, e125, hx125_0⟩ := Kd.at_int HR0.out x5_1 p125 q125
   cases e125
   replace p125 := eq_true p125
   replace q125 := eq_true q125
   have p126 : 0 ≤ (x5_1 : Int) := od
   have q126 : x5_1 < (l1.length : Int) := od
   obtain ⟨ad126, e126, hx126_0⟩ := Kd.at_int HR1.out x5_1 p126 q126
   cases e126
   replace p126 := eq_true p126
   replace q126 := eq_true q126
   go_wp2
   repeat (go_quiet (fail); try go_wp2)
   go_roundg k1
   case measure => have := HK1.out; omega
   case rel => exact ⟨(wrap64 (x5_1 + 1)), rsd, H', ⟨by have := HK1.out; omega⟩, by repeat (first | exact Drawn0.refl _ | apply Drawn0.step)⟩
def laws_markIntS.l0 : Nat → List Int → Int → Int → Option (Int × List Int)
 | 0, _, _, _ => none
 | k + 1, x0, x1, x5 => if x5 < (x0.length : Int) then (if 0 ≤ x5 then (laws_markIntS.l0 k (x0.set (x5 : Int).toNat x1) (wrap64 (x1 + 1)) (wrap64 (x5 + 1))) else (none)) else (some (x1, x0))
def laws_markIntS.f (k : Nat) (l0 : List Int) (a1 : Int) : Option (Int × List Int) := laws_markIntS.l0 k l0 a1 0
theorem laws_markIntS.mono_l : ∀ k, (∀ y0 y1 y2, LeO (laws_markIntS.l0 k y0 y1 y2) (laws_markIntS.l0 (k + 1) y0 y1 y2))
 | 0 => fun _ _ _ r h => by simp [laws_markIntS.l0] at h
 | k + 1 => by
  have ih0 := laws_markIntS.mono_l k
  ·intro y0 y1 y2
   unfold laws_markIntS.l0
   repeat' first
   | (with_reducible exact ih0 _ _ _)
   | (with_reducible exact LeO.refl _)
   | (with_reducible exact LeO.none _)
   | (with_reducible refine LeO.ite ?_ ?_)
   | (with_reducible refine LeO.bind ?_ (fun _ => ?_))
   | exact ih0 _ _ _
   | exact LeO.none _
   | refine LeO.ite ?_ ?_
   | refine LeO.bind ?_ (fun _ => ?_)
theorem laws_markIntS.mono : ∀ a0 a1 k, LeO (laws_markIntS.f k a0 a1) (laws_markIntS.f (k + 1) a0 a1) := by
 intro a0 a1 k
 have ih0 := laws_markIntS.mono_l k
 unfold laws_markIntS.f
 repeat' first
   | (with_reducible exact ih0 _ _ _)
   | (with_reducible exact LeO.refl _)
   | (with_reducible exact LeO.none _)
   | (with_reducible refine LeO.ite ?_ ?_)
   | (with_reducible refine LeO.bind ?_ (fun _ => ?_))
   | exact ih0 _ _ _
   | exact LeO.none _
   | refine LeO.ite ?_ ?_
   | refine LeO.bind ?_ (fun _ => ?_)
set_option maxHeartbeats 8000000 in
set_option maxRecDepth 100000 in
theorem laws_markIntS.calls (k : Nat) (P0_ : Nat → Prop) (u9000_ : Value) (l0 : List Int) (a1 : Int) (r1 : Int) (r2 : List Int) (w0 w : World) (hB : Below w0.heap.size w0 w) (ho0 : Kd.R (Kd.int .i64) 3 w w0.heap.size P0_ u9000_ l0) (h : laws_markIntS.f k l0 a1 = some (r1, r2)) :
  Calls Try.prog 30 #[u9000_, .int .i64 a1] w fun e w' => e = .returned (.int .i64 r1) ∧ Kd.R (Kd.int .i64) 3 w' w0.heap.size (fun k_ => (P0_ k_ ∨ w.heap.size ≤ k_)) u9000_ r2 ∧ Below w0.heap.size w0 w' ∧ Kept w w' (fun k_ => P0_ k_) := by
 have HO0 := Aside0.mk (show Kd.R (Kd.int .i64) 3 w w0.heap.size (fun k_ => (P0_ k_ ∨ w.heap.size ≤ k_)) u9000_ l0 from Kd.R_mono ho0 (fun k_ hk => (.inl hk)))
 have HK := Aside0.mk (Kept.refl w (fun k_ => P0_ k_))
 have HW0 := Aside0.mk hB.size
 have HB := Aside0.mk hB
 clear hB
 have H := h
 clear h
 unfold laws_markIntS.f at H
 have H' := Aside0.mk H
 clear H
 go_enter Try.func30, Try.ntmps30
 go_wp2
 go_loopg [1, 5] k (fun kq v1 v5 w' => ∃ (x0_1 : List Int) (x1_1 : Int) (x5_1 : Int), v1 = .int .i64 x1_1 ∧ v5 = .int .i64 x5_1 ∧ Aside0 (laws_markIntS.l0 kq x0_1 x1_1 x5_1 = some (r1, r2)) ∧ Aside0 (kq ≤ k) ∧ Aside0 (Kd.R (Kd.int .i64) 3 w' w0.heap.size (fun k_ => (P0_ k_ ∨ w.heap.size ≤ k_)) u9000_ x0_1) ∧ Aside0 (Kept w w' (fun k_ => P0_ k_)) ∧ Aside0 (Below w0.heap.size w0 w'))
 case atStart => exact ⟨(l0), (a1), (0), rsd, rsd, H', ⟨Nat.le_refl _⟩, ⟨kr HO0.out⟩, ⟨by repeat (first | (with_reducible first | exact HK.out | apply Kept.alloc | apply Kept.drewN | apply Kept.drew) | exact HK.out)⟩, ⟨tb HB⟩⟩
 case round =>
  clear H'
  obtain ⟨x0_1, x1_1, x5_1, rfl, rfl, HA, HK1, HO_0, HK, HB⟩ := hrel
  cases gk with
  | zero => exact absurd HA.out (by simp [laws_markIntS.l0])
  | succ k1 =>
   have H := HA.out
   clear HA
   simp only [laws_markIntS.l0] at H
   revert H; refine icd (fun c3b0 H => ?_) fun c3b0 H => ?neg
   case neg =>
    simp only [Option.some.injEq, Prod.mk.injEq] at H
    obtain ⟨rfl, rfl⟩ := H
    obtain ⟨Ao9, co9, eo9⟩ := Kd.R_slice HO_0.out
    subst eo9
    go_wp2
    go_ret
    exact ⟨er, kr HO_0.out, tb HB, by repeat (first | (with_reducible first | exact HK.out | apply Kept.alloc | apply Kept.drewN | apply Kept.drew) | exact HK.out)⟩
   obtain ⟨c4b0, H⟩ := itd H
   obtain ⟨y418, hy418⟩ : ∃ y_ : List Int, y_ = (x0_1.set (x5_1 : Int).toNat x1_1) := ⟨_, rfl⟩
   replace H : (laws_markIntS.l0 k1 y418 (wrap64 (x1_1 + 1)) (wrap64 (x5_1 + 1))) = some (r1, r2) := by first | (rw [hy418]; with_reducible exact H) | (have H2_ := (Option.bind_some _ _).symm.trans H; rw [hy418]; with_reducible exact H2_) | (have H2_ := (Option.bind_some _ _).symm.trans H; with_reducible exact H2_) | with_reducible exact H | (rw [hy418]; exact H) | exact H
   have Ny418 := Aside0.mk hy418
   clear hy418
   have H' := Aside0.mk H
   clear H
   obtain ⟨Ao6, co6, eo6⟩ := Kd.R_slice HO_0.out
   subst eo6
   have p5 : 0 ≤ (x5_1 : Int) := od
   have q5 : (x5_1 : Int) < ((x0_1.length : Int) : Int) := od
   obtain ⟨go5, co5, eo5, gb5, gl5, cl5, HG5⟩ := Kd.R_form HO_0.out (by omega)
   (first | cases eo5 | (injection eo5 with ea_ en_ ec_; (first | subst ea_ | (injection ea_ with ea_; subst ea_)); subst ec_; clear en_))
   have GB5 := Aside0.mk gb5
   have GG5 := Aside0.mk HG5
   clear gb5 gl5 HG5
   have HMgo5 := Aside0.mk (show (P0_ go5 ∨ w.heap.size ≤ go5) from (HO_0.out.1 _ rfl))
   obtain ⟨hx5_0, hf5_0⟩ := Kd.R_celln 0 HO_0.out (x5_1 : Int) p5 q5
   replace p5 := eq_true p5
   replace q5 := eq_true q5
   have HP7 := Kd.R_putg HO_0.out (x5_1 : Int) x1_1
   go_wp2_with (first | ((with_reducible refine gate_store (t := 3) (p := 15) rfl ?_); refine store_event (t := 3) (p := 15) (v := ?vo_w8) (w1 := (wr.setCell ⟨go5, (x5_1 : Int).toNat, none⟩ (.int .i64 x1_1))) ?hg ?ho ?hn ?hr ?_; (case ho => rfl); (case hg => rfl); (case hn => rfl); (case hr => first | (go_simp; done) | (go_simp; rfl)); intro w8 hw; have hg : wr.grownBy w8 (some go5) := (by rw [hw]; exact HP7.2); have hp_ : Kd.R (Kd.int .i64) 3 w8 w0.heap.size (fun k_ => (P0_ k_ ∨ w.heap.size ≤ k_)) (.slice (some ⟨go5, 0, none⟩) x0_1.length co6) y418 := (by rw [hw, Ny418.out]; exact HP7.1); clear HP7; replace HB := Aside0.mk ((by rw [hw]; exact below_set (HB.out) GB5.out : Below w0.heap.size w0 w8)); replace HK := Aside0.mk (Kept.of_grown (S := (fun k_ => P0_ k_)) hg (by repeat (first | (with_reducible first | exact HK.out | apply Kept.alloc | apply Kept.drewN | apply Kept.drew) | exact HK.out)) (fun k_ e_ => (HO_0.out.1 k_ e_))); replace HO_0 := Aside0.mk (hp_); clear hg hw hp_))
   go_roundg k1
   case measure => have := HK1.out; omega
   case rel => exact ⟨(y418), (wrap64 (x1_1 + 1)), (wrap64 (x5_1 + 1)), rsd, rsd, H', ⟨by have := HK1.out; omega⟩, ⟨kr HO_0.out⟩, ⟨by repeat (first | (with_reducible first | exact HK.out | apply Kept.alloc | apply Kept.drewN | apply Kept.drew) | exact HK.out)⟩, ⟨tb HB⟩⟩
def laws_heldIntS.l0 : Nat → List Int → Int → Int → Option (Int)
 | 0, _, _, _ => none
 | k + 1, x0, x1, x5 => if x5 < (x0.length : Int) then (if 0 ≤ x5 then (if (rd x0 x5) = x1 then (laws_heldIntS.l0 k x0 (wrap64 (x1 + 1)) (wrap64 (x5 + 1))) else (some (-1))) else (none)) else (some x1)
def laws_heldIntS.f (k : Nat) (l0 : List Int) (a1 : Int) : Option (Int) := laws_heldIntS.l0 k l0 a1 0
set_option maxHeartbeats 8000000 in
set_option maxRecDepth 100000 in
theorem laws_heldIntS.calls (k : Nat) (A0 : Option Addr) (c0 : Nat) (l0 : List Int) (a1 : Int) (r : Int) (w : World) (hr0 : Kd.C (Kd.int .i64) w A0 l0.length l0) (hc0 : l0.length ≤ c0) (h : laws_heldIntS.f k l0 a1 = some r) :
  Calls Try.prog 31 #[.slice A0 l0.length c0, .int .i64 a1] w fun e w' => e = .returned (.int .i64 r) ∧ Drawn0 w w' := by
 have HR0 := Aside0.mk hr0
 have HC0 := Aside0.mk hc0
 clear hr0 hc0
 have H := h
 clear h
 unfold laws_heldIntS.f at H
 have H' := Aside0.mk H
 clear H
 go_enter Try.func31, Try.ntmps31
 go_wp2
 go_loopg [1, 5] k (fun kq v1 v5 w' => ∃ (x1_1 : Int) (x5_1 : Int), v1 = .int .i64 x1_1 ∧ v5 = .int .i64 x5_1 ∧ Aside0 (laws_heldIntS.l0 kq l0 x1_1 x5_1 = some r) ∧ Aside0 (kq ≤ k) ∧ Drawn0 w w')
 case atStart => exact ⟨(a1), (0), rsd, rsd, H', ⟨Nat.le_refl _⟩, by repeat (first | exact Drawn0.refl _ | apply Drawn0.step)⟩
 case round =>
  clear H'
  obtain ⟨x1_1, x5_1, rfl, rfl, HA, HK1, ⟨m1, rfl⟩⟩ := hrel
  cases gk with
  | zero => exact absurd HA.out (by simp [laws_heldIntS.l0])
  | succ k1 =>
   have H := HA.out
   clear HA
   simp only [laws_heldIntS.l0] at H
   revert H; refine icd (fun c3b0 H => ?_) fun c3b0 H => ?neg
   case neg =>
    obtain rfl := oin H
    go_wp2
    go_ret
    exact ⟨rsd, by repeat (first | exact Drawn0.refl _ | apply Drawn0.step)⟩
   obtain ⟨c4b0, H⟩ := itd H
   by_cases c5 : (rd l0 x5_1) = x1_1
   case neg =>
    rw [if_neg c5] at H
    have c5b0 : ((rd l0 x5_1) == x1_1) = false := beq_eq_false_iff_ne.mpr c5
    have c5b1 : ((rd l0 x5_1) != x1_1) = true := bne_iff_ne.mpr c5
    obtain rfl := oin H
    have p422 : 0 ≤ (x5_1 : Int) := od
    have q422 : x5_1 < (l0.length : Int) := od
    obtain ⟨ad422, e422, hx422_0⟩ := Kd.at_int HR0.out x5_1 p422 q422
    cases e422
    replace p422 := eq_true p422
    replace q422 := eq_true q422
    go_wp2
    go_ret
    exact ⟨rsd, by repeat (first | exact Drawn0.refl _ | apply Drawn0.step)⟩
   rw [if_pos c5] at H
   have c5b0 : ((rd l0 x5_1) == x1_1) = true := beq_iff_eq.mpr c5
   have c5b1 : ((rd l0 x5_1) != x1_1) = false := bne_eq_false_iff_eq.mpr c5
   clear c5
   have H' := Aside0.mk H
   clear H
   have p422 : 0 ≤ (x5_1 : Int) := od
   have q422 : x5_1 < (l0.length : Int) := od
   obtain ⟨ad422, e422, hx422_0⟩ := Kd.at_int HR0.out x5_1 p422 q422
   cases e422
   replace p422 := eq_true p422
   replace q422 := eq_true q422
   go_wp2
   go_roundg k1
   case measure => have := HK1.out; omega
   case rel => exact ⟨(wrap64 (x1_1 + 1)), (wrap64 (x5_1 + 1)), rsd, rsd, H', ⟨by have := HK1.out; omega⟩, by repeat (first | exact Drawn0.refl _ | apply Drawn0.step)⟩
def laws_markEntryS.l0 : Nat → List (S166) → Int → Int → Option (Int × (List (S166)))
 | 0, _, _, _ => none
 | k + 1, x0, x1, x5 => if x5 < (x0.length : Int) then (if 0 ≤ x5 then ((some (x0.set (x5 : Int).toNat (⟨x1, (rd_T166 x0 x5).f1, (rd_T166 x0 x5).f2⟩ : S166) : List (S166))).bind fun y419 => ((some (y419.set (x5 : Int).toNat (⟨(rd_T166 y419 x5).f0, wrap64 (x1 + 1), (rd_T166 y419 x5).f2⟩ : S166) : List (S166))).bind fun y420 => (laws_markEntryS.l0 k (y420.set (x5 : Int).toNat (⟨(rd_T166 y420 x5).f0, (rd_T166 y420 x5).f1, wrap64 ((wrap64 (x1 + 1)) + 1)⟩ : S166)) (wrap64 ((wrap64 ((wrap64 (x1 + 1)) + 1)) + 1)) (wrap64 (x5 + 1))))) else (none)) else (some (x1, x0))
def laws_markEntryS.f (k : Nat) (l0 : List (S166)) (a1 : Int) : Option (Int × (List (S166))) := laws_markEntryS.l0 k l0 a1 0
theorem laws_markEntryS.mono_l : ∀ k, (∀ y0 y1 y2, LeO (laws_markEntryS.l0 k y0 y1 y2) (laws_markEntryS.l0 (k + 1) y0 y1 y2))
 | 0 => fun _ _ _ r h => by simp [laws_markEntryS.l0] at h
 | k + 1 => by
  have ih0 := laws_markEntryS.mono_l k
  ·intro y0 y1 y2
   unfold laws_markEntryS.l0
   repeat' first
   | (with_reducible exact ih0 _ _ _)
   | (with_reducible exact LeO.refl _)
   | (with_reducible exact LeO.none _)
   | (with_reducible refine LeO.ite ?_ ?_)
   | (with_reducible refine LeO.bind ?_ (fun _ => ?_))
   | exact ih0 _ _ _
   | exact LeO.none _
   | refine LeO.ite ?_ ?_
   | refine LeO.bind ?_ (fun _ => ?_)
theorem laws_markEntryS.mono : ∀ a0 a1 k, LeO (laws_markEntryS.f k a0 a1) (laws_markEntryS.f (k + 1) a0 a1) := by
 intro a0 a1 k
 have ih0 := laws_markEntryS.mono_l k
 unfold laws_markEntryS.f
 repeat' first
   | (with_reducible exact ih0 _ _ _)
   | (with_reducible exact LeO.refl _)
   | (with_reducible exact LeO.none _)
   | (with_reducible refine LeO.ite ?_ ?_)
   | (with_reducible refine LeO.bind ?_ (fun _ => ?_))
   | exact ih0 _ _ _
   | exact LeO.none _
   | refine LeO.ite ?_ ?_
   | refine LeO.bind ?_ (fun _ => ?_)
set_option maxHeartbeats 8000000 in
set_option maxRecDepth 100000 in
theorem laws_markEntryS.calls (k : Nat) (P0_ : Nat → Prop) (u9000_ : Value) (l0 : List (S166)) (a1 : Int) (r1 : Int) (r2 : List (S166)) (w0 w : World) (hB : Below w0.heap.size w0 w) (ho0 : Kd.R k166 166 w w0.heap.size P0_ u9000_ l0) (h : laws_markEntryS.f k l0 a1 = some (r1, r2)) :
  Calls Try.prog 69 #[u9000_, .int .i64 a1] w fun e w' => e = .returned (.int .i64 r1) ∧ Kd.R k166 166 w' w0.heap.size (fun k_ => (P0_ k_ ∨ w.heap.size ≤ k_)) u9000_ r2 ∧ Below w0.heap.size w0 w' ∧ Kept w w' (fun k_ => P0_ k_) := by
 have HO0 := Aside0.mk (show Kd.R k166 166 w w0.heap.size (fun k_ => (P0_ k_ ∨ w.heap.size ≤ k_)) u9000_ l0 from Kd.R_mono ho0 (fun k_ hk => (.inl hk)))
 have HK := Aside0.mk (Kept.refl w (fun k_ => P0_ k_))
 have HW0 := Aside0.mk hB.size
 have HB := Aside0.mk hB
 clear hB
 have H := h
 clear h
 unfold laws_markEntryS.f at H
 have H' := Aside0.mk H
 clear H
 go_enter Try.func69, Try.ntmps69
 go_wp2
 go_loopg [1, 5] k (fun kq v1 v5 w' => ∃ (x0_1 : List (S166)) (x1_1 : Int) (x5_1 : Int), v1 = .int .i64 x1_1 ∧ v5 = .int .i64 x5_1 ∧ Aside0 (laws_markEntryS.l0 kq x0_1 x1_1 x5_1 = some (r1, r2)) ∧ Aside0 (kq ≤ k) ∧ Aside0 (Kd.R k166 166 w' w0.heap.size (fun k_ => (P0_ k_ ∨ w.heap.size ≤ k_)) u9000_ x0_1) ∧ Aside0 (Kept w w' (fun k_ => P0_ k_)) ∧ Aside0 (Below w0.heap.size w0 w'))
 case atStart => exact ⟨(l0), (a1), (0), rsd, rsd, H', ⟨Nat.le_refl _⟩, ⟨kr HO0.out⟩, ⟨by repeat (first | (with_reducible first | exact HK.out | apply Kept.alloc | apply Kept.drewN | apply Kept.drew) | exact HK.out)⟩, ⟨tb HB⟩⟩
 case round =>
  clear H'
  obtain ⟨x0_1, x1_1, x5_1, rfl, rfl, HA, HK1, HO_0, HK, HB⟩ := hrel
  cases gk with
  | zero => exact absurd HA.out (by simp [laws_markEntryS.l0])
  | succ k1 =>
   have H := HA.out
   clear HA
   simp only [laws_markEntryS.l0] at H
   revert H; refine icd (fun c3b0 H => ?_) fun c3b0 H => ?neg
   case neg =>
    simp only [Option.some.injEq, Prod.mk.injEq] at H
    obtain ⟨rfl, rfl⟩ := H
    obtain ⟨Ao15, co15, eo15⟩ := Kd.R_slice HO_0.out
    subst eo15
    go_wp2
    go_ret
    exact ⟨er, kr HO_0.out, tb HB, by repeat (first | (with_reducible first | exact HK.out | apply Kept.alloc | apply Kept.drewN | apply Kept.drew) | exact HK.out)⟩
   obtain ⟨c4b0, H⟩ := itd H
   obtain ⟨y419, hy419⟩ : ∃ y_ : List (S166), y_ = (x0_1.set (x5_1 : Int).toNat (⟨x1_1, (rd_T166 x0_1 x5_1).f1, (rd_T166 x0_1 x5_1).f2⟩ : S166)) := ⟨_, rfl⟩
   replace H : ((some (y419.set (x5_1 : Int).toNat (⟨(rd_T166 y419 x5_1).f0, wrap64 (x1_1 + 1), (rd_T166 y419 x5_1).f2⟩ : S166) : List (S166))).bind fun y420 => (laws_markEntryS.l0 k1 (y420.set (x5_1 : Int).toNat (⟨(rd_T166 y420 x5_1).f0, (rd_T166 y420 x5_1).f1, wrap64 ((wrap64 (x1_1 + 1)) + 1)⟩ : S166)) (wrap64 ((wrap64 ((wrap64 (x1_1 + 1)) + 1)) + 1)) (wrap64 (x5_1 + 1)))) = some (r1, r2) := by first | (rw [hy419]; with_reducible exact H) | (have H2_ := (Option.bind_some _ _).symm.trans H; rw [hy419]; with_reducible exact H2_) | (have H2_ := (Option.bind_some _ _).symm.trans H; with_reducible exact H2_) | with_reducible exact H | (rw [hy419]; exact H) | exact H
   have Ny419 := Aside0.mk hy419
   clear hy419
   obtain ⟨y420, hy420⟩ : ∃ y_ : List (S166), y_ = (y419.set (x5_1 : Int).toNat (⟨(rd_T166 y419 x5_1).f0, wrap64 (x1_1 + 1), (rd_T166 y419 x5_1).f2⟩ : S166)) := ⟨_, rfl⟩
   replace H : (laws_markEntryS.l0 k1 (y420.set (x5_1 : Int).toNat (⟨(rd_T166 y420 x5_1).f0, (rd_T166 y420 x5_1).f1, wrap64 ((wrap64 (x1_1 + 1)) + 1)⟩ : S166)) (wrap64 ((wrap64 ((wrap64 (x1_1 + 1)) + 1)) + 1)) (wrap64 (x5_1 + 1))) = some (r1, r2) := by first | (rw [hy420]; with_reducible exact H) | (have H2_ := (Option.bind_some _ _).symm.trans H; rw [hy420]; with_reducible exact H2_) | (have H2_ := (Option.bind_some _ _).symm.trans H; with_reducible exact H2_) | with_reducible exact H | (rw [hy420]; exact H) | exact H
   have Ny420 := Aside0.mk hy420
   clear hy420
   obtain ⟨y421, hy421⟩ : ∃ y_ : List (S166), y_ = (y420.set (x5_1 : Int).toNat (⟨(rd_T166 y420 x5_1).f0, (rd_T166 y420 x5_1).f1, wrap64 ((wrap64 (x1_1 + 1)) + 1)⟩ : S166)) := ⟨_, rfl⟩
   replace H : (laws_markEntryS.l0 k1 y421 (wrap64 ((wrap64 ((wrap64 (x1_1 + 1)) + 1)) + 1)) (wrap64 (x5_1 + 1))) = some (r1, r2) := by first | (rw [hy421]; with_reducible exact H) | (have H2_ := (Option.bind_some _ _).symm.trans H; rw [hy421]; with_reducible exact H2_) | (have H2_ := (Option.bind_some _ _).symm.trans H; with_reducible exact H2_) | with_reducible exact H | (rw [hy421]; exact H) | exact H
   have Ny421 := Aside0.mk hy421
   clear hy421
   have H' := Aside0.mk H
   clear H
   obtain ⟨Ao8, co8, eo8⟩ := Kd.R_slice HO_0.out
   subst eo8
   have p5 : 0 ≤ (x5_1 : Int) := od
   have q5 : (x5_1 : Int) < ((x0_1.length : Int) : Int) := od
   obtain ⟨go5, co5, eo5, gb5, gl5, cl5, HG5⟩ := Kd.R_form HO_0.out (by omega)
   (first | cases eo5 | (injection eo5 with ea_ en_ ec_; (first | subst ea_ | (injection ea_ with ea_; subst ea_)); subst ec_; clear en_))
   have GB5 := Aside0.mk gb5
   have GG5 := Aside0.mk HG5
   clear gb5 gl5 HG5
   have HMgo5 := Aside0.mk (show (P0_ go5 ∨ w.heap.size ≤ go5) from (HO_0.out.1 _ rfl))
   obtain ⟨ce5, hcl5, hM5, hcc5, hfr5⟩ := Kd.R_elem HO_0.out z166 (x5_1 : Int) p5 q5
   obtain rfl := k166_openM hM5
   have hx5_0 : wr.cell? ⟨go5, (x5_1 : Int).toNat * 3, none⟩ = some (.int .i64 ((rd_T166 x0_1 x5_1).f0)) := hcc5 0 _ rfl
   have hx5_1 : wr.cell? ⟨go5, (x5_1 : Int).toNat * 3 + 1, none⟩ = some (.int .i64 ((rd_T166 x0_1 x5_1).f1)) := hcc5 1 _ rfl
   have hx5_2 : wr.cell? ⟨go5, (x5_1 : Int).toNat * 3 + 2, none⟩ = some (.int .i64 ((rd_T166 x0_1 x5_1).f2)) := hcc5 2 _ rfl
   have hf5_0 : wr.frozen? ⟨go5, (x5_1 : Int).toNat * 3, none⟩ = false := hfr5 0
   have hf5_1 : wr.frozen? ⟨go5, (x5_1 : Int).toNat * 3 + 1, none⟩ = false := hfr5 1
   have hf5_2 : wr.frozen? ⟨go5, (x5_1 : Int).toNat * 3 + 2, none⟩ = false := hfr5 2
   clear hcl5 hcc5 hfr5 hM5
   replace p5 := eq_true p5
   replace q5 := eq_true q5
   have HX9 := Aside0.mk (show Kd.R k166 166 wr w0.heap.size (fun k_ => (P0_ k_ ∨ w.heap.size ≤ k_)) (.slice (some ⟨go5, 0, none⟩) x0_1.length co8) x0_1 from (kr HO_0.out))
   obtain ⟨ce9, hcl9, hM9, hcc9, hfr9⟩ := Kd.R_elem HX9.out z166 (x5_1 : Int) (od) (by have h_ : (x5_1 : Int) < ((x0_1.length : Int) : Int) := od; first | exact h_ | (have e_ := (Kd.R_reads' HO_0.out).1; omega) | simpa using h_)
   obtain rfl := k166_openM hM9
   have HP9 := Kd.R_seg HX9.out (x5_1 : Int) (od) (by have h_ : (x5_1 : Int) < ((x0_1.length : Int) : Int) := od; first | exact h_ | (have e_ := (Kd.R_reads' HO_0.out).1; omega) | simpa using h_) (seg := [.int .i64 x1_1]) (j := 0) hcl9 hcc9 (show 1 ≤ 3 from by decide) (x' := (⟨x1_1, (rd_T166 x0_1 x5_1).f1, (rd_T166 x0_1 x5_1).f2⟩ : S166)) (k166_mkM _ _ _ (⟨x1_1, (rd_T166 x0_1 x5_1).f1, (rd_T166 x0_1 x5_1).f2⟩ : S166) ) (fun _ hk => hk)
   have hx9_0 := hcc9 0 _ rfl
   (try simp only [show (k166).sz = 3 from rfl, Nat.mul_one, Nat.add_zero] at hx9_0)
   have hf9_0 := hfr9 0
   (try simp only [show (k166).sz = 3 from rfl, Nat.mul_one, Nat.add_zero] at hf9_0)
   clear hcl9 hcc9 hfr9 hM9
   go_wp2_with (first | ((with_reducible refine gate_store (t := 3) (p := 16) rfl ?_); refine store_event (t := 3) (p := 16) (v := ?vo_w10) (w1 := (wr.setCell ⟨go5, (x5_1 : Int).toNat * 3, none⟩ (.int .i64 x1_1))) ?hg ?ho ?hn ?hr ?_; (case ho => rfl); (case hg => rfl); (case hn => rfl); (case hr => first | (go_simp; done) | (go_simp; rfl)); intro w10 hw; have hg : wr.grownBy w10 (some go5) := (by rw [hw]; exact HP9.2); have hp_ : Kd.R k166 166 w10 w0.heap.size (fun k_ => (P0_ k_ ∨ w.heap.size ≤ k_)) (.slice (some ⟨go5, 0, none⟩) x0_1.length co8) y419 := (by rw [hw, Ny419.out]; exact HP9.1); clear HP9; replace HB := Aside0.mk ((by rw [hw]; exact below_set (HB.out) GB5.out : Below w0.heap.size w0 w10)); replace HK := Aside0.mk (Kept.of_grown (S := (fun k_ => P0_ k_)) hg (by repeat (first | (with_reducible first | exact HK.out | apply Kept.alloc | apply Kept.drewN | apply Kept.drew) | exact HK.out)) (fun k_ e_ => (HO_0.out.1 k_ e_))); replace HO_0 := Aside0.mk (hp_); clear hg hw hp_; have p6 : 0 ≤ (x5_1 : Int) := od; have q6 : (x5_1 : Int) < ((x0_1.length : Int) : Int) := od; obtain ⟨ce6, hcl6, hM6, hcc6, hfr6⟩ := Kd.R_elem HO_0.out z166 (x5_1 : Int) p6 q6; obtain rfl := k166_openM hM6; have hx6_0 : w10.cell? ⟨go5, (x5_1 : Int).toNat * 3, none⟩ = some (.int .i64 ((rd_T166 y419 x5_1).f0)) := hcc6 0 _ rfl; have hx6_1 : w10.cell? ⟨go5, (x5_1 : Int).toNat * 3 + 1, none⟩ = some (.int .i64 ((rd_T166 y419 x5_1).f1)) := hcc6 1 _ rfl; have hx6_2 : w10.cell? ⟨go5, (x5_1 : Int).toNat * 3 + 2, none⟩ = some (.int .i64 ((rd_T166 y419 x5_1).f2)) := hcc6 2 _ rfl; have hf6_0 : w10.frozen? ⟨go5, (x5_1 : Int).toNat * 3, none⟩ = false := hfr6 0; have hf6_1 : w10.frozen? ⟨go5, (x5_1 : Int).toNat * 3 + 1, none⟩ = false := hfr6 1; have hf6_2 : w10.frozen? ⟨go5, (x5_1 : Int).toNat * 3 + 2, none⟩ = false := hfr6 2; clear hcl6 hcc6 hfr6 hM6; replace p6 := eq_true p6; replace q6 := eq_true q6; have HX11 := Aside0.mk (show Kd.R k166 166 w10 w0.heap.size (fun k_ => (P0_ k_ ∨ w.heap.size ≤ k_)) (.slice (some ⟨go5, 0, none⟩) x0_1.length co8) y419 from (kr HO_0.out)); obtain ⟨ce11, hcl11, hM11, hcc11, hfr11⟩ := Kd.R_elem HX11.out z166 (x5_1 : Int) (od) (by have h_ : (x5_1 : Int) < ((x0_1.length : Int) : Int) := od; first | exact h_ | (have e_ := (Kd.R_reads' HO_0.out).1; omega) | simpa using h_); obtain rfl := k166_openM hM11; have HP11 := Kd.R_seg HX11.out (x5_1 : Int) (od) (by have h_ : (x5_1 : Int) < ((x0_1.length : Int) : Int) := od; first | exact h_ | (have e_ := (Kd.R_reads' HO_0.out).1; omega) | simpa using h_) (seg := [.int .i64 (wrap64 (x1_1 + 1))]) (j := 1) hcl11 hcc11 (show 2 ≤ 3 from by decide) (x' := (⟨(rd_T166 y419 x5_1).f0, wrap64 (x1_1 + 1), (rd_T166 y419 x5_1).f2⟩ : S166)) (k166_mkM _ _ _ (⟨(rd_T166 y419 x5_1).f0, wrap64 (x1_1 + 1), (rd_T166 y419 x5_1).f2⟩ : S166) ) (fun _ hk => hk); have hx11_1 := hcc11 1 _ rfl; (try simp only [show (k166).sz = 3 from rfl, Nat.mul_one, Nat.add_zero] at hx11_1); have hf11_1 := hfr11 1; (try simp only [show (k166).sz = 3 from rfl, Nat.mul_one, Nat.add_zero] at hf11_1); clear hcl11 hcc11 hfr11 hM11) | ((with_reducible refine gate_store (t := 3) (p := 23) rfl ?_); refine store_event (t := 3) (p := 23) (v := ?vo_w12) (w1 := (w10.setCell ⟨go5, (x5_1 : Int).toNat * 3 + 1, none⟩ (.int .i64 (wrap64 (x1_1 + 1))))) ?hg ?ho ?hn ?hr ?_; (case ho => rfl); (case hg => rfl); (case hn => rfl); (case hr => first | (go_simp; done) | (go_simp; rfl)); intro w12 hw; have hg : w10.grownBy w12 (some go5) := (by rw [hw]; exact HP11.2); have hp_ : Kd.R k166 166 w12 w0.heap.size (fun k_ => (P0_ k_ ∨ w.heap.size ≤ k_)) (.slice (some ⟨go5, 0, none⟩) x0_1.length co8) y420 := (by rw [hw, Ny420.out]; exact HP11.1); clear HP11; replace HB := Aside0.mk ((by rw [hw]; exact below_set (HB.out) GB5.out : Below w0.heap.size w0 w12)); replace HK := Aside0.mk (Kept.of_grown (S := (fun k_ => P0_ k_)) hg (by repeat (first | (with_reducible first | exact HK.out | apply Kept.alloc | apply Kept.drewN | apply Kept.drew) | exact HK.out)) (fun k_ e_ => (HO_0.out.1 k_ e_))); replace HO_0 := Aside0.mk (hp_); clear hg hw hp_; have p7 : 0 ≤ (x5_1 : Int) := od; have q7 : (x5_1 : Int) < ((x0_1.length : Int) : Int) := od; obtain ⟨ce7, hcl7, hM7, hcc7, hfr7⟩ := Kd.R_elem HO_0.out z166 (x5_1 : Int) p7 q7; obtain rfl := k166_openM hM7; have hx7_0 : w12.cell? ⟨go5, (x5_1 : Int).toNat * 3, none⟩ = some (.int .i64 ((rd_T166 y420 x5_1).f0)) := hcc7 0 _ rfl; have hx7_1 : w12.cell? ⟨go5, (x5_1 : Int).toNat * 3 + 1, none⟩ = some (.int .i64 ((rd_T166 y420 x5_1).f1)) := hcc7 1 _ rfl; have hx7_2 : w12.cell? ⟨go5, (x5_1 : Int).toNat * 3 + 2, none⟩ = some (.int .i64 ((rd_T166 y420 x5_1).f2)) := hcc7 2 _ rfl; have hf7_0 : w12.frozen? ⟨go5, (x5_1 : Int).toNat * 3, none⟩ = false := hfr7 0; have hf7_1 : w12.frozen? ⟨go5, (x5_1 : Int).toNat * 3 + 1, none⟩ = false := hfr7 1; have hf7_2 : w12.frozen? ⟨go5, (x5_1 : Int).toNat * 3 + 2, none⟩ = false := hfr7 2; clear hcl7 hcc7 hfr7 hM7; replace p7 := eq_true p7; replace q7 := eq_true q7; have HX13 := Aside0.mk (show Kd.R k166 166 w12 w0.heap.size (fun k_ => (P0_ k_ ∨ w.heap.size ≤ k_)) (.slice (some ⟨go5, 0, none⟩) x0_1.length co8) y420 from (kr HO_0.out)); obtain ⟨ce13, hcl13, hM13, hcc13, hfr13⟩ := Kd.R_elem HX13.out z166 (x5_1 : Int) (od) (by have h_ : (x5_1 : Int) < ((x0_1.length : Int) : Int) := od; first | exact h_ | (have e_ := (Kd.R_reads' HO_0.out).1; omega) | simpa using h_); obtain rfl := k166_openM hM13; have HP13 := Kd.R_seg HX13.out (x5_1 : Int) (od) (by have h_ : (x5_1 : Int) < ((x0_1.length : Int) : Int) := od; first | exact h_ | (have e_ := (Kd.R_reads' HO_0.out).1; omega) | simpa using h_) (seg := [.int .i64 (wrap64 ((wrap64 (x1_1 + 1)) + 1))]) (j := 2) hcl13 hcc13 (show 3 ≤ 3 from by decide) (x' := (⟨(rd_T166 y420 x5_1).f0, (rd_T166 y420 x5_1).f1, wrap64 ((wrap64 (x1_1 + 1)) + 1)⟩ : S166)) (k166_mkM _ _ _ (⟨(rd_T166 y420 x5_1).f0, (rd_T166 y420 x5_1).f1, wrap64 ((wrap64 (x1_1 + 1)) + 1)⟩ : S166) ) (fun _ hk => hk); have hx13_2 := hcc13 2 _ rfl; (try simp only [show (k166).sz = 3 from rfl, Nat.mul_one, Nat.add_zero] at hx13_2); have hf13_2 := hfr13 2; (try simp only [show (k166).sz = 3 from rfl, Nat.mul_one, Nat.add_zero] at hf13_2); clear hcl13 hcc13 hfr13 hM13) | ((with_reducible refine gate_store (t := 3) (p := 30) rfl ?_); refine store_event (t := 3) (p := 30) (v := ?vo_w14) (w1 := (w12.setCell ⟨go5, (x5_1 : Int).toNat * 3 + 2, none⟩ (.int .i64 (wrap64 ((wrap64 (x1_1 + 1)) + 1))))) ?hg ?ho ?hn ?hr ?_; (case ho => rfl); (case hg => rfl); (case hn => rfl); (case hr => first | (go_simp; done) | (go_simp; rfl)); intro w14 hw; have hg : w12.grownBy w14 (some go5) := (by rw [hw]; exact HP13.2); have hp_ : Kd.R k166 166 w14 w0.heap.size (fun k_ => (P0_ k_ ∨ w.heap.size ≤ k_)) (.slice (some ⟨go5, 0, none⟩) x0_1.length co8) y421 := (by rw [hw, Ny421.out]; exact HP13.1); clear HP13; replace HB := Aside0.mk ((by rw [hw]; exact below_set (HB.out) GB5.out : Below w0.heap.size w0 w14)); replace HK := Aside0.mk (Kept.of_grown (S := (fun k_ => P0_ k_)) hg (by repeat (first | (with_reducible first | exact HK.out | apply Kept.alloc | apply Kept.drewN | apply Kept.drew) | exact HK.out)) (fun k_ e_ => (HO_0.out.1 k_ e_))); replace HO_0 := Aside0.mk (hp_); clear hg hw hp_))
   go_roundg k1
   case measure => have := HK1.out; omega
   case rel => exact ⟨(y421), (wrap64 ((wrap64 ((wrap64 (x1_1 + 1)) + 1)) + 1)), (wrap64 (x5_1 + 1)), rsd, rsd, H', ⟨by have := HK1.out; omega⟩, ⟨kr HO_0.out⟩, ⟨by repeat (first | (with_reducible first | exact HK.out | apply Kept.alloc | apply Kept.drewN | apply Kept.drew) | exact HK.out)⟩, ⟨tb HB⟩⟩
def laws_markWordS.l0 : Nat → List (S141) → Int → Int → Option (Int × (List (S141)))
 | 0, _, _, _ => none
 | k + 1, x0, x1, x5 => if x5 < (x0.length : Int) then (if 0 ≤ x5 then ((some (x0.set (x5 : Int).toNat (⟨x1, (rd_T141 x0 x5).f1, (rd_T141 x0 x5).f2⟩ : S141) : List (S141))).bind fun y415 => ((some (y415.set (x5 : Int).toNat (⟨(rd_T141 y415 x5).f0, wrap64 (x1 + 1), (rd_T141 y415 x5).f2⟩ : S141) : List (S141))).bind fun y416 => (laws_markWordS.l0 k (y416.set (x5 : Int).toNat (⟨(rd_T141 y416 x5).f0, (rd_T141 y416 x5).f1, wrap64 ((wrap64 (x1 + 1)) + 1)⟩ : S141)) (wrap64 ((wrap64 ((wrap64 (x1 + 1)) + 1)) + 1)) (wrap64 (x5 + 1))))) else (none)) else (some (x1, x0))
def laws_markWordS.f (k : Nat) (l0 : List (S141)) (a1 : Int) : Option (Int × (List (S141))) := laws_markWordS.l0 k l0 a1 0
set_option maxHeartbeats 8000000 in
set_option maxRecDepth 100000 in
theorem laws_markWordS.calls (k : Nat) (P0_ : Nat → Prop) (u9000_ : Value) (l0 : List (S141)) (a1 : Int) (r1 : Int) (r2 : List (S141)) (w0 w : World) (hB : Below w0.heap.size w0 w) (ho0 : Kd.R k141 141 w w0.heap.size P0_ u9000_ l0) (h : laws_markWordS.f k l0 a1 = some (r1, r2)) :
  Calls Try.prog 28 #[u9000_, .int .i64 a1] w fun e w' => e = .returned (.int .i64 r1) ∧ Kd.R k141 141 w' w0.heap.size (fun k_ => (P0_ k_ ∨ w.heap.size ≤ k_)) u9000_ r2 ∧ Below w0.heap.size w0 w' ∧ Kept w w' (fun k_ => P0_ k_) := by
 have HO0 := Aside0.mk (show Kd.R k141 141 w w0.heap.size (fun k_ => (P0_ k_ ∨ w.heap.size ≤ k_)) u9000_ l0 from Kd.R_mono ho0 (fun k_ hk => (.inl hk)))
 have HK := Aside0.mk (Kept.refl w (fun k_ => P0_ k_))
 have HW0 := Aside0.mk hB.size
 have HB := Aside0.mk hB
 clear hB
 have H := h
 clear h
 unfold laws_markWordS.f at H
 have H' := Aside0.mk H
 clear H
 go_enter Try.func28, Try.ntmps28
 go_wp2
 go_loopg [1, 5] k (fun kq v1 v5 w' => ∃ (x0_1 : List (S141)) (x1_1 : Int) (x5_1 : Int), v1 = .int .i64 x1_1 ∧ v5 = .int .i64 x5_1 ∧ Aside0 (laws_markWordS.l0 kq x0_1 x1_1 x5_1 = some (r1, r2)) ∧ Aside0 (kq ≤ k) ∧ Aside0 (Kd.R k141 141 w' w0.heap.size (fun k_ => (P0_ k_ ∨ w.heap.size ≤ k_)) u9000_ x0_1) ∧ Aside0 (Kept w w' (fun k_ => P0_ k_)) ∧ Aside0 (Below w0.heap.size w0 w'))
 case atStart => exact ⟨(l0), (a1), (0), rsd, rsd, H', ⟨Nat.le_refl _⟩, ⟨kr HO0.out⟩, ⟨by repeat (first | (with_reducible first | exact HK.out | apply Kept.alloc | apply Kept.drewN | apply Kept.drew) | exact HK.out)⟩, ⟨tb HB⟩⟩
 case round =>
  clear H'
  obtain ⟨x0_1, x1_1, x5_1, rfl, rfl, HA, HK1, HO_0, HK, HB⟩ := hrel
  cases gk with
  | zero => exact absurd HA.out (by simp [laws_markWordS.l0])
  | succ k1 =>
   have H := HA.out
   clear HA
   simp only [laws_markWordS.l0] at H
   revert H; refine icd (fun c3b0 H => ?_) fun c3b0 H => ?neg
   case neg =>
    simp only [Option.some.injEq, Prod.mk.injEq] at H
    obtain ⟨rfl, rfl⟩ := H
    obtain ⟨Ao15, co15, eo15⟩ := Kd.R_slice HO_0.out
    subst eo15
    go_wp2
    go_ret
    exact ⟨er, kr HO_0.out, tb HB, by repeat (first | (with_reducible first | exact HK.out | apply Kept.alloc | apply Kept.drewN | apply Kept.drew) | exact HK.out)⟩
   obtain ⟨c4b0, H⟩ := itd H
   obtain ⟨y415, hy415⟩ : ∃ y_ : List (S141), y_ = (x0_1.set (x5_1 : Int).toNat (⟨x1_1, (rd_T141 x0_1 x5_1).f1, (rd_T141 x0_1 x5_1).f2⟩ : S141)) := ⟨_, rfl⟩
   replace H : ((some (y415.set (x5_1 : Int).toNat (⟨(rd_T141 y415 x5_1).f0, wrap64 (x1_1 + 1), (rd_T141 y415 x5_1).f2⟩ : S141) : List (S141))).bind fun y416 => (laws_markWordS.l0 k1 (y416.set (x5_1 : Int).toNat (⟨(rd_T141 y416 x5_1).f0, (rd_T141 y416 x5_1).f1, wrap64 ((wrap64 (x1_1 + 1)) + 1)⟩ : S141)) (wrap64 ((wrap64 ((wrap64 (x1_1 + 1)) + 1)) + 1)) (wrap64 (x5_1 + 1)))) = some (r1, r2) := by first | (rw [hy415]; with_reducible exact H) | (have H2_ := (Option.bind_some _ _).symm.trans H; rw [hy415]; with_reducible exact H2_) | (have H2_ := (Option.bind_some _ _).symm.trans H; with_reducible exact H2_) | with_reducible exact H | (rw [hy415]; exact H) | exact H
   have Ny415 := Aside0.mk hy415
   clear hy415
   obtain ⟨y416, hy416⟩ : ∃ y_ : List (S141), y_ = (y415.set (x5_1 : Int).toNat (⟨(rd_T141 y415 x5_1).f0, wrap64 (x1_1 + 1), (rd_T141 y415 x5_1).f2⟩ : S141)) := ⟨_, rfl⟩
   replace H : (laws_markWordS.l0 k1 (y416.set (x5_1 : Int).toNat (⟨(rd_T141 y416 x5_1).f0, (rd_T141 y416 x5_1).f1, wrap64 ((wrap64 (x1_1 + 1)) + 1)⟩ : S141)) (wrap64 ((wrap64 ((wrap64 (x1_1 + 1)) + 1)) + 1)) (wrap64 (x5_1 + 1))) = some (r1, r2) := by first | (rw [hy416]; with_reducible exact H) | (have H2_ := (Option.bind_some _ _).symm.trans H; rw [hy416]; with_reducible exact H2_) | (have H2_ := (Option.bind_some _ _).symm.trans H; with_reducible exact H2_) | with_reducible exact H | (rw [hy416]; exact H) | exact H
   have Ny416 := Aside0.mk hy416
   clear hy416
   obtain ⟨y417, hy417⟩ : ∃ y_ : List (S141), y_ = (y416.set (x5_1 : Int).toNat (⟨(rd_T141 y416 x5_1).f0, (rd_T141 y416 x5_1).f1, wrap64 ((wrap64 (x1_1 + 1)) + 1)⟩ : S141)) := ⟨_, rfl⟩
   replace H : (laws_markWordS.l0 k1 y417 (wrap64 ((wrap64 ((wrap64 (x1_1 + 1)) + 1)) + 1)) (wrap64 (x5_1 + 1))) = some (r1, r2) := by first | (rw [hy417]; with_reducible exact H) | (have H2_ := (Option.bind_some _ _).symm.trans H; rw [hy417]; with_reducible exact H2_) | (have H2_ := (Option.bind_some _ _).symm.trans H; with_reducible exact H2_) | with_reducible exact H | (rw [hy417]; exact H) | exact H
   have Ny417 := Aside0.mk hy417
   clear hy417
   have H' := Aside0.mk H
   clear H
   obtain ⟨Ao8, co8, eo8⟩ := Kd.R_slice HO_0.out
   subst eo8
   have p5 : 0 ≤ (x5_1 : Int) := od
   have q5 : (x5_1 : Int) < ((x0_1.length : Int) : Int) := od
   obtain ⟨go5, co5, eo5, gb5, gl5, cl5, HG5⟩ := Kd.R_form HO_0.out (by omega)
   (first | cases eo5 | (injection eo5 with ea_ en_ ec_; (first | subst ea_ | (injection ea_ with ea_; subst ea_)); subst ec_; clear en_))
   have GB5 := Aside0.mk gb5
   have GG5 := Aside0.mk HG5
   clear gb5 gl5 HG5
   have HMgo5 := Aside0.mk (show (P0_ go5 ∨ w.heap.size ≤ go5) from (HO_0.out.1 _ rfl))
   obtain ⟨ce5, hcl5, hM5, hcc5, hfr5⟩ := Kd.R_elem HO_0.out z141 (x5_1 : Int) p5 q5
   obtain rfl := k141_openM hM5
   have hx5_0 : wr.cell? ⟨go5, (x5_1 : Int).toNat * 3, none⟩ = some (.int .i64 ((rd_T141 x0_1 x5_1).f0)) := hcc5 0 _ rfl
   have hx5_1 : wr.cell? ⟨go5, (x5_1 : Int).toNat * 3 + 1, none⟩ = some (.int .i64 ((rd_T141 x0_1 x5_1).f1)) := hcc5 1 _ rfl
   have hx5_2 : wr.cell? ⟨go5, (x5_1 : Int).toNat * 3 + 2, none⟩ = some (.int .i64 ((rd_T141 x0_1 x5_1).f2)) := hcc5 2 _ rfl
   have hf5_0 : wr.frozen? ⟨go5, (x5_1 : Int).toNat * 3, none⟩ = false := hfr5 0
   have hf5_1 : wr.frozen? ⟨go5, (x5_1 : Int).toNat * 3 + 1, none⟩ = false := hfr5 1
   have hf5_2 : wr.frozen? ⟨go5, (x5_1 : Int).toNat * 3 + 2, none⟩ = false := hfr5 2
   clear hcl5 hcc5 hfr5 hM5
   replace p5 := eq_true p5
   replace q5 := eq_true q5
   have HX9 := Aside0.mk (show Kd.R k141 141 wr w0.heap.size (fun k_ => (P0_ k_ ∨ w.heap.size ≤ k_)) (.slice (some ⟨go5, 0, none⟩) x0_1.length co8) x0_1 from (kr HO_0.out))
   obtain ⟨ce9, hcl9, hM9, hcc9, hfr9⟩ := Kd.R_elem HX9.out z141 (x5_1 : Int) (od) (by have h_ : (x5_1 : Int) < ((x0_1.length : Int) : Int) := od; first | exact h_ | (have e_ := (Kd.R_reads' HO_0.out).1; omega) | simpa using h_)
   obtain rfl := k141_openM hM9
   have HP9 := Kd.R_seg HX9.out (x5_1 : Int) (od) (by have h_ : (x5_1 : Int) < ((x0_1.length : Int) : Int) := od; first | exact h_ | (have e_ := (Kd.R_reads' HO_0.out).1; omega) | simpa using h_) (seg := [.int .i64 x1_1]) (j := 0) hcl9 hcc9 (show 1 ≤ 3 from by decide) (x' := (⟨x1_1, (rd_T141 x0_1 x5_1).f1, (rd_T141 x0_1 x5_1).f2⟩ : S141)) (k141_mkM _ _ _ (⟨x1_1, (rd_T141 x0_1 x5_1).f1, (rd_T141 x0_1 x5_1).f2⟩ : S141) ) (fun _ hk => hk)
   have hx9_0 := hcc9 0 _ rfl
   (try simp only [show (k141).sz = 3 from rfl, Nat.mul_one, Nat.add_zero] at hx9_0)
   have hf9_0 := hfr9 0
   (try simp only [show (k141).sz = 3 from rfl, Nat.mul_one, Nat.add_zero] at hf9_0)
   clear hcl9 hcc9 hfr9 hM9
   go_wp2_with (first | ((with_reducible refine gate_store (t := 3) (p := 16) rfl ?_); refine store_event (t := 3) (p := 16) (v := ?vo_w10) (w1 := (wr.setCell ⟨go5, (x5_1 : Int).toNat * 3, none⟩ (.int .i64 x1_1))) ?hg ?ho ?hn ?hr ?_; (case ho => rfl); (case hg => rfl); (case hn => rfl); (case hr => first | (go_simp; done) | (go_simp; rfl)); intro w10 hw; have hg : wr.grownBy w10 (some go5) := (by rw [hw]; exact HP9.2); have hp_ : Kd.R k141 141 w10 w0.heap.size (fun k_ => (P0_ k_ ∨ w.heap.size ≤ k_)) (.slice (some ⟨go5, 0, none⟩) x0_1.length co8) y415 := (by rw [hw, Ny415.out]; exact HP9.1); clear HP9; replace HB := Aside0.mk ((by rw [hw]; exact below_set (HB.out) GB5.out : Below w0.heap.size w0 w10)); replace HK := Aside0.mk (Kept.of_grown (S := (fun k_ => P0_ k_)) hg (by repeat (first | (with_reducible first | exact HK.out | apply Kept.alloc | apply Kept.drewN | apply Kept.drew) | exact HK.out)) (fun k_ e_ => (HO_0.out.1 k_ e_))); replace HO_0 := Aside0.mk (hp_); clear hg hw hp_; have p6 : 0 ≤ (x5_1 : Int) := od; have q6 : (x5_1 : Int) < ((x0_1.length : Int) : Int) := od; obtain ⟨ce6, hcl6, hM6, hcc6, hfr6⟩ := Kd.R_elem HO_0.out z141 (x5_1 : Int) p6 q6; obtain rfl := k141_openM hM6; have hx6_0 : w10.cell? ⟨go5, (x5_1 : Int).toNat * 3, none⟩ = some (.int .i64 ((rd_T141 y415 x5_1).f0)) := hcc6 0 _ rfl; have hx6_1 : w10.cell? ⟨go5, (x5_1 : Int).toNat * 3 + 1, none⟩ = some (.int .i64 ((rd_T141 y415 x5_1).f1)) := hcc6 1 _ rfl; have hx6_2 : w10.cell? ⟨go5, (x5_1 : Int).toNat * 3 + 2, none⟩ = some (.int .i64 ((rd_T141 y415 x5_1).f2)) := hcc6 2 _ rfl; have hf6_0 : w10.frozen? ⟨go5, (x5_1 : Int).toNat * 3, none⟩ = false := hfr6 0; have hf6_1 : w10.frozen? ⟨go5, (x5_1 : Int).toNat * 3 + 1, none⟩ = false := hfr6 1; have hf6_2 : w10.frozen? ⟨go5, (x5_1 : Int).toNat * 3 + 2, none⟩ = false := hfr6 2; clear hcl6 hcc6 hfr6 hM6; replace p6 := eq_true p6; replace q6 := eq_true q6; have HX11 := Aside0.mk (show Kd.R k141 141 w10 w0.heap.size (fun k_ => (P0_ k_ ∨ w.heap.size ≤ k_)) (.slice (some ⟨go5, 0, none⟩) x0_1.length co8) y415 from (kr HO_0.out)); obtain ⟨ce11, hcl11, hM11, hcc11, hfr11⟩ := Kd.R_elem HX11.out z141 (x5_1 : Int) (od) (by have h_ : (x5_1 : Int) < ((x0_1.length : Int) : Int) := od; first | exact h_ | (have e_ := (Kd.R_reads' HO_0.out).1; omega) | simpa using h_); obtain rfl := k141_openM hM11; have HP11 := Kd.R_seg HX11.out (x5_1 : Int) (od) (by have h_ : (x5_1 : Int) < ((x0_1.length : Int) : Int) := od; first | exact h_ | (have e_ := (Kd.R_reads' HO_0.out).1; omega) | simpa using h_) (seg := [.int .i64 (wrap64 (x1_1 + 1))]) (j := 1) hcl11 hcc11 (show 2 ≤ 3 from by decide) (x' := (⟨(rd_T141 y415 x5_1).f0, wrap64 (x1_1 + 1), (rd_T141 y415 x5_1).f2⟩ : S141)) (k141_mkM _ _ _ (⟨(rd_T141 y415 x5_1).f0, wrap64 (x1_1 + 1), (rd_T141 y415 x5_1).f2⟩ : S141) ) (fun _ hk => hk); have hx11_1 := hcc11 1 _ rfl; (try simp only [show (k141).sz = 3 from rfl, Nat.mul_one, Nat.add_zero] at hx11_1); have hf11_1 := hfr11 1; (try simp only [show (k141).sz = 3 from rfl, Nat.mul_one, Nat.add_zero] at hf11_1); clear hcl11 hcc11 hfr11 hM11) | ((with_reducible refine gate_store (t := 3) (p := 23) rfl ?_); refine store_event (t := 3) (p := 23) (v := ?vo_w12) (w1 := (w10.setCell ⟨go5, (x5_1 : Int).toNat * 3 + 1, none⟩ (.int .i64 (wrap64 (x1_1 + 1))))) ?hg ?ho ?hn ?hr ?_; (case ho => rfl); (case hg => rfl); (case hn => rfl); (case hr => first | (go_simp; done) | (go_simp; rfl)); intro w12 hw; have hg : w10.grownBy w12 (some go5) := (by rw [hw]; exact HP11.2); have hp_ : Kd.R k141 141 w12 w0.heap.size (fun k_ => (P0_ k_ ∨ w.heap.size ≤ k_)) (.slice (some ⟨go5, 0, none⟩) x0_1.length co8) y416 := (by rw [hw, Ny416.out]; exact HP11.1); clear HP11; replace HB := Aside0.mk ((by rw [hw]; exact below_set (HB.out) GB5.out : Below w0.heap.size w0 w12)); replace HK := Aside0.mk (Kept.of_grown (S := (fun k_ => P0_ k_)) hg (by repeat (first | (with_reducible first | exact HK.out | apply Kept.alloc | apply Kept.drewN | apply Kept.drew) | exact HK.out)) (fun k_ e_ => (HO_0.out.1 k_ e_))); replace HO_0 := Aside0.mk (hp_); clear hg hw hp_; have p7 : 0 ≤ (x5_1 : Int) := od; have q7 : (x5_1 : Int) < ((x0_1.length : Int) : Int) := od; obtain ⟨ce7, hcl7, hM7, hcc7, hfr7⟩ := Kd.R_elem HO_0.out z141 (x5_1 : Int) p7 q7; obtain rfl := k141_openM hM7; have hx7_0 : w12.cell? ⟨go5, (x5_1 : Int).toNat * 3, none⟩ = some (.int .i64 ((rd_T141 y416 x5_1).f0)) := hcc7 0 _ rfl; have hx7_1 : w12.cell? ⟨go5, (x5_1 : Int).toNat * 3 + 1, none⟩ = some (.int .i64 ((rd_T141 y416 x5_1).f1)) := hcc7 1 _ rfl; have hx7_2 : w12.cell? ⟨go5, (x5_1 : Int).toNat * 3 + 2, none⟩ = some (.int .i64 ((rd_T141 y416 x5_1).f2)) := hcc7 2 _ rfl; have hf7_0 : w12.frozen? ⟨go5, (x5_1 : Int).toNat * 3, none⟩ = false := hfr7 0; have hf7_1 : w12.frozen? ⟨go5, (x5_1 : Int).toNat * 3 + 1, none⟩ = false := hfr7 1; have hf7_2 : w12.frozen? ⟨go5, (x5_1 : Int).toNat * 3 + 2, none⟩ = false := hfr7 2; clear hcl7 hcc7 hfr7 hM7; replace p7 := eq_true p7; replace q7 := eq_true q7; have HX13 := Aside0.mk (show Kd.R k141 141 w12 w0.heap.size (fun k_ => (P0_ k_ ∨ w.heap.size ≤ k_)) (.slice (some ⟨go5, 0, none⟩) x0_1.length co8) y416 from (kr HO_0.out)); obtain ⟨ce13, hcl13, hM13, hcc13, hfr13⟩ := Kd.R_elem HX13.out z141 (x5_1 : Int) (od) (by have h_ : (x5_1 : Int) < ((x0_1.length : Int) : Int) := od; first | exact h_ | (have e_ := (Kd.R_reads' HO_0.out).1; omega) | simpa using h_); obtain rfl := k141_openM hM13; have HP13 := Kd.R_seg HX13.out (x5_1 : Int) (od) (by have h_ : (x5_1 : Int) < ((x0_1.length : Int) : Int) := od; first | exact h_ | (have e_ := (Kd.R_reads' HO_0.out).1; omega) | simpa using h_) (seg := [.int .i64 (wrap64 ((wrap64 (x1_1 + 1)) + 1))]) (j := 2) hcl13 hcc13 (show 3 ≤ 3 from by decide) (x' := (⟨(rd_T141 y416 x5_1).f0, (rd_T141 y416 x5_1).f1, wrap64 ((wrap64 (x1_1 + 1)) + 1)⟩ : S141)) (k141_mkM _ _ _ (⟨(rd_T141 y416 x5_1).f0, (rd_T141 y416 x5_1).f1, wrap64 ((wrap64 (x1_1 + 1)) + 1)⟩ : S141) ) (fun _ hk => hk); have hx13_2 := hcc13 2 _ rfl; (try simp only [show (k141).sz = 3 from rfl, Nat.mul_one, Nat.add_zero] at hx13_2); have hf13_2 := hfr13 2; (try simp only [show (k141).sz = 3 from rfl, Nat.mul_one, Nat.add_zero] at hf13_2); clear hcl13 hcc13 hfr13 hM13) | ((with_reducible refine gate_store (t := 3) (p := 30) rfl ?_); refine store_event (t := 3) (p := 30) (v := ?vo_w14) (w1 := (w12.setCell ⟨go5, (x5_1 : Int).toNat * 3 + 2, none⟩ (.int .i64 (wrap64 ((wrap64 (x1_1 + 1)) + 1))))) ?hg ?ho ?hn ?hr ?_; (case ho => rfl); (case hg => rfl); (case hn => rfl); (case hr => first | (go_simp; done) | (go_simp; rfl)); intro w14 hw; have hg : w12.grownBy w14 (some go5) := (by rw [hw]; exact HP13.2); have hp_ : Kd.R k141 141 w14 w0.heap.size (fun k_ => (P0_ k_ ∨ w.heap.size ≤ k_)) (.slice (some ⟨go5, 0, none⟩) x0_1.length co8) y417 := (by rw [hw, Ny417.out]; exact HP13.1); clear HP13; replace HB := Aside0.mk ((by rw [hw]; exact below_set (HB.out) GB5.out : Below w0.heap.size w0 w14)); replace HK := Aside0.mk (Kept.of_grown (S := (fun k_ => P0_ k_)) hg (by repeat (first | (with_reducible first | exact HK.out | apply Kept.alloc | apply Kept.drewN | apply Kept.drew) | exact HK.out)) (fun k_ e_ => (HO_0.out.1 k_ e_))); replace HO_0 := Aside0.mk (hp_); clear hg hw hp_))
   go_roundg k1
   case measure => have := HK1.out; omega
   case rel => exact ⟨(y417), (wrap64 ((wrap64 ((wrap64 (x1_1 + 1)) + 1)) + 1)), (wrap64 (x5_1 + 1)), rsd, rsd, H', ⟨by have := HK1.out; omega⟩, ⟨kr HO_0.out⟩, ⟨by repeat (first | (with_reducible first | exact HK.out | apply Kept.alloc | apply Kept.drewN | apply Kept.drew) | exact HK.out)⟩, ⟨tb HB⟩⟩
end Go.Proofs.Ytopikhjcbcpiaaa.Q
section
namespace Go.Proofs.Ytopikhjcbcpiaaa.Q
open Go.RowKit Go.Proofs.YtopikhjcbcpiaaaW.PrintWords Go.Proofs.YtopikhjcbcpiaaaW.PrintLast Go.Proofs.YtopikhjcbcpiaaaW.PrintMore
set_option linter.unusedVariables false
abbrev HP := (Nat → Prop) → World → Prop
def Own (A : HP) (D : Nat → Prop) (W : World) : Prop := ∀ W', (∀ k, D k → W'.heap[k]? = W.heap[k]?) → A D W'
def Cl (A : HP) : Prop := ∀ D W, A D W → Own A (fun k => D k ∧ k < W.heap.size) W
def Sep (b : Nat) : List HP → (Nat → Prop) → World → Prop
  | [], _, _ => True
  | A :: L, D, W => ∃ D1, (∀ k, D1 k → D k ∧ b ≤ k ∧ k < W.heap.size) ∧ Own A D1 W ∧ Sep b L (fun k => D k ∧ ¬ D1 k) W
section
variable {b : Nat} {A B : HP} {L : List HP} {D D' : Nat → Prop} {W W1 : World}
theorem Own.now (h : Own A D W) : A D W := h W (fun _ _ => rfl)
theorem Own.step (h : Own A D W) (hm : ∀ k, D k → W1.heap[k]? = W.heap[k]?) : Own A D W1 := fun W' h' => h W' (fun k hk => (h' k hk).trans (hm k hk))
theorem Sep.step (h : Sep b L D W) (hs : W.heap.size ≤ W1.heap.size) (hm : ∀ k, D k → k < W.heap.size → W1.heap[k]? = W.heap[k]?) : Sep b L D W1 := by
  induction L generalizing D with
  | nil => trivial
  | cons A L ih =>
    obtain ⟨D1, h1, h2, h3⟩ := h
    exact ⟨D1, fun k hk => ⟨(h1 k hk).1, (h1 k hk).2.1, Nat.lt_of_lt_of_le (h1 k hk).2.2 hs⟩, h2.step (fun k hk => hm k (h1 k hk).1 (h1 k hk).2.2), ih h3 (fun k hk => hm k hk.1)⟩
theorem Sep.mono (h : Sep b L D W) (hD : ∀ k, D k → b ≤ k → k < W.heap.size → D' k) : Sep b L D' W := by
  induction L generalizing D D' with
  | nil => trivial
  | cons A L ih =>
    obtain ⟨D1, h1, h2, h3⟩ := h
    exact ⟨D1, fun k hk => ⟨hD k (h1 k hk).1 (h1 k hk).2.1 (h1 k hk).2.2, (h1 k hk).2⟩, h2, ih h3 (fun k hk hb hl => ⟨hD k hk.1 hb hl, hk.2⟩)⟩
theorem Sep.swap (h : Sep b (A :: B :: L) D W) : Sep b (B :: A :: L) D W := by
  obtain ⟨D1, h1, h2, D2, k1, k2, k3⟩ := h
  exact ⟨D2, fun k hk => ⟨(k1 k hk).1.1, (k1 k hk).2⟩, k2, D1, fun k hk => ⟨⟨(h1 k hk).1, fun hk2 => (k1 k hk2).1.2 hk⟩, (h1 k hk).2⟩, h2, k3.mono (fun k hk _ _ => ⟨⟨hk.1.1, hk.2⟩, hk.1.2⟩)⟩
theorem Sep.tail (h : Sep b (A :: L) D W) : Sep b L D W := by
  obtain ⟨D1, _, _, h3⟩ := h
  exact h3.mono (fun k hk _ _ => hk.1)
theorem Sep.bring (h : Sep b L D W) (i : Nat) (hi : L[i]? = some A) : Sep b (A :: L.eraseIdx i) D W := by
  induction L generalizing D i with
  | nil => simp at hi
  | cons B L ih =>
    cases i with
    | zero => obtain rfl : B = A := by simpa using hi
              simpa using h
    | succ i =>
      obtain ⟨D1, h1, h2, h3⟩ := h
      have h4 := ih h3 i (by simpa using hi)
      simp only [List.eraseIdx_cons_succ]
      exact Sep.swap ⟨D1, h1, h2, h4⟩
theorem Sep.nth (h : Sep b L D W) (i : Nat) (hi : L[i]? = some A) : ∃ D1, A D1 W := by
  obtain ⟨D1, _, h2, _⟩ := h.bring i hi
  exact ⟨D1, h2.now⟩
theorem Sep.write (h : Sep b (A :: L) D W) : ∃ D1, A D1 W ∧ (∀ k, D1 k → D k ∧ b ≤ k ∧ k < W.heap.size) ∧ ∀ W1 B D2, Kept W W1 D1 → Own B D2 W1 → (∀ k, D2 k → D1 k ∨ (W.heap.size ≤ k ∧ k < W1.heap.size)) → (∀ k, W.heap.size ≤ k → D k) → b ≤ W.heap.size → Sep b (B :: L) D W1 := by
  obtain ⟨D1, h1, h2, h3⟩ := h
  refine ⟨D1, h2.now, h1, fun W1 B D2 hk hB hD2 hn hb => ⟨D2, fun k hk2 => ?_, hB, ?_⟩⟩
  · rcases hD2 k hk2 with hd | ⟨hd, hl⟩
    · exact ⟨(h1 k hd).1, (h1 k hd).2.1, Nat.lt_of_lt_of_le (h1 k hd).2.2 hk.1⟩
    · exact ⟨hn k hd, Nat.le_trans hb hd, hl⟩
  · refine (h3.mono (D' := fun k => (D k ∧ ¬ D1 k) ∧ k < W.heap.size) (fun k hk _ hl => ⟨hk, hl⟩)).step hk.1 (fun k hk2 hl => hk.2 k hl hk2.1.2) |>.mono (fun k hk2 _ _ => ⟨hk2.1.1, fun hd => ?_⟩)
    rcases hD2 k hd with hd | ⟨hd, _⟩
    · exact hk2.1.2 hd
    · omega
theorem Sep.add (h : Sep b L D W) (hk : Kept W W1 (fun _ => False)) {D2 : Nat → Prop} (hA : Own A D2 W1) (hD2 : ∀ k, D2 k → W.heap.size ≤ k ∧ k < W1.heap.size) (hn : ∀ k, W.heap.size ≤ k → D k) (hb : b ≤ W.heap.size) : Sep b (A :: L) D W1 := by
  refine ⟨D2, fun k hk2 => ⟨hn k (hD2 k hk2).1, Nat.le_trans hb (hD2 k hk2).1, (hD2 k hk2).2⟩, hA, ?_⟩
  refine (h.mono (D' := fun k => D k ∧ k < W.heap.size) (fun k hk _ hl => ⟨hk, hl⟩)).step hk.1 (fun k _ hl => hk.2 k hl (fun h => h)) |>.mono (fun k hk2 _ _ => ⟨hk2.1, fun hd => ?_⟩)
  have := (hD2 k hd).1
  omega
end
structure St (w0 w : World) (P : Nat → Prop) (L : List HP) (W : World) : Prop where
  sep : Sep w0.heap.size L (fun k => P k ∨ w.heap.size ≤ k) W
  below : Below w0.heap.size w0 W
  kept : Kept w W P
  le : w0.heap.size ≤ w.heap.size
def hB (g : Nat) (cs : Array Value) (t : TypeId) : HP := fun D W => D g ∧ W.heap[g]? = some (.cells cs t (0, 0))
section
variable {α : Type} {d : Kd α} {e : Nat} {v : Value} {xs : List α}
def hR (d : Kd α) (e b : Nat) (v : Value) (xs : List α) : HP := fun D W => Kd.R d e W b D v xs
def hS (d : Kd α) (e b : Nat) (v : Value) (xs : List α) : HP := fun D W => Kd.S d e W b D v xs
def hBoth (A B : HP) : HP := fun D W => A D W ∧ B D W
theorem cl_B (g : Nat) (cs : Array Value) (t : TypeId) : Cl (hB g cs t) := fun D W h W' hm => ⟨⟨h.1, blk_lt h.2⟩, (hm g ⟨h.1, blk_lt h.2⟩).trans h.2⟩
theorem cl_R (d : Kd α) (e b : Nat) (v : Value) (xs : List α) : Cl (hR d e b v xs) := fun D W h W' hm =>
  Kd.R_step (Kd.R_mono (Kd.R_bound h) (fun k hk => ⟨hk.1, hk.2.2.1⟩)) (fun k hk _ => hm k hk)
theorem cl_S (d : Kd α) (e b : Nat) (v : Value) (xs : List α) : Cl (hS d e b v xs) := fun D W h W' hm =>
  Kd.S_step (Kd.S_mono (Kd.S_bound h) (fun k hk => ⟨hk.1, hk.2.2.1⟩)) (fun k hk _ => hm k hk)
theorem cl_both {A B : HP} (hA : Cl A) (hB : Cl B) : Cl (hBoth A B) := fun D W h W' hm => ⟨hA D W h.1 W' hm, hB D W h.2 W' hm⟩
end
section
variable {w0 w W W1 : World} {P : Nat → Prop} {A B : HP} {L : List HP}
theorem St.new (h : St w0 w P L W) : ∀ k, W.heap.size ≤ k → P k ∨ w.heap.size ≤ k := fun k hk => .inr (Nat.le_trans h.kept.1 hk)
theorem St.ge (h : St w0 w P L W) : w0.heap.size ≤ W.heap.size := Nat.le_trans h.le h.kept.1
theorem St.start (w : World) : St w w (fun _ => False) [] w := ⟨trivial, Below.refl _ _, Kept.refl _ _, Nat.le_refl _⟩
theorem St.start1 (hB : Below w0.heap.size w0 w) (hA : Cl A) (hb : ∀ k, P k → w0.heap.size ≤ k) (h : A P w) : St w0 w P [A] w :=
  ⟨⟨_, fun k hk => ⟨.inl hk.1, hb k hk.1, hk.2⟩, hA P w h, trivial⟩, hB, Kept.refl _ _, hB.size⟩
theorem St.moved (h : St w0 w P L W) (hb : Below W.heap.size W W1) : St w0 w P L W1 :=
  ⟨h.sep.step hb.size (fun k _ hk => hb.block k hk), below_then h.below h.ge hb, h.kept.below hb, h.le⟩
theorem St.drewN (h : St w0 w P L W) (n : Nat) : St w0 w P L (W.drewN n) := ⟨h.sep.step (Nat.le_refl _) (fun _ _ _ => rfl), pw_below_drewN h.below n, h.kept.drewN n, h.le⟩
theorem St.bring (h : St w0 w P L W) (i : Nat) (hi : L[i]? = some A) : St w0 w P (A :: L.eraseIdx i) W := ⟨h.sep.bring i hi, h.below, h.kept, h.le⟩
theorem St.drop (h : St w0 w P (A :: L) W) : St w0 w P L W := ⟨h.sep.tail, h.below, h.kept, h.le⟩
theorem St.nth (h : St w0 w P L W) (i : Nat) (hi : L[i]? = some A) : ∃ D, A D W := h.sep.nth i hi
theorem St.made (h : St w0 w P L W) (hA : Cl A) (hb : Below W.heap.size W W1) {D : Nat → Prop} (hD : ∀ k, D k → W.heap.size ≤ k) (h1 : A D W1) : St w0 w P (A :: L) W1 :=
  ⟨h.sep.add (Kept.of_below hb _) (hA D W1 h1) (fun k hk => ⟨hD k hk.1, hk.2⟩) h.new h.ge, below_then h.below h.ge hb, h.kept.below hb, h.le⟩
theorem St.box (h : St w0 w P L W) {g : Nat} {cs : Array Value} {t : TypeId} (hg : g = W.heap.size) (hbox : W1.heap[g]? = some (.cells cs t (0, 0))) (hb : Below W.heap.size W W1) : St w0 w P (hB g cs t :: L) W1 :=
  h.made (cl_B g cs t) hb (D := fun k => k = g) (fun k hk => by omega) ⟨rfl, hbox⟩
theorem St.own (h : St w0 w P (A :: L) W) : ∃ D1, A D1 W ∧ (∀ k, D1 k → w0.heap.size ≤ k) ∧ ∀ W1 B, Cl B → Below w0.heap.size w0 W1 → Kept W W1 D1 → B (fun k => D1 k ∨ W.heap.size ≤ k) W1 → St w0 w P (B :: L) W1 := by
  obtain ⟨D1, h1, h2, h3⟩ := h.sep.write
  refine ⟨D1, h1, fun k hk => (h2 k hk).2.1, fun W1 B hB hb hk hB1 => ⟨h3 W1 B _ hk (hB _ _ hB1) (fun k hk2 => ?_) h.new h.ge, hb, h.kept.then_ hk (fun k hk2 => (h2 k hk2).1), h.le⟩⟩
  rcases hk2.1 with hd | hd
  · exact .inl hd
  · exact .inr ⟨hd, hk2.2⟩
theorem St.put {g : Nat} {cs : Array Value} {t : TypeId} (h : St w0 w P (hB g cs t :: L) W) (i : Nat) (u : Value) {cs' : Array Value} (e : cs.setIfInBounds i u = cs') : St w0 w P (hB g cs' t :: L) (W.setCell ⟨g, i, none⟩ u) := by
  obtain ⟨D1, h1, h2, h3⟩ := h.own
  refine h3 _ _ (cl_B _ _ _) (h.below.setCell (h2 _ h1.1) _) ((Kept.refl W D1).setCell (.inl h1.1) u) ⟨.inl h1.1, blk_put h1.2 i u e⟩
theorem St.blk (h : St w0 w P L W) (i : Nat) {g : Nat} {cs : Array Value} {t : TypeId} (hi : L[i]? = some (hB g cs t)) : W.heap[g]? = some (.cells cs t (0, 0)) := by
  obtain ⟨D, hD⟩ := h.nth i hi
  exact hD.2
theorem St.drew (h : St w0 w P L W) : St w0 w P L W.drew := ⟨h.sep.step (Nat.le_refl _) (fun _ _ _ => rfl), below_drew h.below, h.kept.drew, h.le⟩
section
variable {α : Type} {d : Kd α} {e : Nat} {v : Value} {xs : List α} {a : Option Addr} {n c : Nat} {ok : Nat → Prop}
theorem hR_out {b : Nat} {D : Nat → Prop} (h : hR d e b v xs D W) : Kd.R d e W b D v xs := h
theorem St.readR {b : Nat} (h : St w0 w P L W) (i : Nat) (hi : L[i]? = some (hR d e b (.slice a n c) xs)) : n = xs.length ∧ xs.length ≤ c ∧ d.C W a xs.length xs := by
  obtain ⟨D, hD⟩ := h.nth i hi
  obtain ⟨h1, h2, h3⟩ := Kd.R_reads' (hR_out hD)
  exact ⟨h1, h1 ▸ h2, h3⟩
theorem St.madeR (h : St w0 w P L W) (h1 : Kd.R d e W1 W.heap.size ok v xs) (hb : Below W.heap.size W W1) : St w0 w P (hR d e w0.heap.size v xs :: L) W1 :=
  h.made (cl_R _ _ _ _ _) hb (D := fun k => W.heap.size ≤ k) (fun _ hk => hk) (Kd.R_lower (Kd.R_mono (Kd.R_bound h1) (fun k hk => hk.2.1)) h.ge)
end
theorem St.cell (h : St w0 w P L W) {a : Addr} {v : Value} (hc : w0.cell? a = some v) : W.cell? a = some v := (h.below.cell (World.block_lt_of_cell? w0 _ hc)).trans hc
theorem St.done (h : St w w P L W) : Below w.heap.size w W := h.below
end
end Go.Proofs.Ytopikhjcbcpiaaa.Q
end
namespace Go.Proofs.Ytopikhjcbcpiaaa.Q
open Go.RowKit Go.Proofs.YtopikhjcbcpiaaaW.PrintWords Go.Proofs.YtopikhjcbcpiaaaW.PrintLast Go.Proofs.YtopikhjcbcpiaaaW.PrintMore
attribute [local go_sem] max2_int min2_int max_two min_two max_three min_three max_four min_four   -- for this text's walks alone
set_option linter.unusedVariables false
set_option linter.unusedSimpArgs false
def laws_heldWordS.l0 : Nat → List (S141) → Int → Int → Option (Int)
 | 0, _, _, _ => none
 | k + 1, x0, x1, x5 => if x5 < (x0.length : Int) then (if 0 ≤ x5 then (if ((rd_T141 x0 x5).f0) = x1 then (if ((rd_T141 x0 x5).f1) = (wrap64 (x1 + 1)) then (if ((rd_T141 x0 x5).f2) = (wrap64 ((wrap64 (x1 + 1)) + 1)) then (laws_heldWordS.l0 k x0 (wrap64 ((wrap64 ((wrap64 (x1 + 1)) + 1)) + 1)) (wrap64 (x5 + 1))) else (some (-1))) else (some (-1))) else (some (-1))) else (none)) else (some x1)
def laws_heldWordS.f (k : Nat) (l0 : List (S141)) (a1 : Int) : Option (Int) := laws_heldWordS.l0 k l0 a1 0
set_option maxHeartbeats 8000000 in
set_option maxRecDepth 100000 in
theorem laws_heldWordS.calls (k : Nat) (A0 : Option Addr) (c0 : Nat) (l0 : List (S141)) (a1 : Int) (r : Int) (w : World) (hr0 : Kd.C k141 w A0 l0.length l0) (hc0 : l0.length ≤ c0) (h : laws_heldWordS.f k l0 a1 = some r) :
  Calls Try.prog 131 #[.slice A0 l0.length c0, .int .i64 a1] w fun e w' => e = .returned (.int .i64 r) ∧ Drawn0 w w' := by
 have HR0 := Aside0.mk hr0
 have HC0 := Aside0.mk hc0
 clear hr0 hc0
 have H := h
 clear h
 unfold laws_heldWordS.f at H
 have H' := Aside0.mk H
 clear H
 go_enter Try.func131, Try.ntmps131
 go_wp2
 go_loopg [1, 5] k (fun kq v1 v5 w' => ∃ (x1_1 : Int) (x5_1 : Int), v1 = .int .i64 x1_1 ∧ v5 = .int .i64 x5_1 ∧ Aside0 (laws_heldWordS.l0 kq l0 x1_1 x5_1 = some r) ∧ Aside0 (kq ≤ k) ∧ Drawn0 w w')
 case atStart => exact ⟨(a1), (0), rsd, rsd, H', ⟨Nat.le_refl _⟩, by repeat (first | exact Drawn0.refl _ | apply Drawn0.step)⟩
 case round =>
  clear H'
  obtain ⟨x1_1, x5_1, rfl, rfl, HA, HK1, ⟨m1, rfl⟩⟩ := hrel
  cases gk with
  | zero => exact absurd HA.out (by simp [laws_heldWordS.l0])
  | succ k1 =>
   have H := HA.out
   clear HA
   simp only [laws_heldWordS.l0] at H
   revert H; refine icd (fun c3b0 H => ?_) fun c3b0 H => ?neg
   case neg =>
    obtain rfl := oin H
    go_wp2
    go_ret
    exact ⟨rsd, by repeat (first | exact Drawn0.refl _ | apply Drawn0.step)⟩
   obtain ⟨c4b0, H⟩ := itd H
   by_cases c5 : ((rd_T141 l0 x5_1).f0) = x1_1
   case neg =>
    rw [if_neg c5] at H
    have c5b0 : (((rd_T141 l0 x5_1).f0) == x1_1) = false := beq_eq_false_iff_ne.mpr c5
    have c5b1 : (((rd_T141 l0 x5_1).f0) != x1_1) = true := bne_iff_ne.mpr c5
    obtain rfl := oin H
    have p1145 : 0 ≤ (x5_1 : Int) := od
    have q1145 : x5_1 < (l0.length : Int) := od
    obtain ⟨ad1145, e1145, hx1145⟩ := att141 HR0.out x5_1 p1145 q1145
    cases e1145
    replace p1145 := eq_true p1145
    replace q1145 := eq_true q1145
    go_wp2
    go_ret
    exact ⟨rsd, by repeat (first | exact Drawn0.refl _ | apply Drawn0.step)⟩
   rw [if_pos c5] at H
   have c5b0 : (((rd_T141 l0 x5_1).f0) == x1_1) = true := beq_iff_eq.mpr c5
   have c5b1 : (((rd_T141 l0 x5_1).f0) != x1_1) = false := bne_eq_false_iff_eq.mpr c5
   clear c5
   by_cases c6 : ((rd_T141 l0 x5_1).f1) = (wrap64 (x1_1 + 1))
   case neg =>
    rw [if_neg c6] at H
    have c6b0 : (((rd_T141 l0 x5_1).f1) == (wrap64 (x1_1 + 1))) = false := beq_eq_false_iff_ne.mpr c6
    have c6b1 : (((rd_T141 l0 x5_1).f1) != (wrap64 (x1_1 + 1))) = true := bne_iff_ne.mpr c6
    obtain rfl := oin H
    have p1145 : 0 ≤ (x5_1 : Int) := od
    have q1145 : x5_1 < (l0.length : Int) := od
    obtain ⟨ad1145, e1145, hx1145_0, hx1145_1, hx1145_2⟩ := at_T141 HR0.out x5_1 p1145 q1145
    cases e1145
    replace p1145 := eq_true p1145
    replace q1145 := eq_true q1145
    have p1146 : 0 ≤ (x5_1 : Int) := od
    have q1146 : x5_1 < (l0.length : Int) := od
    obtain ⟨ad1146, e1146, hx1146⟩ := att141 HR0.out x5_1 p1146 q1146
    obtain rfl : ad1145 = ad1146 := (by injection e1146)
    replace p1146 := eq_true p1146
    replace q1146 := eq_true q1146
    go_wp2
    go_ret
    exact ⟨rsd, by repeat (first | exact Drawn0.refl _ | apply Drawn0.step)⟩
   rw [if_pos c6] at H
   have c6b0 : (((rd_T141 l0 x5_1).f1) == (wrap64 (x1_1 + 1))) = true := beq_iff_eq.mpr c6
   have c6b1 : (((rd_T141 l0 x5_1).f1) != (wrap64 (x1_1 + 1))) = false := bne_eq_false_iff_eq.mpr c6
   clear c6
   by_cases c7 : ((rd_T141 l0 x5_1).f2) = (wrap64 ((wrap64 (x1_1 + 1)) + 1))
   case neg =>
    rw [if_neg c7] at H
    have c7b0 : (((rd_T141 l0 x5_1).f2) == (wrap64 ((wrap64 (x1_1 + 1)) + 1))) = false := beq_eq_false_iff_ne.mpr c7
    have c7b1 : (((rd_T141 l0 x5_1).f2) != (wrap64 ((wrap64 (x1_1 + 1)) + 1))) = true := bne_iff_ne.mpr c7
    obtain rfl := oin H
    have p1145 : 0 ≤ (x5_1 : Int) := od
    have q1145 : x5_1 < (l0.length : Int) := od
    obtain ⟨ad1145, e1145, hx1145_0, hx1145_1, hx1145_2⟩ := at_T141 HR0.out x5_1 p1145 q1145
    cases e1145
    replace p1145 := eq_true p1145
    replace q1145 := eq_true q1145
    have p1146 : 0 ≤ (x5_1 : Int) := od
    have q1146 : x5_1 < (l0.length : Int) := od
    obtain ⟨ad1146, e1146, hx1146_0, hx1146_1, hx1146_2⟩ := at_T141 HR0.out x5_1 p1146 q1146
    obtain rfl : ad1145 = ad1146 := (by injection e1146)
    replace p1146 := eq_true p1146
    replace q1146 := eq_true q1146
    have p1147 : 0 ≤ (x5_1 : Int) := od
    have q1147 : x5_1 < (l0.length : Int) := od
    obtain ⟨ad1147, e1147, hx1147⟩ := att141 HR0.out x5_1 p1147 q1147
    obtain rfl : ad1145 = ad1147 := (by injection e1147)
    replace p1147 := eq_true p1147
    replace q1147 := eq_true q1147
    go_wp2
    go_ret
    exact ⟨rsd, by repeat (first | exact Drawn0.refl _ | apply Drawn0.step)⟩
   rw [if_pos c7] at H
   have c7b0 : (((rd_T141 l0 x5_1).f2) == (wrap64 ((wrap64 (x1_1 + 1)) + 1))) = true := beq_iff_eq.mpr c7
   have c7b1 : (((rd_T141 l0 x5_1).f2) != (wrap64 ((wrap64 (x1_1 + 1)) + 1))) = false := bne_eq_false_iff_eq.mpr c7
   clear c7
   have H' := Aside0.mk H
   clear H
   have p1145 : 0 ≤ (x5_1 : Int) := od
   have q1145 : x5_1 < (l0.length : Int) := od
   obtain ⟨ad1145, e1145, hx1145_0, hx1145_1, hx1145_2⟩ := at_T141 HR0.out x5_1 p1145 q1145
   cases e1145
   replace p1145 := eq_true p1145
   replace q1145 := eq_true q1145
   have p1146 : 0 ≤ (x5_1 : Int) := od
   have q1146 : x5_1 < (l0.length : Int) := od
   obtain ⟨ad1146, e1146, hx1146_0, hx1146_1, hx1146_2⟩ := at_T141 HR0.out x5_1 p1146 q1146
   obtain rfl : ad1145 = ad1146 := (by injection e1146)
   replace p1146 := eq_true p1146
   replace q1146 := eq_true q1146
   have p1147 : 0 ≤ (x5_1 : Int) := od
   have q1147 : x5_1 < (l0.length : Int) := od
   obtain ⟨ad1147, e1147, hx1147_0, hx1147_1, hx1147_2⟩ := at_T141 HR0.out x5_1 p1147 q1147
   obtain rfl : ad1145 = ad1147 := (by injection e1147)
   replace p1147 := eq_true p1147
   replace q1147 := eq_true q1147
   go_wp2
   go_roundg k1
   case measure => have := HK1.out; omega
   case rel => exact ⟨(wrap64 ((wrap64 ((wrap64 (x1_1 + 1)) + 1)) + 1)), (wrap64 (x5_1 + 1)), rsd, rsd, H', ⟨by have := HK1.out; omega⟩, by repeat (first | exact Drawn0.refl _ | apply Drawn0.step)⟩
def laws_heldEntryS.l0 : Nat → List (S166) → Int → Int → Option (Int)
 | 0, _, _, _ => none
 | k + 1, x0, x1, x5 => if x5 < (x0.length : Int) then (if 0 ≤ x5 then (if ((rd_T166 x0 x5).f0) = x1 then (if ((rd_T166 x0 x5).f1) = (wrap64 (x1 + 1)) then (if ((rd_T166 x0 x5).f2) = (wrap64 ((wrap64 (x1 + 1)) + 1)) then (laws_heldEntryS.l0 k x0 (wrap64 ((wrap64 ((wrap64 (x1 + 1)) + 1)) + 1)) (wrap64 (x5 + 1))) else (some (-1))) else (some (-1))) else (some (-1))) else (none)) else (some x1)
def laws_heldEntryS.f (k : Nat) (l0 : List (S166)) (a1 : Int) : Option (Int) := laws_heldEntryS.l0 k l0 a1 0
set_option maxHeartbeats 8000000 in
set_option maxRecDepth 100000 in
theorem laws_heldEntryS.calls (k : Nat) (A0 : Option Addr) (c0 : Nat) (l0 : List (S166)) (a1 : Int) (r : Int) (w : World) (hr0 : Kd.C k166 w A0 l0.length l0) (hc0 : l0.length ≤ c0) (h : laws_heldEntryS.f k l0 a1 = some r) :
  Calls Try.prog 184 #[.slice A0 l0.length c0, .int .i64 a1] w fun e w' => e = .returned (.int .i64 r) ∧ Drawn0 w w' := by
 have HR0 := Aside0.mk hr0
 have HC0 := Aside0.mk hc0
 clear hr0 hc0
 have H := h
 clear h
 unfold laws_heldEntryS.f at H
 have H' := Aside0.mk H
 clear H
 go_enter Try.func184, Try.ntmps184
 go_wp2
 go_loopg [1, 5] k (fun kq v1 v5 w' => ∃ (x1_1 : Int) (x5_1 : Int), v1 = .int .i64 x1_1 ∧ v5 = .int .i64 x5_1 ∧ Aside0 (laws_heldEntryS.l0 kq l0 x1_1 x5_1 = some r) ∧ Aside0 (kq ≤ k) ∧ Drawn0 w w')
 case atStart => exact ⟨(a1), (0), rsd, rsd, H', ⟨Nat.le_refl _⟩, by repeat (first | exact Drawn0.refl _ | apply Drawn0.step)⟩
 case round =>
  clear H'
  obtain ⟨x1_1, x5_1, rfl, rfl, HA, HK1, ⟨m1, rfl⟩⟩ := hrel
  cases gk with
  | zero => exact absurd HA.out (by simp [laws_heldEntryS.l0])
  | succ k1 =>
   have H := HA.out
   clear HA
   simp only [laws_heldEntryS.l0] at H
   revert H; refine icd (fun c3b0 H => ?_) fun c3b0 H => ?neg
   case neg =>
    obtain rfl := oin H
    go_wp2
    go_ret
    exact ⟨rsd, by repeat (first | exact Drawn0.refl _ | apply Drawn0.step)⟩
   obtain ⟨c4b0, H⟩ := itd H
   by_cases c5 : ((rd_T166 l0 x5_1).f0) = x1_1
   case neg =>
    rw [if_neg c5] at H
    have c5b0 : (((rd_T166 l0 x5_1).f0) == x1_1) = false := beq_eq_false_iff_ne.mpr c5
    have c5b1 : (((rd_T166 l0 x5_1).f0) != x1_1) = true := bne_iff_ne.mpr c5
    obtain rfl := oin H
    have p1148 : 0 ≤ (x5_1 : Int) := od
    have q1148 : x5_1 < (l0.length : Int) := od
    obtain ⟨ad1148, e1148, hx1148⟩ := att166 HR0.out x5_1 p1148 q1148
    cases e1148
    replace p1148 := eq_true p1148
    replace q1148 := eq_true q1148
    go_wp2
    go_ret
    exact ⟨rsd, by repeat (first | exact Drawn0.refl _ | apply Drawn0.step)⟩
   rw [if_pos c5] at H
   have c5b0 : (((rd_T166 l0 x5_1).f0) == x1_1) = true := beq_iff_eq.mpr c5
   have c5b1 : (((rd_T166 l0 x5_1).f0) != x1_1) = false := bne_eq_false_iff_eq.mpr c5
   clear c5
   by_cases c6 : ((rd_T166 l0 x5_1).f1) = (wrap64 (x1_1 + 1))
   case neg =>
    rw [if_neg c6] at H
    have c6b0 : (((rd_T166 l0 x5_1).f1) == (wrap64 (x1_1 + 1))) = false := beq_eq_false_iff_ne.mpr c6
    have c6b1 : (((rd_T166 l0 x5_1).f1) != (wrap64 (x1_1 + 1))) = true := bne_iff_ne.mpr c6
    obtain rfl := oin H
    have p1148 : 0 ≤ (x5_1 : Int) := od
    have q1148 : x5_1 < (l0.length : Int) := od
    obtain ⟨ad1148, e1148, hx1148_0, hx1148_1, hx1148_2⟩ := at_T166 HR0.out x5_1 p1148 q1148
    cases e1148
    replace p1148 := eq_true p1148
    replace q1148 := eq_true q1148
    have p1149 : 0 ≤ (x5_1 : Int) := od
    have q1149 : x5_1 < (l0.length : Int) := od
    obtain ⟨ad1149, e1149, hx1149⟩ := att166 HR0.out x5_1 p1149 q1149
    obtain rfl : ad1148 = ad1149 := (by injection e1149)
    replace p1149 := eq_true p1149
    replace q1149 := eq_true q1149
    go_wp2
    go_ret
    exact ⟨rsd, by repeat (first | exact Drawn0.refl _ | apply Drawn0.step)⟩
   rw [if_pos c6] at H
   have c6b0 : (((rd_T166 l0 x5_1).f1) == (wrap64 (x1_1 + 1))) = true := beq_iff_eq.mpr c6
   have c6b1 : (((rd_T166 l0 x5_1).f1) != (wrap64 (x1_1 + 1))) = false := bne_eq_false_iff_eq.mpr c6
   clear c6
   by_cases c7 : ((rd_T166 l0 x5_1).f2) = (wrap64 ((wrap64 (x1_1 + 1)) + 1))
   case neg =>
    rw [if_neg c7] at H
    have c7b0 : (((rd_T166 l0 x5_1).f2) == (wrap64 ((wrap64 (x1_1 + 1)) + 1))) = false := beq_eq_false_iff_ne.mpr c7
    have c7b1 : (((rd_T166 l0 x5_1).f2) != (wrap64 ((wrap64 (x1_1 + 1)) + 1))) = true := bne_iff_ne.mpr c7
    obtain rfl := oin H
    have p1148 : 0 ≤ (x5_1 : Int) := od
    have q1148 : x5_1 < (l0.length : Int) := od
    obtain ⟨ad1148, e1148, hx1148_0, hx1148_1, hx1148_2⟩ := at_T166 HR0.out x5_1 p1148 q1148
    cases e1148
    replace p1148 := eq_true p1148
    replace q1148 := eq_true q1148
    have p1149 : 0 ≤ (x5_1 : Int) := od
    have q1149 : x5_1 < (l0.length : Int) := od
    obtain ⟨ad1149, e1149, hx1149_0, hx1149_1, hx1149_2⟩ := at_T166 HR0.out x5_1 p1149 q1149
    obtain rfl : ad1148 = ad1149 := (by injection e1149)
    replace p1149 := eq_true p1149
    replace q1149 := eq_true q1149
    have p1150 : 0 ≤ (x5_1 : Int) := od
    have q1150 : x5_1 < (l0.length : Int) := od
    obtain ⟨ad1150, e1150, hx1150⟩ := att166 HR0.out x5_1 p1150 q1150
    obtain rfl : ad1148 = ad1150 := (by injection e1150)
    replace p1150 := eq_true p1150
    replace q1150 := eq_true q1150
    go_wp2
    go_ret
    exact ⟨rsd, by repeat (first | exact Drawn0.refl _ | apply Drawn0.step)⟩
   rw [if_pos c7] at H
   have c7b0 : (((rd_T166 l0 x5_1).f2) == (wrap64 ((wrap64 (x1_1 + 1)) + 1))) = true := beq_iff_eq.mpr c7
   have c7b1 : (((rd_T166 l0 x5_1).f2) != (wrap64 ((wrap64 (x1_1 + 1)) + 1))) = false := bne_eq_false_iff_eq.mpr c7
   clear c7
   have H' := Aside0.mk H
   clear H
   have p1148 : 0 ≤ (x5_1 : Int) := od
   have q1148 : x5_1 < (l0.length : Int) := od
   obtain ⟨ad1148, e1148, hx1148_0, hx1148_1, hx1148_2⟩ := at_T166 HR0.out x5_1 p1148 q1148
   cases e1148
   replace p1148 := eq_true p1148
   replace q1148 := eq_true q1148
   have p1149 : 0 ≤ (x5_1 : Int) := od
   have q1149 : x5_1 < (l0.length : Int) := od
   obtain ⟨ad1149, e1149, hx1149_0, hx1149_1, hx1149_2⟩ := at_T166 HR0.out x5_1 p1149 q1149
   obtain rfl : ad1148 = ad1149 := (by injection e1149)
   replace p1149 := eq_true p1149
   replace q1149 := eq_true q1149
   have p1150 : 0 ≤ (x5_1 : Int) := od
   have q1150 : x5_1 < (l0.length : Int) := od
   obtain ⟨ad1150, e1150, hx1150_0, hx1150_1, hx1150_2⟩ := at_T166 HR0.out x5_1 p1150 q1150
   obtain rfl : ad1148 = ad1150 := (by injection e1150)
   replace p1150 := eq_true p1150
   replace q1150 := eq_true q1150
   go_wp2
   go_roundg k1
   case measure => have := HK1.out; omega
   case rel => exact ⟨(wrap64 ((wrap64 ((wrap64 (x1_1 + 1)) + 1)) + 1)), (wrap64 (x5_1 + 1)), rsd, rsd, H', ⟨by have := HK1.out; omega⟩, by repeat (first | exact Drawn0.refl _ | apply Drawn0.step)⟩
def spec_l1In.f (a0 : Int) (a1 : Int) (a2 : Int) : Option (Bool) := if a0 ≥ a1 then (some (decide (a0 ≤ a2))) else (some false)
set_option maxHeartbeats 8000000 in
set_option maxRecDepth 100000 in
theorem spec_l1In.calls (a0 : Int) (a1 : Int) (a2 : Int) (r : Bool) (w : World) (h : spec_l1In.f a0 a1 a2 = some r) :
  Calls Try.prog 79 #[.int .i64 a0, .int .i64 a1, .int .i64 a2] w fun e w' => e = .returned (.bool r) ∧ Drawn0 w w' := by
 have H := h
 clear h
 unfold spec_l1In.f at H
 revert H; refine icd (fun c4b0 H => ?pos) fun c4b0 H => ?_
 case pos =>
  obtain rfl := oin H
  go_enter Try.func79, Try.ntmps79
  go_wp2
  go_ret
  exact ⟨rsd, by repeat (first | exact Drawn0.refl _ | apply Drawn0.step)⟩
 obtain rfl := oin H
 go_enter Try.func79, Try.ntmps79
 go_wp2
 go_ret
 exact ⟨rsd, by repeat (first | exact Drawn0.refl _ | apply Drawn0.step)⟩
def spec_l4Val.f (a0 : Int) : Option (Bool) := if a0 = 1 then (some true) else (if a0 = 2 then (some true) else (if a0 = 5 then (some true) else (some (a0 == 10))))
set_option maxHeartbeats 8000000 in
set_option maxRecDepth 100000 in
theorem spec_l4Val.calls (a0 : Int) (r : Bool) (w : World) (h : spec_l4Val.f a0 = some r) :
  Calls Try.prog 124 #[.int .i64 a0] w fun e w' => e = .returned (.bool r) ∧ Drawn0 w w' := by
 have H := h
 clear h
 unfold spec_l4Val.f at H
 by_cases c2 : a0 = 1
 case pos =>
  rw [if_pos c2] at H
  have c2b0 : (a0 == 1) = true := beq_iff_eq.mpr c2
  have c2b1 : (a0 != 1) = false := bne_eq_false_iff_eq.mpr c2
  clear c2
  obtain rfl := oin H
  go_enter Try.func124, Try.ntmps124
  go_wp2
  go_ret
  exact ⟨rsd, by repeat (first | exact Drawn0.refl _ | apply Drawn0.step)⟩
 rw [if_neg c2] at H
 have c2b0 : (a0 == 1) = false := beq_eq_false_iff_ne.mpr c2
 have c2b1 : (a0 != 1) = true := bne_iff_ne.mpr c2
 by_cases c3 : a0 = 2
 case pos =>
  rw [if_pos c3] at H
  have c3b0 : (a0 == 2) = true := beq_iff_eq.mpr c3
  have c3b1 : (a0 != 2) = false := bne_eq_false_iff_eq.mpr c3
  clear c3
  obtain rfl := oin H
  go_enter Try.func124, Try.ntmps124
  go_wp2
  go_ret
  exact ⟨rsd, by repeat (first | exact Drawn0.refl _ | apply Drawn0.step)⟩
 rw [if_neg c3] at H
 have c3b0 : (a0 == 2) = false := beq_eq_false_iff_ne.mpr c3
 have c3b1 : (a0 != 2) = true := bne_iff_ne.mpr c3
 by_cases c4 : a0 = 5
 case pos =>
  rw [if_pos c4] at H
  have c4b0 : (a0 == 5) = true := beq_iff_eq.mpr c4
  have c4b1 : (a0 != 5) = false := bne_eq_false_iff_eq.mpr c4
  clear c4
  obtain rfl := oin H
  go_enter Try.func124, Try.ntmps124
  go_wp2
  go_ret
  exact ⟨rsd, by repeat (first | exact Drawn0.refl _ | apply Drawn0.step)⟩
 rw [if_neg c4] at H
 have c4b0 : (a0 == 5) = false := beq_eq_false_iff_ne.mpr c4
 have c4b1 : (a0 != 5) = true := bne_iff_ne.mpr c4
 obtain rfl := oin H
 go_enter Try.func124, Try.ntmps124
 go_wp2
 go_ret
 exact ⟨rsd, by repeat (first | exact Drawn0.refl _ | apply Drawn0.step)⟩
def impl_from.f (a0 : Int) (a1 : Int) (a2 : Int) : Option (Bool) := if a0 ≥ a1 then (some (decide (a0 ≤ a2))) else (some false)
set_option maxHeartbeats 8000000 in
set_option maxRecDepth 100000 in
theorem impl_from.calls (a0 : Int) (a1 : Int) (a2 : Int) (r : Bool) (w : World) (h : impl_from.f a0 a1 a2 = some r) :
  Calls Try.prog 85 #[.int .i64 a0, .int .i64 a1, .int .i64 a2] w fun e w' => e = .returned (.bool r) ∧ Drawn0 w w' := by
 have H := h
 clear h
 unfold impl_from.f at H
 revert H; refine icd (fun c4b0 H => ?pos) fun c4b0 H => ?_
 case pos =>
  obtain rfl := oin H
  go_enter Try.func85, Try.ntmps85
  go_wp2
  go_ret
  exact ⟨rsd, by repeat (first | exact Drawn0.refl _ | apply Drawn0.step)⟩
 obtain rfl := oin H
 go_enter Try.func85, Try.ntmps85
 go_wp2
 go_ret
 exact ⟨rsd, by repeat (first | exact Drawn0.refl _ | apply Drawn0.step)⟩
def spec_Entries.l0 : Nat → Int → Int → Int → Int → List (S166) → Int → List Int → Option (Int × Int × Int × Bool)
 | 0, _, _, _, _, _, _, _ => none
 | k + 1, x1, x6, x300000, x300001, x300002, x300003, x300004 => if x6 < (x300002.length : Int) then (if 0 ≤ x6 then (if ((rd_T166 x300002 x6).f0) = x1 then (some ((rd_T166 x300002 x6).f0, (rd_T166 x300002 x6).f1, (rd_T166 x300002 x6).f2, true)) else (spec_Entries.l0 k x1 (wrap64 (x6 + 1)) x300000 x300001 x300002 x300003 x300004)) else (none)) else (some (0, 0, 0, false))
def spec_Entries.f (k : Nat) (a0_0 : Int) (a0_1 : Int) (l0_2 : List (S166)) (a0_3 : Int) (l0_4 : List Int) (a1 : Int) : Option (Int × Int × Int × Bool) := spec_Entries.l0 k a1 0 a0_0 a0_1 l0_2 a0_3 l0_4
set_option maxHeartbeats 8000000 in
set_option maxRecDepth 100000 in
theorem spec_Entries.calls (k : Nat) (a0_0 : Int) (a0_1 : Int) (A0_2 : Option Addr) (c0_2 : Nat) (l0_2 : List (S166)) (a0_3 : Int) (A0_4 : Option Addr) (c0_4 : Nat) (l0_4 : List Int) (a1 : Int) (r1 : Int) (r2 : Int) (r3 : Int) (r4 : Bool) (w : World) (hr0_2 : Kd.C k166 w A0_2 l0_2.length l0_2) (hc0_2 : l0_2.length ≤ c0_2) (hr0_4 : Kd.C (Kd.int .i64) w A0_4 l0_4.length l0_4) (hc0_4 : l0_4.length ≤ c0_4) (h : spec_Entries.f k a0_0 a0_1 l0_2 a0_3 l0_4 a1 = some (r1, r2, r3, r4)) :
  Calls Try.prog 156 #[.agg #[.int .i64 a0_0, .int .i64 a0_1, .slice A0_2 l0_2.length c0_2, .int .i64 a0_3, .slice A0_4 l0_4.length c0_4], .int .i64 a1] w fun e w' => e = .returned (.tuple #[.agg #[.int .i64 r1, .int .i64 r2, .int .i64 r3], .bool r4]) ∧ Below w.heap.size w w' := by
 have hu145 := Try.underlying145
 have hu166 := Try.underlying166
 have HR0_2 := Aside0.mk hr0_2
 have HC0_2 := Aside0.mk hc0_2
 clear hr0_2 hc0_2
 have HR0_4 := Aside0.mk hr0_4
 have HC0_4 := Aside0.mk hc0_4
 clear hr0_4 hc0_4
 have HB := Aside0.mk (Below.refl w.heap.size w)
 have H := h
 clear h
 unfold spec_Entries.f at H
 have H' := Aside0.mk H
 clear H
 go_enter Try.func156, Try.ntmps156
 go_wp2_with (first | ((with_reducible refine gq 2 rfl ?_); refine bx0 HB (N := 2) (t := 145) ?_; clear HB; intro gb299 w3 BK299 GE299 HB) | ((with_reducible refine gq 4 rfl ?_); refine bx1 HB BK299 (N := 4) (cs := #[.int .i64 0, .int .i64 0, .int .i64 0]) (t := 166) ?_; clear HB BK299; intro gb300 w4 BK300 GE300 HB NB299_300 NB300_299 BK299))
 go_loopg [6] k (fun kq v6 w' => ∃ (x6_1 : Int) (x301000_1 : Int) (x301001_1 : Int) (x301002_1 : Int), v6 = .int .i64 x6_1 ∧ Aside0 (spec_Entries.l0 kq a1 x6_1 a0_0 a0_1 l0_2 a0_3 l0_4 = some (r1, r2, r3, r4)) ∧ Aside0 (kq ≤ k) ∧ Aside0 (w'.heap[gb299]? = some (.cells #[.int .i64 a0_0, .int .i64 a0_1, (.slice A0_2 l0_2.length c0_2), .int .i64 a0_3, (.slice A0_4 l0_4.length c0_4)] 145 (0, 0))) ∧ Aside0 (w'.heap[gb300]? = some (.cells #[.int .i64 x301000_1, .int .i64 x301001_1, .int .i64 x301002_1] 166 (0, 0))) ∧ Aside0 (Below w.heap.size w w'))
 case atStart => exact ⟨(0), (0), (0), (0), rsd, H', ⟨Nat.le_refl _⟩, ⟨by (with_reducible repeat (first | refine blk_drewN ?_ _ | refine blk_drew ?_ | refine blk_alloc ?_ _)); exact BK299.out⟩, ⟨by (with_reducible repeat (first | refine blk_drewN ?_ _ | refine blk_drew ?_ | refine blk_alloc ?_ _)); exact BK300.out⟩, ⟨tb HB⟩⟩
 case round =>
  clear H'
  obtain ⟨x6_1, x301000_1, x301001_1, x301002_1, rfl, HA, HK1, BK299, BK300, HB⟩ := hrel
  cases gk with
  | zero => exact absurd HA.out (by simp [spec_Entries.l0])
  | succ k1 =>
   have H := HA.out
   clear HA
   simp only [spec_Entries.l0] at H
   revert H; refine icd (fun c5b0 H => ?_) fun c5b0 H => ?neg
   case neg =>
    simp only [Option.some.injEq, Prod.mk.injEq] at H
    obtain ⟨rfl, rfl, rfl, rfl⟩ := H
    have hnb13 := NB299_300.out
    have hnc13 := NB300_299.out
    have hz14 := cs5_ BK299
    have hz15 := cs3_ BK300
    go_wp2
    refine bodyPost_ret (results_ct rfl _ _ gb300 166 #[.int .i64 0, .int .i64 0, .int .i64 0] (0, 0) _ rfl (bfp3 BK300) Try.underlying166 rfl (by kernel_rfl)) rfl ?_
    exact ⟨er, tb HB⟩
   obtain ⟨c6b0, H⟩ := itd H
   by_cases c7 : ((rd_T166 l0_2 x6_1).f0) = a1
   case neg =>
    rw [if_neg c7] at H
    have c7b0 : (((rd_T166 l0_2 x6_1).f0) == a1) = false := beq_eq_false_iff_ne.mpr c7
    have c7b1 : (((rd_T166 l0_2 x6_1).f0) != a1) = true := bne_iff_ne.mpr c7
    have H' := Aside0.mk H
    clear H
    have hnb11 := NB299_300.out
    have hnc11 := NB300_299.out
    have hz12 := cs5_ BK299
    have p301 : 0 ≤ (x6_1 : Int) := od
    have q301 : x6_1 < (l0_2.length : Int) := od
    obtain ⟨ad301, e301, hx301⟩ := att166 HR0_2.out x6_1 p301 q301
    cases e301
    replace hx301 := ox3 HB hx301
    replace p301 := eq_true p301
    replace q301 := eq_true q301
    go_wp2
    go_roundg k1
    case measure => have := HK1.out; omega
    case rel => exact ⟨(wrap64 (x6_1 + 1)), (x301000_1), (x301001_1), (x301002_1), rsd, H', ⟨by have := HK1.out; omega⟩, ⟨by (with_reducible repeat (first | refine blk_drewN ?_ _ | refine blk_drew ?_ | refine blk_alloc ?_ _)); exact BK299.out⟩, ⟨by (with_reducible repeat (first | refine blk_drewN ?_ _ | refine blk_drew ?_ | refine blk_alloc ?_ _)); exact BK300.out⟩, ⟨tb HB⟩⟩
   rw [if_pos c7] at H
   have c7b0 : (((rd_T166 l0_2 x6_1).f0) == a1) = true := beq_iff_eq.mpr c7
   have c7b1 : (((rd_T166 l0_2 x6_1).f0) != a1) = false := bne_eq_false_iff_eq.mpr c7
   clear c7
   simp only [Option.some.injEq, Prod.mk.injEq] at H
   obtain ⟨rfl, rfl, rfl, rfl⟩ := H
   have hnb8 := NB299_300.out
   have hnc8 := NB300_299.out
   have hz9 := cs5_ BK299
   have p301 : 0 ≤ (x6_1 : Int) := od
   have q301 : x6_1 < (l0_2.length : Int) := od
   obtain ⟨ad301, e301, hx301_0, hx301_1, hx301_2⟩ := at_T166 HR0_2.out x6_1 p301 q301
   cases e301
   replace hx301_0 := ox HB hx301_0
   replace hx301_1 := ox HB hx301_1
   replace hx301_2 := ox HB hx301_2
   replace p301 := eq_true p301
   replace q301 := eq_true q301
   have p302 : 0 ≤ (x6_1 : Int) := od
   have q302 : x6_1 < (l0_2.length : Int) := od
   obtain ⟨ad302, e302, hx302_0, hx302_1, hx302_2⟩ := at_T166 HR0_2.out x6_1 p302 q302
   obtain rfl : ad301 = ad302 := (by injection e302)
   replace hx302_0 := ox HB hx302_0
   replace hx302_1 := ox HB hx302_1
   replace hx302_2 := ox HB hx302_2
   replace p302 := eq_true p302
   replace q302 := eq_true q302
   have hz10 := cs3_ BK300
   go_wp2
   refine bodyPost_ret (results_ct rfl _ _ gb300 166 #[.int .i64 ((rd_T166 l0_2 x6_1).f0), .int .i64 ((rd_T166 l0_2 x6_1).f1), .int .i64 ((rd_T166 l0_2 x6_1).f2)] (0, 0) _ rfl (bfp3 BK300) Try.underlying166 rfl (by kernel_rfl)) rfl ?_
   exact ⟨er, tb HB⟩
def impl_Entries.l0 : Nat → Int → List (S166) → Int → Int → Option (Int × Int × Int × Bool)
 | 0, _, _, _, _ => none
 | k + 1, x1, x9, x10, x11 => if x11 < x10 then (if 0 ≤ x11 then (if x11 < (x9.length : Int) then (if ((rd_T166 x9 x11).f0) = x1 then (some ((rd_T166 x9 x11).f0, (rd_T166 x9 x11).f1, (rd_T166 x9 x11).f2, true)) else (impl_Entries.l0 k x1 x9 x10 (wrap64 (x11 + 1)))) else (none)) else (none)) else (some (0, 0, 0, false))
def impl_Entries.f (k : Nat) (a0_0 : Int) (a0_1 : Int) (l0_2 : List (S166)) (a0_3 : Int) (l0_4 : List Int) (a1 : Int) : Option (Int × Int × Int × Bool) := impl_Entries.l0 k a1 l0_2 (l0_2.length : Int) 0
set_option maxHeartbeats 8000000 in
set_option maxRecDepth 100000 in
theorem impl_Entries.calls (k : Nat) (a0_0 : Int) (a0_1 : Int) (A0_2 : Option Addr) (c0_2 : Nat) (l0_2 : List (S166)) (a0_3 : Int) (A0_4 : Option Addr) (c0_4 : Nat) (l0_4 : List Int) (a1 : Int) (r1 : Int) (r2 : Int) (r3 : Int) (r4 : Bool) (w : World) (hr0_2 : Kd.C k166 w A0_2 l0_2.length l0_2) (hc0_2 : l0_2.length ≤ c0_2) (hr0_4 : Kd.C (Kd.int .i64) w A0_4 l0_4.length l0_4) (hc0_4 : l0_4.length ≤ c0_4) (h : impl_Entries.f k a0_0 a0_1 l0_2 a0_3 l0_4 a1 = some (r1, r2, r3, r4)) :
  Calls Try.prog 157 #[.agg #[.int .i64 a0_0, .int .i64 a0_1, .slice A0_2 l0_2.length c0_2, .int .i64 a0_3, .slice A0_4 l0_4.length c0_4], .int .i64 a1] w fun e w' => e = .returned (.tuple #[.agg #[.int .i64 r1, .int .i64 r2, .int .i64 r3], .bool r4]) ∧ Below w.heap.size w w' := by
 have hu145 := Try.underlying145
 have hu166 := Try.underlying166
 have HR0_2 := Aside0.mk hr0_2
 have HC0_2 := Aside0.mk hc0_2
 clear hr0_2 hc0_2
 have HR0_4 := Aside0.mk hr0_4
 have HC0_4 := Aside0.mk hc0_4
 clear hr0_4 hc0_4
 have HB := Aside0.mk (Below.refl w.heap.size w)
 have H := h
 clear h
 unfold impl_Entries.f at H
 have H' := Aside0.mk H
 clear H
 go_enter Try.func157, Try.ntmps157
 go_wp2_with (first | ((with_reducible refine gq 2 rfl ?_); refine bx0 HB (N := 2) (t := 145) ?_; clear HB; intro gb373 w3 BK373 GE373 HB) | ((with_reducible refine gq 4 rfl ?_); refine bx1 HB BK373 (N := 4) (cs := #[.int .i64 0, .int .i64 0, .int .i64 0]) (t := 166) ?_; clear HB BK373; intro gb374 w4 BK374 GE374 HB NB373_374 NB374_373 BK373; have hnb5 := NB373_374.out; have hnc5 := NB374_373.out; have hz6 := cs5_ BK373))
 go_loopg [11] k (fun kq v11 w' => ∃ (x11_1 : Int) (x375000_1 : Int) (x375001_1 : Int) (x375002_1 : Int), v11 = .int .i64 x11_1 ∧ Aside0 (impl_Entries.l0 kq a1 l0_2 (l0_2.length : Int) x11_1 = some (r1, r2, r3, r4)) ∧ Aside0 (kq ≤ k) ∧ Aside0 (w'.heap[gb373]? = some (.cells #[.int .i64 a0_0, .int .i64 a0_1, (.slice A0_2 l0_2.length c0_2), .int .i64 a0_3, (.slice A0_4 l0_4.length c0_4)] 145 (0, 0))) ∧ Aside0 (w'.heap[gb374]? = some (.cells #[.int .i64 x375000_1, .int .i64 x375001_1, .int .i64 x375002_1] 166 (0, 0))) ∧ Aside0 (Below w.heap.size w w'))
 case atStart => exact ⟨(0), (0), (0), (0), rsd, H', ⟨Nat.le_refl _⟩, ⟨by (with_reducible repeat (first | refine blk_drewN ?_ _ | refine blk_drew ?_ | refine blk_alloc ?_ _)); exact BK373.out⟩, ⟨by (with_reducible repeat (first | refine blk_drewN ?_ _ | refine blk_drew ?_ | refine blk_alloc ?_ _)); exact BK374.out⟩, ⟨tb HB⟩⟩
 case round =>
  clear H'
  obtain ⟨x11_1, x375000_1, x375001_1, x375002_1, rfl, HA, HK1, BK373, BK374, HB⟩ := hrel
  cases gk with
  | zero => exact absurd HA.out (by simp [impl_Entries.l0])
  | succ k1 =>
   have H := HA.out
   clear HA
   simp only [impl_Entries.l0] at H
   revert H; refine icd (fun c7b0 H => ?_) fun c7b0 H => ?neg
   case neg =>
    simp only [Option.some.injEq, Prod.mk.injEq] at H
    obtain ⟨rfl, rfl, rfl, rfl⟩ := H
    have hnb21 := NB374_373.out
    have hnc21 := NB373_374.out
    have hz22 := cs3_ BK374
    go_wp2
    refine bodyPost_ret (results_ct rfl _ _ gb374 166 #[.int .i64 0, .int .i64 0, .int .i64 0] (0, 0) _ rfl (bfp3 BK374) Try.underlying166 rfl (by kernel_rfl)) rfl ?_
    exact ⟨er, tb HB⟩
   obtain ⟨c8b0, H⟩ := itd H
   obtain ⟨c9b0, H⟩ := itd H
   by_cases c10 : ((rd_T166 l0_2 x11_1).f0) = a1
   case neg =>
    rw [if_neg c10] at H
    have c10b0 : (((rd_T166 l0_2 x11_1).f0) == a1) = false := beq_eq_false_iff_ne.mpr c10
    have c10b1 : (((rd_T166 l0_2 x11_1).f0) != a1) = true := bne_iff_ne.mpr c10
    have H' := Aside0.mk H
    clear H
    have p375 : 0 ≤ (x11_1 : Int) := od
    have q375 : x11_1 < (l0_2.length : Int) := od
    obtain ⟨ad375, e375, hx375⟩ := att166 HR0_2.out x11_1 p375 q375
    cases e375
    replace hx375 := ox3 HB hx375
    replace p375 := eq_true p375
    replace q375 := eq_true q375
    go_wp2_with (first | ((with_reducible refine gq 7 rfl ?_); refine bx2 HB BK373 BK374 (N := 7) (cs := #[.int .i64 0, .int .i64 0, .int .i64 0]) (t := 166) ?_; clear HB BK373 BK374; intro gb376 w17 BK376 GE376 HB NB373_376 NB376_373 BK373 NB374_376 NB376_374 BK374; have hnb18 := NB376_373.out; have hnc18 := NB373_376.out; have hnb19 := NB376_374.out; have hnc19 := NB374_376.out; have hz20 := cs3_ BK376))
    go_roundg k1
    case measure => have := HK1.out; omega
    case rel => exact ⟨(wrap64 (x11_1 + 1)), (x375000_1), (x375001_1), (x375002_1), rsd, H', ⟨by have := HK1.out; omega⟩, ⟨bf BK373⟩, ⟨bf BK374⟩, ⟨tb HB⟩⟩
   rw [if_pos c10] at H
   have c10b0 : (((rd_T166 l0_2 x11_1).f0) == a1) = true := beq_iff_eq.mpr c10
   have c10b1 : (((rd_T166 l0_2 x11_1).f0) != a1) = false := bne_eq_false_iff_eq.mpr c10
   clear c10
   simp only [Option.some.injEq, Prod.mk.injEq] at H
   obtain ⟨rfl, rfl, rfl, rfl⟩ := H
   have p375 : 0 ≤ (x11_1 : Int) := od
   have q375 : x11_1 < (l0_2.length : Int) := od
   obtain ⟨ad375, e375, hx375_0, hx375_1, hx375_2⟩ := at_T166 HR0_2.out x11_1 p375 q375
   cases e375
   replace hx375_0 := ox HB hx375_0
   replace hx375_1 := ox HB hx375_1
   replace hx375_2 := ox HB hx375_2
   replace p375 := eq_true p375
   replace q375 := eq_true q375
   go_wp2_with (first | ((with_reducible refine gq 7 rfl ?_); refine bx2 HB BK373 BK374 (N := 7) (cs := #[.int .i64 0, .int .i64 0, .int .i64 0]) (t := 166) ?_; clear HB BK373 BK374; intro gb376 w11 BK376 GE376 HB NB373_376 NB376_373 BK373 NB374_376 NB376_374 BK374; have hnb12 := NB376_373.out; have hnc12 := NB373_376.out; have hnb13 := NB376_374.out; have hnc13 := NB374_376.out; have hz14 := cs3_ BK376; have hnb15 := NB374_373.out; have hnc15 := NB373_374.out; have hz16 := cs3_ BK374))
   refine bodyPost_ret (results_ct rfl _ _ gb374 166 #[.int .i64 ((rd_T166 l0_2 x11_1).f0), .int .i64 ((rd_T166 l0_2 x11_1).f1), .int .i64 ((rd_T166 l0_2 x11_1).f2)] (0, 0) _ rfl (bfp3 BK374) Try.underlying166 rfl (by kernel_rfl)) rfl ?_
   exact ⟨er, tb HB⟩
def spec_l6Res.f (a0_0 : Int) (l0_1 : List Int) : Option (Int × List Int) := (some (([] : List Int) : List Int)).bind fun y1202 => (if y1202.length + l0_1.length < 17592186044416 then (some (a0_0, (y1202 ++ l0_1))) else (none))
def spec_l6Res.T1 : Bool × List (List Nat × List Nat) := (true, [([], []), ([0], [0]), ([], []), ([], []), ([3], [3]), ([2, 4], [2, 4]), ([1, 5], [1, 5]), ([6, 5, 0, 1, 2, 3, 4, 5, 6], [6])])
def spec_l6Res.B1 : List Nat := [0, 1, 0, 0, 8, 28, 63, 127]
theorem spec_l6Res.tab1 : rtab .any (opsOf Try.f135 1) = spec_l6Res.T1 := by kernel_rfl
theorem spec_l6Res.bits1 : waitsOk spec_l6Res.T1.2 spec_l6Res.B1 = true := by kernel_rfl
set_option maxHeartbeats 8000000 in
set_option maxRecDepth 100000 in
theorem spec_l6Res.calls (a0_0 : Int) (A0_1 : Option Addr) (c0_1 : Nat) (l0_1 : List Int) (r1 : Int) (r2 : List Int) (w : World) (hr0_1 : Kd.C (Kd.int .i64) w A0_1 l0_1.length l0_1) (hc0_1 : l0_1.length ≤ c0_1) (h : spec_l6Res.f a0_0 l0_1 = some (r1, r2)) :
  Calls Try.prog 135 #[.agg #[.int .i64 a0_0, .slice A0_1 l0_1.length c0_1]] w fun e w' => ∃ v1_ : Value, e = .returned (.agg #[.int .i64 r1, v1_]) ∧ Kd.R (Kd.int .i64) 3 w' w.heap.size (fun _ => True) v1_ r2 ∧ Below w.heap.size w w' := by
 have hu70 := Try.underlying70
 have HR0_1 := Aside0.mk hr0_1
 have HC0_1 := Aside0.mk hc0_1
 clear hr0_1 hc0_1
 have HB := Aside0.mk (Below.refl w.heap.size w)
 have H := h
 clear h
 unfold spec_l6Res.f at H
 obtain ⟨y1202, hy1202⟩ : ∃ y_ : List Int, y_ = (([] : List Int)) := ⟨_, rfl⟩
 replace H : (if y1202.length + l0_1.length < 17592186044416 then (some (a0_0, (y1202 ++ l0_1))) else (none)) = some (r1, r2) := by first | (rw [hy1202]; with_reducible exact H) | (have H2_ := (Option.bind_some _ _).symm.trans H; rw [hy1202]; with_reducible exact H2_) | (have H2_ := (Option.bind_some _ _).symm.trans H; with_reducible exact H2_) | with_reducible exact H | (rw [hy1202]; exact H) | exact H
 have Ny1202 := Aside0.mk hy1202
 clear hy1202
 by_cases c2 : y1202.length + l0_1.length < 17592186044416
 case neg =>
  rw [if_neg c2] at H
  exact absurd H (by simp)
 
 
 rw [if_pos c2] at H
 have LMc2 := Aside0.mk c2
 clear c2
 obtain ⟨y1205, hy1205⟩ : ∃ y_ : List Int, y_ = (y1202 ++ l0_1) := ⟨_, rfl⟩
 replace H : (some (a0_0, y1205)) = some (r1, r2) := by first | (rw [hy1205]; with_reducible exact H) | (have H2_ := (Option.bind_some _ _).symm.trans H; rw [hy1205]; with_reducible exact H2_) | (have H2_ := (Option.bind_some _ _).symm.trans H; with_reducible exact H2_) | with_reducible exact H | (rw [hy1205]; exact H) | exact H
 have Ny1205 := Aside0.mk hy1205
 clear hy1205
 simp only [Option.some.injEq, Prod.mk.injEq] at H
 obtain ⟨rfl, rfl⟩ := H
 go_enter Try.func135, Try.ntmps135
 try go_wp2_with (first | ((with_reducible refine gq 1 rfl ?_); refine bx0 HB (N := 1) (t := 70) ?_; clear HB; intro gb1200 w3 BK1200 GE1200 HB) | ((with_reducible refine gq 2 rfl ?_); refine bx1 HB BK1200 (N := 2) (cs := #[.int .i64 0, .slice none 0 0]) (t := 70) ?_; clear HB BK1200; intro gb1201 w4 BK1201 GE1201 HB NB1200_1201 NB1201_1200 BK1200))
 replace BK1200 := bd BK1200
 replace BK1201 := bd BK1201
 replace HB := Aside0.mk (below_drew1 HB.out)
 refine start_ (n := 8) (S := fun w' => cS2 gb1200 (.int .i64 a0_0) (.slice A0_1 l0_1.length c0_1) w') (ds := []) #[false, false, false, false, false, false, false, false] (by kernel_rfl) rfl rfl (ds2_ BK1200) (fun hHeld => ?_); refine with_tabW spec_l6Res.tab1 spec_l6Res.bits1 (fun HT_ HW_ => ?_)
 generalize w4.drew = w5 at BK1200 BK1201 HB hHeld ⊢
 refine pu 0 3 ?_; refine pu 3 6 ?_; refine ta 1 4 ?_; refine ta 4 7 ?_
 refine on1 2 (some 5) (fun K hK => ?_)
 refine Kd.R_lit_step (Kd.int .i64) _ 3 ?hg (N := 5) ?hd (xs := ([] : List Int)) (inner := []) (ok := fun _ => True) (okp := fun _ => True) ?hr ?hp (fun _ hk => hk) trivial (Below.refl _ _) (Nat.le_refl _) (by simp) ?_; (case hd => rfl); (case hg => rfl); (case hr => first | (go_simp; done) | (go_simp; rfl)); (case hp => exact (Reps.none _ _))
 intro v1203 w6 ho7 hb hg_ hnew_
 clear hg_ hnew_
 (first | rw [← Ny1202.out] at ho7 | (simp only [Int.reduceToNat] at ho7; rw [← Ny1202.out] at ho7))
 have HO1204 := Aside0.mk (Kd.R_lower ho7 (below_size (tb HB)))
 replace BK1200 := bb BK1200 hb
 replace BK1201 := bb BK1201 hb
 replace HB := bs HB hb
 clear hb ho7
 refine hK.out _ _ (ds2_ BK1200) (fun hHeld => ?_)
 clear hK K
 refine nm 5 ?_
 refine on1 5 (some 8) (fun K hK => ?_)
 refine Kd.R_append_rows_step (Kd.int .i64) (w0 := w) w.heap.size (by rfl) (.tmp 5) (.tmp 7) 22 3 (.int .i64 0) 8 rfl Try.underlying22 info3 rfl (by decide) (by omega) v1203 y1202 l0_1 _ _ _ (fun _ => True) (fun _ => False) rfl rfl ?aO ?aR (fun _ _ h => h) (fun _ h => h.elim) ?aF ?aB ?aS ?aL ?_
 (case aR => repeat (first | exact (Kd.C_below HR0_1.out HB.out) | (with_reducible refine Kd.C_alloc ?_ _) | (with_reducible refine Kd.C_drewN ?_ _) | (with_reducible refine Kd.C_drew ?_)))
 (case aB => exact (tb HB))
 (case aF => exact (fun _ _ => trivial))
 (case aO => exact (kr HO1204.out))
 (case aS => exact (below_size (tb HB)))
 (case aL => have := LMc2.out; omega)
 intro v1206 w8 ho hb hg hat
 rw [← Ny1205.out] at ho
 replace BK1200 := Aside0.mk (blk_grown (g := gb1200) (o := .cells #[.int .i64 a0_0, .slice A0_1 l0_1.length c0_1] 70 (0, 0)) (bk BK1200) hg (Kd.R_ne HO1204.out BK1200.out (by decide)))
 replace BK1201 := Aside0.mk (blk_grown (g := gb1201) (o := .cells #[.int .i64 0, .slice none 0 0] 70 (0, 0)) (bk BK1201) hg (Kd.R_ne HO1204.out BK1201.out (by decide)))
 replace HB := Aside0.mk (hb)
 have HO1207 := Aside0.mk (ho)
 clear HO1204
 clear ho hb hg hat
 obtain ⟨Ao9, co9, eo9⟩ := Kd.R_slice HO1207.out
 (first | subst eo9 | (injection eo9 with f1_ f2_ f3_; have f4_ := f1_.symm; have f5_ := f3_.symm; clear f1_ f2_ f3_; subst f4_; subst f5_))
 refine hK.out _ _ (ds2_ BK1200) (fun hHeld => ?_)
 clear hK K
 refine nm 8 ?_
 refine pu 6 9 ?_
 refine one_ (i := 7) (N := none) #[true, true, true, true, true, true, true, true] rfl rfl (one_of HT_.out (by kernel_rfl)) (by decide) (fun K hK => ?_)
 have hs10 : w8.cell? ⟨gb1201, 0, none⟩ = some (.int .i64 0) := cz BK1201 0
 have hfs10 := blk_frozen BK1201.out 0
 have hns10_0 := NB1200_1201.out
 have hms10_0 := NB1201_1200.out
 have hs11 : w8.cell? ⟨gb1201, 1, none⟩ = some (.slice none 0 0) := cz BK1201 1
 have hfs11 := blk_frozen BK1201.out 1
 have hns11_0 := NB1200_1201.out
 have hms11_0 := NB1201_1200.out
 refine skip_ (w1 := ?_) (by rfl) rfl ?_ ?_
 rotate_left
 ·go_simp
  rfl
 refine hK.out _ _ ⟨((cell_far (p := ⟨gb1201, _, none⟩) NB1200_1201.out _).trans (((cell_far (p := ⟨gb1201, _, none⟩) NB1200_1201.out _).trans (hHeld.1)))), ((cell_far (p := ⟨gb1201, _, none⟩) NB1200_1201.out _).trans (((cell_far (p := ⟨gb1201, _, none⟩) NB1200_1201.out _).trans (hHeld.2))))⟩ (fun hHeld => ?_)
 clear hK K
 refine done_ (done_of HT_.out (by kernel_rfl)) ?_
 try go_wp2
 refine bodyPost_ret (results_cell_row rfl _ _ gb1201 70 #[.int .i64 a0_0, .slice Ao9 y1205.length co9] (0, 0) _ rfl (bfp2 BK1201) Try.underlying70 rfl (by kernel_rfl)) rfl ?_
 exact ⟨_, er, by (with_reducible repeat (first | apply Kd.R_alloc | apply Kd.R_drewN | apply Kd.R_drew)); exact Kd.R_mono (Kd.R_far (p := ⟨gb1201, 1, none⟩) (Kd.R_far (p := ⟨gb1201, 0, none⟩) (Kd.R_types HO1207.out BK1201.out (by decide)) (fun _ hk => hk.2) (.int .i64 a0_0)) (fun _ hk => hk.2) (.slice Ao9 y1205.length co9)) (fun _ hk => trivial), tb HB⟩
end Go.Proofs.Ytopikhjcbcpiaaa.Q
section
namespace Go.Proofs.Ytopikhjcbcpiaaa.Q
open Go.RowKit Go.Proofs.YtopikhjcbcpiaaaW.PrintWords Go.Proofs.YtopikhjcbcpiaaaW.PrintLast Go.Proofs.YtopikhjcbcpiaaaW.PrintMore
def slices_Clone_int_int.f (l0 : List Int) : Option (List Int) := if l0.length * 8 ≤ 140737488355328 then some l0 else none
set_option maxHeartbeats 2000000 in
set_option maxRecDepth 100000 in
theorem slices_Clone_int_int.calls (A0 : Option Addr) (c0 : Nat) (l0 : List Int) (r : List Int) (w : World) (hr0 : Kd.C (Kd.int .i64) w A0 l0.length l0) (hc0 : l0.length ≤ c0) (h : slices_Clone_int_int.f l0 = some r) :
    Calls Try.prog 158 #[.slice A0 l0.length c0] w fun e w' => ∃ v0_ : Value, e = .returned (v0_) ∧ Kd.R (Kd.int .i64) 3 w' w.heap.size (fun _ => True) v0_ r ∧ Below w.heap.size w w' := by
  have q22 : ∀ (w : World) (a : Option Addr) (n c n' c' : Nat), (binOp .eql 22 (.slice a n c) (.slice none n' c')).run Try.prog w = .ok (.bool a.isNone) w := fun w a n c n' c' => Lib.run_eql_slice_nil w _ _ a n c n' c' Try.underlying22
  unfold slices_Clone_int_int.f at h
  have hlim : l0.length * 8 ≤ 140737488355328 := by
    by_cases hlim : l0.length * 8 ≤ 140737488355328
    · exact hlim
    · rw [if_neg hlim] at h; exact absurd h (by simp)
  rw [if_pos hlim] at h
  obtain rfl := Option.some.inj h
  clear h
  have HLIM := Aside0.mk hlim
  clear hlim
  cases A0 with
  | none =>
    have h0 : l0 = [] := by
      rcases l0 with _ | ⟨x, xs⟩
      · rfl
      · obtain ⟨ad, _, he, _⟩ := Kd.C_get hr0 x 0 (by omega) (by first | (simp; done) | (simp; omega))
        cases he
    clear hr0 HLIM hc0
    subst h0
    go_enter Try.func158, Try.ntmps158
    go_wp2
    go_ret
    exact ⟨_, rfl, Kd.R_nil _ _ _ _ _, Below.refl _ _⟩
  | some ad =>
    have HR := Aside0.mk hr0
    clear hr0 hc0
    go_enter Try.func158, Try.ntmps158
    go_wp2_with (first | ((with_reducible refine gate_dst (N := 5) rfl ?_); refine Kd.R_lit (Kd.int .i64) w.heap.size 3 ?hg (N := 5) ?hd (xs := []) (inner := []) (ok := fun _ => True) (okp := fun _ => True) ?hr ?hp (fun _ hk => hk) trivial (Below.refl _ _) (Nat.le_refl _) (by simp) ?_; (case hd => rfl); (case hg => rfl); (case hr => first | (go_simp; done) | (go_simp; rfl)); (case hp => exact (Reps.none _ _)); intro v6 w6 ho6 hb6 hg_ hnew_; clear hg_ hnew_; have HO := Aside0.mk ho6; have HB := Aside0.mk hb6; clear ho6 hb6) | ((with_reducible refine gate_builtin (b := .append) (xs := #[.tmp 5, .tmp 6]) rfl ?_); at_builtin; refine Kd.R_append_rows (Kd.int .i64) (w0 := w) w.heap.size rfl (.tmp 5) (.tmp 6) 22 3 (.int .i64 0) 8 rfl Try.underlying22 (by kernel_rfl) rfl (by decide) (by omega) v6 [] l0 _ _ _ (fun _ => True) (fun _ => False) rfl rfl HO.out (Kd.C_below HR.out HB.out) ?hKM (fun _ h => h.elim) (fun _ _ => trivial) HB.out HB.out.size (by have := HLIM.out; simp; omega) ?_; (case hKM => intro x cs hk; exact hk); intro v7 w7 ho7 hb7 hg7 hat7; have HO7 := Aside0.mk ho7; have HB7 := Aside0.mk hb7; clear ho7 hb7 hg7 hat7))
    go_ret
    exact ⟨_, rfl, by simpa using HO7.out, HB7.out⟩
def impl_Entry.f (l0 : List S166) : Option (List S166) := if l0.length * 24 ≤ 140737488355328 then some l0 else none
set_option maxHeartbeats 2000000 in
set_option maxRecDepth 100000 in
theorem impl_Entry.calls (A0 : Option Addr) (c0 : Nat) (l0 : List S166) (r : List S166) (w : World) (hr0 : Kd.C k166 w A0 l0.length l0) (hc0 : l0.length ≤ c0) (h : impl_Entry.f l0 = some r) :
    Calls Try.prog 140 #[.slice A0 l0.length c0] w fun e w' => ∃ v0_ : Value, e = .returned (v0_) ∧ Kd.R k166 166 w' w.heap.size (fun _ => True) v0_ r ∧ Below w.heap.size w w' := by
  have q22 : ∀ (w : World) (a : Option Addr) (n c n' c' : Nat), (binOp .eql 104 (.slice a n c) (.slice none n' c')).run Try.prog w = .ok (.bool a.isNone) w := fun w a n c n' c' => Lib.run_eql_slice_nil w _ _ a n c n' c' Try.underlying104
  unfold impl_Entry.f at h
  have hlim : l0.length * 24 ≤ 140737488355328 := by
    by_cases hlim : l0.length * 24 ≤ 140737488355328
    · exact hlim
    · rw [if_neg hlim] at h; exact absurd h (by simp)
  rw [if_pos hlim] at h
  obtain rfl := Option.some.inj h
  clear h
  have HLIM := Aside0.mk hlim
  clear hlim
  cases A0 with
  | none =>
    have h0 : l0 = [] := by
      rcases l0 with _ | ⟨x, xs⟩
      · rfl
      · obtain ⟨ad, _, he, _⟩ := Kd.C_get hr0 x 0 (by omega) (by first | (simp; done) | (simp; omega))
        cases he
    clear hr0 HLIM hc0
    subst h0
    go_enter Try.func140, Try.ntmps140
    go_wp2
    go_ret
    exact ⟨_, rfl, Kd.R_nil _ _ _ _ _, Below.refl _ _⟩
  | some ad =>
    have HR := Aside0.mk hr0
    clear hr0 hc0
    go_enter Try.func140, Try.ntmps140
    go_wp2_with (first | ((with_reducible refine gate_dst (N := 5) rfl ?_); refine Kd.R_lit k166 w.heap.size 166 ?hg (N := 5) ?hd (xs := []) (inner := []) (ok := fun _ => True) (okp := fun _ => True) ?hr ?hp (fun _ hk => hk) trivial (Below.refl _ _) (Nat.le_refl _) (by simp) ?_; (case hd => rfl); (case hg => rfl); (case hr => first | (go_simp; done) | (go_simp; rfl)); (case hp => exact (Reps.none _ _)); intro v6 w6 ho6 hb6 hg_ hnew_; clear hg_ hnew_; have HO := Aside0.mk ho6; have HB := Aside0.mk hb6; clear ho6 hb6) | ((with_reducible refine gate_builtin (b := .append) (xs := #[.tmp 5, .tmp 6]) rfl ?_); at_builtin; refine Kd.R_append_rows k166 (w0 := w) w.heap.size rfl (.tmp 5) (.tmp 6) 104 166 (.agg #[(.int .i64 0), (.int .i64 0), (.int .i64 0)]) 24 rfl Try.underlying104 (by kernel_rfl) rfl (by decide) (by omega) v6 [] l0 _ _ _ (fun _ => True) (fun _ => False) rfl rfl HO.out (Kd.C_below HR.out HB.out) ?hKM (fun _ h => h.elim) (fun _ _ => trivial) HB.out HB.out.size (by have := HLIM.out; simp; omega) ?_; (case hKM => intro x cs hk; exact hk); intro v7 w7 ho7 hb7 hg7 hat7; have HO7 := Aside0.mk ho7; have HB7 := Aside0.mk hb7; clear ho7 hb7 hg7 hat7))
    go_ret
    exact ⟨_, rfl, by simpa using HO7.out, HB7.out⟩
def impl_Word_186.f (l0 : List S141) : Option (List S141) := if l0.length * 24 ≤ 140737488355328 then some l0 else none
set_option maxHeartbeats 2000000 in
set_option maxRecDepth 100000 in
theorem impl_Word_186.calls (A0 : Option Addr) (c0 : Nat) (l0 : List S141) (r : List S141) (w : World) (hr0 : Kd.C k141 w A0 l0.length l0) (hc0 : l0.length ≤ c0) (h : impl_Word_186.f l0 = some r) :
    Calls Try.prog 186 #[.slice A0 l0.length c0] w fun e w' => ∃ v0_ : Value, e = .returned (v0_) ∧ Kd.R k141 141 w' w.heap.size (fun _ => True) v0_ r ∧ Below w.heap.size w w' := by
  have q22 : ∀ (w : World) (a : Option Addr) (n c n' c' : Nat), (binOp .eql 47 (.slice a n c) (.slice none n' c')).run Try.prog w = .ok (.bool a.isNone) w := fun w a n c n' c' => Lib.run_eql_slice_nil w _ _ a n c n' c' Try.underlying47
  unfold impl_Word_186.f at h
  have hlim : l0.length * 24 ≤ 140737488355328 := by
    by_cases hlim : l0.length * 24 ≤ 140737488355328
    · exact hlim
    · rw [if_neg hlim] at h; exact absurd h (by simp)
  rw [if_pos hlim] at h
  obtain rfl := Option.some.inj h
  clear h
  have HLIM := Aside0.mk hlim
  clear hlim
  cases A0 with
  | none =>
    have h0 : l0 = [] := by
      rcases l0 with _ | ⟨x, xs⟩
      · rfl
      · obtain ⟨ad, _, he, _⟩ := Kd.C_get hr0 x 0 (by omega) (by first | (simp; done) | (simp; omega))
        cases he
    clear hr0 HLIM hc0
    subst h0
    go_enter Try.func186, Try.ntmps186
    go_wp2
    go_ret
    exact ⟨_, rfl, Kd.R_nil _ _ _ _ _, Below.refl _ _⟩
  | some ad =>
    have HR := Aside0.mk hr0
    clear hr0 hc0
    go_enter Try.func186, Try.ntmps186
    go_wp2_with (first | ((with_reducible refine gate_dst (N := 5) rfl ?_); refine Kd.R_lit k141 w.heap.size 141 ?hg (N := 5) ?hd (xs := []) (inner := []) (ok := fun _ => True) (okp := fun _ => True) ?hr ?hp (fun _ hk => hk) trivial (Below.refl _ _) (Nat.le_refl _) (by simp) ?_; (case hd => rfl); (case hg => rfl); (case hr => first | (go_simp; done) | (go_simp; rfl)); (case hp => exact (Reps.none _ _)); intro v6 w6 ho6 hb6 hg_ hnew_; clear hg_ hnew_; have HO := Aside0.mk ho6; have HB := Aside0.mk hb6; clear ho6 hb6) | ((with_reducible refine gate_builtin (b := .append) (xs := #[.tmp 5, .tmp 6]) rfl ?_); at_builtin; refine Kd.R_append_rows k141 (w0 := w) w.heap.size rfl (.tmp 5) (.tmp 6) 47 141 (.agg #[(.int .i64 0), (.int .i64 0), (.int .i64 0)]) 24 rfl Try.underlying47 (by kernel_rfl) rfl (by decide) (by omega) v6 [] l0 _ _ _ (fun _ => True) (fun _ => False) rfl rfl HO.out (Kd.C_below HR.out HB.out) ?hKM (fun _ h => h.elim) (fun _ _ => trivial) HB.out HB.out.size (by have := HLIM.out; simp; omega) ?_; (case hKM => intro x cs hk; exact hk); intro v7 w7 ho7 hb7 hg7 hat7; have HO7 := Aside0.mk ho7; have HB7 := Aside0.mk hb7; clear ho7 hb7 hg7 hat7))
    go_ret
    exact ⟨_, rfl, by simpa using HO7.out, HB7.out⟩
end Go.Proofs.Ytopikhjcbcpiaaa.Q
end
namespace Go.Proofs.Ytopikhjcbcpiaaa.Q
open Go.RowKit Go.Proofs.YtopikhjcbcpiaaaW.PrintWords Go.Proofs.YtopikhjcbcpiaaaW.PrintLast Go.Proofs.YtopikhjcbcpiaaaW.PrintMore
attribute [local go_sem] max2_int min2_int max_two min_two max_three min_three max_four min_four   -- for this text's walks alone
set_option linter.unusedVariables false
set_option linter.unusedSimpArgs false
def spec_l7Marks.l0 : Nat → Int → Int → List (S141) → List (S145) → Option (Bool)
 | 0, _, _, _, _ => none
 | k + 1, x1, x5, x1248000, x1248001 => if x5 < (x1248000.length : Int) then (if 0 ≤ x5 then (if ((rd_T141 x1248000 x5).f1) > 0 then (if x1 < 0 then (some true) else (if ((rd_T141 x1248000 x5).f1) = (wrap64 (x1 + 1)) then (some true) else (spec_l7Marks.l0 k x1 (wrap64 (x5 + 1)) x1248000 x1248001))) else (spec_l7Marks.l0 k x1 (wrap64 (x5 + 1)) x1248000 x1248001)) else (none)) else (some false)
def spec_l7Marks.f (k : Nat) (l0_0 : List (S141)) (l0_1 : List (S145)) (a1 : Int) : Option (Bool) := spec_l7Marks.l0 k a1 0 l0_0 l0_1
set_option maxHeartbeats 8000000 in
set_option maxRecDepth 100000 in
theorem spec_l7Marks.calls (k : Nat) (A0_0 : Option Addr) (c0_0 : Nat) (l0_0 : List (S141)) (A0_1 : Option Addr) (c0_1 : Nat) (l0_1 : List (S145)) (a1 : Int) (r : Bool) (w : World) (hr0_0 : Kd.C k141 w A0_0 l0_0.length l0_0) (hc0_0 : l0_0.length ≤ c0_0) (hr0_1 : Kd.C k145 w A0_1 l0_1.length l0_1) (hc0_1 : l0_1.length ≤ c0_1) (h : spec_l7Marks.f k l0_0 l0_1 a1 = some r) :
  Calls Try.prog 134 #[.agg #[.slice A0_0 l0_0.length c0_0, .slice A0_1 l0_1.length c0_1], .int .i64 a1] w fun e w' => e = .returned (.bool r) ∧ Below w.heap.size w w' := by
 have hu88 := Try.underlying88
 have HR0_0 := Aside0.mk hr0_0
 have HC0_0 := Aside0.mk hc0_0
 clear hr0_0 hc0_0
 have HR0_1 := Aside0.mk hr0_1
 have HC0_1 := Aside0.mk hc0_1
 clear hr0_1 hc0_1
 have HB := Aside0.mk (Below.refl w.heap.size w)
 have H := h
 clear h
 unfold spec_l7Marks.f at H
 have H' := Aside0.mk H
 clear H
 go_enter Try.func134, Try.ntmps134
 go_wp2_with (first | ((with_reducible refine gq 2 rfl ?_); refine bx0 HB (N := 2) (t := 88) ?_; clear HB; intro gb1247 w3 BK1247 GE1247 HB))
 go_loopg [5] k (fun kq v5 w' => ∃ (x5_1 : Int), v5 = .int .i64 x5_1 ∧ Aside0 (spec_l7Marks.l0 kq a1 x5_1 l0_0 l0_1 = some r) ∧ Aside0 (kq ≤ k) ∧ Aside0 (w'.heap[gb1247]? = some (.cells #[(.slice A0_0 l0_0.length c0_0), (.slice A0_1 l0_1.length c0_1)] 88 (0, 0))) ∧ Aside0 (Below w.heap.size w w'))
 case atStart => exact ⟨(0), rsd, H', ⟨Nat.le_refl _⟩, ⟨by (with_reducible repeat (first | refine blk_drewN ?_ _ | refine blk_drew ?_ | refine blk_alloc ?_ _)); exact BK1247.out⟩, ⟨tb HB⟩⟩
 case round =>
  clear H'
  obtain ⟨x5_1, rfl, HA, HK1, BK1247, HB⟩ := hrel
  cases gk with
  | zero => exact absurd HA.out (by simp [spec_l7Marks.l0])
  | succ k1 =>
   have H := HA.out
   clear HA
   simp only [spec_l7Marks.l0] at H
   revert H; refine icd (fun c4b0 H => ?_) fun c4b0 H => ?neg
   case neg =>
    obtain rfl := oin H
    have hz13 := cs2_ BK1247
    go_wp2
    go_ret
    exact ⟨er, tb HB⟩
   obtain ⟨c5b0, H⟩ := itd H
   revert H; refine icd (fun c6b0 H => ?_) fun c6b0 H => ?neg
   case neg =>
    have H' := Aside0.mk H
    clear H
    have hz12 := cs2_ BK1247
    have p1248 : 0 ≤ (x5_1 : Int) := od
    have q1248 : x5_1 < (l0_0.length : Int) := od
    obtain ⟨ad1248, e1248, hx1248⟩ := att141 HR0_0.out x5_1 p1248 q1248
    cases e1248
    replace hx1248 := ox3 HB hx1248
    replace p1248 := eq_true p1248
    replace q1248 := eq_true q1248
    go_wp2
    go_roundg k1
    case measure => have := HK1.out; omega
    case rel => exact ⟨(wrap64 (x5_1 + 1)), rsd, H', ⟨by have := HK1.out; omega⟩, ⟨by (with_reducible repeat (first | refine blk_drewN ?_ _ | refine blk_drew ?_ | refine blk_alloc ?_ _)); exact BK1247.out⟩, ⟨tb HB⟩⟩
   revert H; refine icd (fun c7b0 H => ?pos) fun c7b0 H => ?_
   case pos =>
    obtain rfl := oin H
    have hz8 := cs2_ BK1247
    have p1248 : 0 ≤ (x5_1 : Int) := od
    have q1248 : x5_1 < (l0_0.length : Int) := od
    obtain ⟨ad1248, e1248, hx1248_0, hx1248_1, hx1248_2⟩ := at_T141 HR0_0.out x5_1 p1248 q1248
    cases e1248
    replace hx1248_0 := ox HB hx1248_0
    replace hx1248_1 := ox HB hx1248_1
    replace hx1248_2 := ox HB hx1248_2
    replace p1248 := eq_true p1248
    replace q1248 := eq_true q1248
    go_wp2
    go_ret
    exact ⟨er, tb HB⟩
   by_cases c9 : ((rd_T141 l0_0 x5_1).f1) = (wrap64 (a1 + 1))
   case pos =>
    rw [if_pos c9] at H
    have c9b0 : (((rd_T141 l0_0 x5_1).f1) == (wrap64 (a1 + 1))) = true := beq_iff_eq.mpr c9
    have c9b1 : (((rd_T141 l0_0 x5_1).f1) != (wrap64 (a1 + 1))) = false := bne_eq_false_iff_eq.mpr c9
    clear c9
    obtain rfl := oin H
    have hz10 := cs2_ BK1247
    have p1248 : 0 ≤ (x5_1 : Int) := od
    have q1248 : x5_1 < (l0_0.length : Int) := od
    obtain ⟨ad1248, e1248, hx1248_0, hx1248_1, hx1248_2⟩ := at_T141 HR0_0.out x5_1 p1248 q1248
    cases e1248
    replace hx1248_0 := ox HB hx1248_0
    replace hx1248_1 := ox HB hx1248_1
    replace hx1248_2 := ox HB hx1248_2
    replace p1248 := eq_true p1248
    replace q1248 := eq_true q1248
    have p1249 : 0 ≤ (x5_1 : Int) := od
    have q1249 : x5_1 < (l0_0.length : Int) := od
    obtain ⟨ad1249, e1249, hx1249_0, hx1249_1, hx1249_2⟩ := at_T141 HR0_0.out x5_1 p1249 q1249
    obtain rfl : ad1248 = ad1249 := (by injection e1249)
    replace hx1249_0 := ox HB hx1249_0
    replace hx1249_1 := ox HB hx1249_1
    replace hx1249_2 := ox HB hx1249_2
    replace p1249 := eq_true p1249
    replace q1249 := eq_true q1249
    go_wp2
    go_ret
    exact ⟨er, tb HB⟩
   rw [if_neg c9] at H
   have c9b0 : (((rd_T141 l0_0 x5_1).f1) == (wrap64 (a1 + 1))) = false := beq_eq_false_iff_ne.mpr c9
   have c9b1 : (((rd_T141 l0_0 x5_1).f1) != (wrap64 (a1 + 1))) = true := bne_iff_ne.mpr c9
   have H' := Aside0.mk H
   clear H
   have hz11 := cs2_ BK1247
   have p1248 : 0 ≤ (x5_1 : Int) := od
   have q1248 : x5_1 < (l0_0.length : Int) := od
   obtain ⟨ad1248, e1248, hx1248_0, hx1248_1, hx1248_2⟩ := at_T141 HR0_0.out x5_1 p1248 q1248
   cases e1248
   replace hx1248_0 := ox HB hx1248_0
   replace hx1248_1 := ox HB hx1248_1
   replace hx1248_2 := ox HB hx1248_2
   replace p1248 := eq_true p1248
   replace q1248 := eq_true q1248
   have p1249 : 0 ≤ (x5_1 : Int) := od
   have q1249 : x5_1 < (l0_0.length : Int) := od
   obtain ⟨ad1249, e1249, hx1249_0, hx1249_1, hx1249_2⟩ := at_T141 HR0_0.out x5_1 p1249 q1249
   obtain rfl : ad1248 = ad1249 := (by injection e1249)
   replace hx1249_0 := ox HB hx1249_0
   replace hx1249_1 := ox HB hx1249_1
   replace hx1249_2 := ox HB hx1249_2
   replace p1249 := eq_true p1249
   replace q1249 := eq_true q1249
   go_wp2
   go_roundg k1
   case measure => have := HK1.out; omega
   case rel => exact ⟨(wrap64 (x5_1 + 1)), rsd, H', ⟨by have := HK1.out; omega⟩, ⟨by (with_reducible repeat (first | refine blk_drewN ?_ _ | refine blk_drew ?_ | refine blk_alloc ?_ _)); exact BK1247.out⟩, ⟨tb HB⟩⟩
def laws_eqHelp.f (a0_0 : Int) (a0_1 : Int) (a0_2 : Int) (a0_3 : Int) (a1_0 : Int) (a1_1 : Int) (a1_2 : Int) (a1_3 : Int) : Option (Bool) := if a0_0 = a1_0 then (if a0_1 = a1_1 then (if a0_2 = a1_2 then (if a0_3 = a1_3 then (some true) else (some false)) else (some false)) else (some false)) else (some false)
set_option maxHeartbeats 8000000 in
set_option maxRecDepth 100000 in
theorem laws_eqHelp.calls (a0_0 : Int) (a0_1 : Int) (a0_2 : Int) (a0_3 : Int) (a1_0 : Int) (a1_1 : Int) (a1_2 : Int) (a1_3 : Int) (r : Bool) (w : World) (h : laws_eqHelp.f a0_0 a0_1 a0_2 a0_3 a1_0 a1_1 a1_2 a1_3 = some r) :
  Calls Try.prog 67 #[.agg #[.int .i64 a0_0, .int .i64 a0_1, .int .i64 a0_2, .int .i64 a0_3], .agg #[.int .i64 a1_0, .int .i64 a1_1, .int .i64 a1_2, .int .i64 a1_3]] w fun e w' => e = .returned (.bool r) ∧ Below w.heap.size w w' := by
 have hu100 := Try.underlying100
 have HB := Aside0.mk (Below.refl w.heap.size w)
 have H := h
 clear h
 unfold laws_eqHelp.f at H
 by_cases c3 : a0_0 = a1_0
 case neg =>
  rw [if_neg c3] at H
  have c3b0 : (a0_0 == a1_0) = false := beq_eq_false_iff_ne.mpr c3
  have c3b1 : (a0_0 != a1_0) = true := bne_iff_ne.mpr c3
  obtain rfl := oin H
  go_enter Try.func67, Try.ntmps67
  go_wp2_with (first | ((with_reducible refine gq 2 rfl ?_); refine bx0 HB (N := 2) (t := 100) ?_; clear HB; intro gb243 w27 BK243 GE243 HB) | ((with_reducible refine gq 3 rfl ?_); refine bx1 HB BK243 (N := 3) (t := 100) ?_; clear HB BK243; intro gb244 w28 BK244 GE244 HB NB243_244 NB244_243 BK243; have hnb29 := NB243_244.out; have hnc29 := NB244_243.out; have hz30 := cs4_ BK243; have hz31 := cs4_ BK244))
  go_ret
  exact ⟨er, tb HB⟩
 
 
 rw [if_pos c3] at H
 have c3b0 : (a0_0 == a1_0) = true := beq_iff_eq.mpr c3
 have c3b1 : (a0_0 != a1_0) = false := bne_eq_false_iff_eq.mpr c3
 clear c3
 by_cases c4 : a0_1 = a1_1
 case neg =>
  rw [if_neg c4] at H
  have c4b0 : (a0_1 == a1_1) = false := beq_eq_false_iff_ne.mpr c4
  have c4b1 : (a0_1 != a1_1) = true := bne_iff_ne.mpr c4
  obtain rfl := oin H
  go_enter Try.func67, Try.ntmps67
  go_wp2_with (first | ((with_reducible refine gq 2 rfl ?_); refine bx0 HB (N := 2) (t := 100) ?_; clear HB; intro gb243 w22 BK243 GE243 HB) | ((with_reducible refine gq 3 rfl ?_); refine bx1 HB BK243 (N := 3) (t := 100) ?_; clear HB BK243; intro gb244 w23 BK244 GE244 HB NB243_244 NB244_243 BK243; have hnb24 := NB243_244.out; have hnc24 := NB244_243.out; have hz25 := cs4_ BK243; have hz26 := cs4_ BK244))
  go_ret
  exact ⟨er, tb HB⟩
 rw [if_pos c4] at H
 have c4b0 : (a0_1 == a1_1) = true := beq_iff_eq.mpr c4
 have c4b1 : (a0_1 != a1_1) = false := bne_eq_false_iff_eq.mpr c4
 clear c4
 by_cases c5 : a0_2 = a1_2
 case neg =>
  rw [if_neg c5] at H
  have c5b0 : (a0_2 == a1_2) = false := beq_eq_false_iff_ne.mpr c5
  have c5b1 : (a0_2 != a1_2) = true := bne_iff_ne.mpr c5
  obtain rfl := oin H
  go_enter Try.func67, Try.ntmps67
  go_wp2_with (first | ((with_reducible refine gq 2 rfl ?_); refine bx0 HB (N := 2) (t := 100) ?_; clear HB; intro gb243 w17 BK243 GE243 HB) | ((with_reducible refine gq 3 rfl ?_); refine bx1 HB BK243 (N := 3) (t := 100) ?_; clear HB BK243; intro gb244 w18 BK244 GE244 HB NB243_244 NB244_243 BK243; have hnb19 := NB243_244.out; have hnc19 := NB244_243.out; have hz20 := cs4_ BK243; have hz21 := cs4_ BK244))
  go_ret
  exact ⟨er, tb HB⟩
 rw [if_pos c5] at H
 have c5b0 : (a0_2 == a1_2) = true := beq_iff_eq.mpr c5
 have c5b1 : (a0_2 != a1_2) = false := bne_eq_false_iff_eq.mpr c5
 clear c5
 by_cases c6 : a0_3 = a1_3
 case neg =>
  rw [if_neg c6] at H
  have c6b0 : (a0_3 == a1_3) = false := beq_eq_false_iff_ne.mpr c6
  have c6b1 : (a0_3 != a1_3) = true := bne_iff_ne.mpr c6
  obtain rfl := oin H
  go_enter Try.func67, Try.ntmps67
  go_wp2_with (first | ((with_reducible refine gq 2 rfl ?_); refine bx0 HB (N := 2) (t := 100) ?_; clear HB; intro gb243 w12 BK243 GE243 HB) | ((with_reducible refine gq 3 rfl ?_); refine bx1 HB BK243 (N := 3) (t := 100) ?_; clear HB BK243; intro gb244 w13 BK244 GE244 HB NB243_244 NB244_243 BK243; have hnb14 := NB243_244.out; have hnc14 := NB244_243.out; have hz15 := cs4_ BK243; have hz16 := cs4_ BK244))
  go_ret
  exact ⟨er, tb HB⟩
 rw [if_pos c6] at H
 have c6b0 : (a0_3 == a1_3) = true := beq_iff_eq.mpr c6
 have c6b1 : (a0_3 != a1_3) = false := bne_eq_false_iff_eq.mpr c6
 clear c6
 obtain rfl := oin H
 go_enter Try.func67, Try.ntmps67
 go_wp2_with (first | ((with_reducible refine gq 2 rfl ?_); refine bx0 HB (N := 2) (t := 100) ?_; clear HB; intro gb243 w7 BK243 GE243 HB) | ((with_reducible refine gq 3 rfl ?_); refine bx1 HB BK243 (N := 3) (t := 100) ?_; clear HB BK243; intro gb244 w8 BK244 GE244 HB NB243_244 NB244_243 BK243; have hnb9 := NB243_244.out; have hnc9 := NB244_243.out; have hz10 := cs4_ BK243; have hz11 := cs4_ BK244))
 go_ret
 exact ⟨er, tb HB⟩
end Go.Proofs.Ytopikhjcbcpiaaa.Q
