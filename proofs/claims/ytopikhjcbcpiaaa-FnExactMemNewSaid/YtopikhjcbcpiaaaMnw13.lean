/- Part 13 of the steps by which the law is shown: what each function of the program, of the reference and of the law computes. No condition. -/
import Derived.Test.YtopikhjcbcpiaaaMnw0
import Derived.Test.YtopikhjcbcpiaaaMnw2
import Derived.Test.YtopikhjcbcpiaaaMnw6
import Derived.Test.YtopikhjcbcpiaaaMnw8
import Derived.Test.YtopikhjcbcpiaaaMnw10
import Derived.Test.YtopikhjcbcpiaaaMnw11
import Derived.Test.YtopikhjcbcpiaaaMnw12
section
/- A new memory: the program's and the reference's are the same. -/
namespace Go.Proofs.Ytopikhjcbcpiaaa.Q
open Go.RowKit Go.Proofs.YtopikhjcbcpiaaaW.PrintWords Go.Proofs.YtopikhjcbcpiaaaX
def newW (l : List Int) : List S141 := l.map fun x => ⟨x, 0, 0⟩
def newM (l : List Int) (n : Int) : List S141 × List S145 × Bool :=
  if inB n 1 4 = true then (if memB (newW l) (List.replicate n.toNat z145) = true then (newW l, List.replicate n.toNat z145, true) else ([], [], false)) else ([], [], false)
theorem rd_at (p : List Int) (x : Int) (r : List Int) : rd (p ++ x :: r) (p.length : Int) = x := by
  show (p ++ x :: r).getD (p.length : Int).toNat 0 = x
  simp [List.getD_eq_getElem?_getD]
theorem fit_rep (n : Nat) : fitM (List.replicate n z145) := fun x hx => by
  rw [List.eq_of_mem_replicate hx]; simp [z145]
theorem memNew_both (l : List Int) (st n : Int) (hl : l.length ≤ 1048576) : ∃ r : List S141 × List S145 × Bool, Ev (fun k => spec_MemNew.f k l st n) r ∧ Ev (fun k => impl_MemNew.f k l st n) r ∧ r.1.length ≤ 1048576 ∧ r.2.1.length ≤ 1048576 ∧ ∀ x ∈ r.2.1, fitE x := by
  obtain ⟨W, hs, hi, h20⟩ := words_both l st hl
  have hWl : (newW W).length ≤ 1048576 := by simp [newW]; omega
  have ks : ∀ (r p : List Int) (acc : List S141), p ++ r = W → acc = newW p → Ev (fun k => spec_MemNew.l0 k n W (p.length : Int) acc) (newM W n) := by
    intro r
    induction r with
    | nil =>
      intro p acc hp hacc
      simp only [List.append_nil] at hp
      subst hp
      subst hacc
      unfold newM
      cases hn : inB n 1 4 with
      | false =>
        simp only [Bool.false_eq_true, if_false]
        have hm := ev_spec_MemOk (newW p) [] hWl (by simp) (fun x hx => by simp at hx)
        have hm0 : memB (newW p) [] = false := by simp [memB, inB]
        rw [hm0] at hm
        refine Ev.step (f := fun k => (spec_MemOk.f k (newW p) []).bind fun t => if t = true then some (newW p, [], true) else some ([], [], false)) (fun k => ?_) (Ev.bind hm (ev_neg (by simp) (Ev.now _)))
        simp only [spec_MemNew.l0, l1In_eq, Option.bind_some, hn]
        rw [if_neg (by omega), if_neg (by simp)]
      | true =>
        have hb := inB_iff.1 hn
        simp only [if_true]
        have hm := ev_spec_MemOk (newW p) (List.replicate n.toNat z145) hWl (by simp; omega) (fit_rep _)
        refine Ev.step (f := fun k => (spec_MemOk.f k (newW p) (List.replicate n.toNat z145)).bind fun t => if t = true then some (newW p, List.replicate n.toNat z145, true) else some ([], [], false)) (fun k => ?_) (Ev.bind hm (ev_of fun k => ?_))
        · simp only [spec_MemNew.l0, l1In_eq, Option.bind_some, hn]
          rw [if_neg (by omega), if_pos trivial, if_pos (by omega), if_pos (by omega)]
        · cases memB (newW p) (List.replicate n.toNat z145) <;> simp
    | cons x r ih =>
      intro p acc hp hacc
      have hlen : p.length < W.length := by rw [← hp]; simp
      have h := ih (p ++ [x]) (acc ++ [⟨x, 0, 0⟩]) (by rw [← hp]; simp) (by rw [hacc]; simp [newW])
      have ha : acc.length = p.length := by rw [hacc]; simp [newW]
      refine Ev.step (fun k => ?_) h
      have hr : rd W (p.length : Int) = x := by rw [← hp]; exact rd_at p x r
      simp only [spec_MemNew.l0, hr]
      rw [if_pos (by omega), if_pos (by omega), if_pos (by omega), next_at p x (by omega)]
  have ki : inB n 1 4 = true → ∀ (r p : List Int) (acc : List S141), p ++ r = W → acc = newW p → Ev (fun k => impl_MemNew.l0 k W (W.length : Int) (p.length : Int) acc (List.replicate n.toNat z145)) (newM W n) := by
    intro hn r
    have hb := inB_iff.1 hn
    induction r with
    | nil =>
      intro p acc hp hacc
      simp only [List.append_nil] at hp
      subst hp
      subst hacc
      unfold newM
      rw [if_pos hn]
      have hm := ev_impl_MemOk (newW p) (List.replicate n.toNat z145) hWl (by simp; omega) (fit_rep _)
      refine Ev.step (f := fun k => (impl_MemOk.f k (newW p) (List.replicate n.toNat z145)).bind fun t => if t = true then some (newW p, List.replicate n.toNat z145, true) else some ([], [], false)) (fun k => ?_) (Ev.bind hm (ev_of fun k => ?_))
      · simp only [impl_MemNew.l0]
        rw [if_neg (by omega)]
      · cases memB (newW p) (List.replicate n.toNat z145) <;> simp
    | cons x r ih =>
      intro p acc hp hacc
      have hlen : p.length < W.length := by rw [← hp]; simp
      have h := ih (p ++ [x]) (acc ++ [⟨x, 0, 0⟩]) (by rw [← hp]; simp) (by rw [hacc]; simp [newW])
      have ha : acc.length = p.length := by rw [hacc]; simp [newW]
      refine Ev.step (fun k => ?_) h
      have hr : rd W (p.length : Int) = x := by rw [← hp]; exact rd_at p x r
      simp only [impl_MemNew.l0, hr]
      rw [if_pos (by omega), if_pos (by omega), if_pos (by omega), if_pos (by omega), next_at p x (by omega)]
  refine ⟨newM W n, ?_, ?_, ?_⟩
  · unfold spec_MemNew.f
    exact Ev.bind hs (ks W [] [] rfl rfl)
  · unfold impl_MemNew.f
    simp only [from_eq, Option.bind_some]
    cases hn : inB n 1 4 with
    | false => refine ev_neg (by simp) (ev_to (Ev.now _) (by unfold newM; rw [if_neg (by simp [hn])]))
    | true =>
      have hb := inB_iff.1 hn
      exact ev_pos rfl (ev_pos (by omega) (ev_pos (by omega) (Ev.bind hi (ki hn W [] [] rfl rfl))))
  · unfold newM
    cases hn : inB n 1 4 with
    | false => simp
    | true =>
      have hb := inB_iff.1 hn
      simp only [if_true]
      split
      · refine ⟨hWl, by simp; omega, fun x hx => ?_⟩
        rw [List.eq_of_mem_replicate hx]; unfold fitE; simp [z145, z70]
      · simp
end Go.Proofs.Ytopikhjcbcpiaaa.Q
end
section
namespace Go.Proofs.Ytopikhjcbcpiaaa.Q
open Go.RowKit Go.Proofs.YtopikhjcbcpiaaaW.PrintWords Go.Proofs.YtopikhjcbcpiaaaW.PrintLast Go.Proofs.YtopikhjcbcpiaaaW.PrintMore
attribute [local go_sem] max2_int min2_int max_two min_two max_three min_three max_four min_four
set_option linter.unusedVariables false
set_option linter.unusedSimpArgs false
set_option maxHeartbeats 8000000 in
set_option maxRecDepth 100000 in
theorem laws_FnExactMemNew.out (k : Nat) (A0 : Option Addr) (c0 : Nat) (l0 : List Int) (a0_1 a1 t0 t1 t2 : Int) (b : Bool) (ws ws2 : List S141) (ds ds2 : List S145) (l1 : List Int) (w : World) (hr : Kd.C (Kd.int .i64) w A0 l0.length l0) (hc : l0.length ≤ c0)
    (hH1 : laws_szRows.f l0 a0_1 1048576 = some t0) (n0 : decide (t0 < 0) = true) :
    Calls Try.prog 8 #[.agg #[.slice A0 l0.length c0, .int .i64 a0_1], .int .i64 a1] w fun e w' => e = .returned (.bool true) ∧ Below w.heap.size w w' := by
  have hu58 := Try.underlying58
  have hu65 := Try.underlying65
  have hu88 := Try.underlying88
  have HR := Aside0.mk hr
  have HC := Aside0.mk hc
  clear hr hc
  have H1 := Aside0.mk hH1
  clear hH1
  have S := Aside0.mk (St.start w)
  go_enter Try.func8, Try.ntmps8
  go_wp2_with (first
      | ((with_reducible refine gate_dst (N := 2) rfl ?_)
         refine box_event ?hg (N := 2) ?hd (cs := #[.slice A0 l0.length c0, .int .i64 a0_1]) (t := 58) ?hr ?_
         (case hd => rfl)
         (case hg => rfl)
         (case hr => first | (go_simp; done) | (go_simp; rfl))
         intro g1 hg w2 hbox hb
         replace S := Aside0.mk (S.out.box hg hbox hb)
         clear hg hbox hb
         have kg1_0 : w2.cell? ⟨g1, 0, none⟩ = some (.slice A0 l0.length c0) := (blk_cell (S.out.blk 0 rfl) 0).trans rfl
         have kg1_1 : w2.cell? ⟨g1, 1, none⟩ = some (.int .i64 a0_1) := (blk_cell (S.out.blk 0 rfl) 1).trans rfl)
      | ((with_reducible refine gate_callee (f := 32) rfl ?_)
         (try clear kg1_0 kg1_1)
         refine goesL_ (some 18) rfl rfl Try.func32 (by kernel_rfl) rfl #[.agg #[.slice A0 l0.length c0, .int .i64 a0_1], .int .i64 1048576] rfl (by (try simp only [List.map_toArray, List.map_cons, List.map_nil]); first | done | rfl) ?_
         (with_reducible refine (laws_szRows.calls A0 c0 l0 a0_1 1048576 _ _ (Kd.C_below HR.out S.out.below) HC.out H1.out).mono ?_)
         rintro e w3 ⟨rfl, hb⟩
         refine ⟨_, rfl, ?_⟩
         replace S := Aside0.mk (S.out.moved hb)
         clear hb
         have kg1_0 : w3.cell? ⟨g1, 0, none⟩ = some (.slice A0 l0.length c0) := (blk_cell (S.out.blk 0 rfl) 0).trans rfl
         have kg1_1 : w3.cell? ⟨g1, 1, none⟩ = some (.int .i64 a0_1) := (blk_cell (S.out.blk 0 rfl) 1).trans rfl))
  go_ret
  exact ⟨by first | exact er | rfl | (simp; done), S.out.done⟩
set_option maxHeartbeats 8000000 in
set_option maxRecDepth 100000 in
theorem laws_FnExactMemNew.way (k : Nat) (A0 : Option Addr) (c0 : Nat) (l0 : List Int) (a0_1 a1 t0 t1 t2 : Int) (b : Bool) (ws ws2 : List S141) (ds ds2 : List S145) (l1 : List Int) (w : World) (hr : Kd.C (Kd.int .i64) w A0 l0.length l0) (hc : l0.length ≤ c0)
    (hH1 : laws_szRows.f l0 a0_1 1048576 = some t0) (hH2 : laws_toRows.f k l0 a0_1 = some (l0, a0_1)) (hH3 : spec_MemNew.f k l0 a0_1 a1 = some (ws, ds, b)) (hH4 : impl_MemNew.f k l0 a0_1 a1 = some (ws, ds, b)) (hH5 : laws_eqMem.f k ws ds ws ds = some true) (hH6 : laws_eqRows.f k l0 a0_1 l0 a0_1 = some true) (hH7 : laws_markRows.f k l0 a0_1 1 = some (t1, l1)) (hH8 : laws_markMem.f k ws ds 1 = some (t2, ws2, ds2)) (hH9 : laws_heldMem.f k ws2 ds2 1 = some t2) (n0 : decide (t0 < 0) = false) (n1 : decide (t1 < 0) = false) (n2 : decide (t2 < 0) = false) :
    Calls Try.prog 8 #[.agg #[.slice A0 l0.length c0, .int .i64 a0_1], .int .i64 a1] w fun e w' => e = .returned (.bool true) ∧ Below w.heap.size w w' := by
  have hu58 := Try.underlying58
  have hu65 := Try.underlying65
  have hu88 := Try.underlying88
  have HR := Aside0.mk hr
  have HC := Aside0.mk hc
  clear hr hc
  have H1 := Aside0.mk hH1
  have H2 := Aside0.mk hH2
  have H3 := Aside0.mk hH3
  have H4 := Aside0.mk hH4
  have H5 := Aside0.mk hH5
  have H6 := Aside0.mk hH6
  have H7 := Aside0.mk hH7
  have H8 := Aside0.mk hH8
  have H9 := Aside0.mk hH9
  clear hH1 hH2 hH3 hH4 hH5 hH6 hH7 hH8 hH9
  have S := Aside0.mk (St.start w)
  go_enter Try.func8, Try.ntmps8
  go_wp2_with (first
      | ((with_reducible refine gate_dst (N := 2) rfl ?_)
         refine box_event ?hg (N := 2) ?hd (cs := #[.slice A0 l0.length c0, .int .i64 a0_1]) (t := 58) ?hr ?_
         (case hd => rfl)
         (case hg => rfl)
         (case hr => first | (go_simp; done) | (go_simp; rfl))
         intro g1 hg w2 hbox hb
         replace S := Aside0.mk (S.out.box hg hbox hb)
         clear hg hbox hb
         have kg1_0 : w2.cell? ⟨g1, 0, none⟩ = some (.slice A0 l0.length c0) := (blk_cell (S.out.blk 0 rfl) 0).trans rfl
         have kg1_1 : w2.cell? ⟨g1, 1, none⟩ = some (.int .i64 a0_1) := (blk_cell (S.out.blk 0 rfl) 1).trans rfl)
      | ((with_reducible refine gate_callee (f := 32) rfl ?_)
         (try clear kg1_0 kg1_1)
         refine goesL_ (some 18) rfl rfl Try.func32 (by kernel_rfl) rfl #[.agg #[.slice A0 l0.length c0, .int .i64 a0_1], .int .i64 1048576] rfl (by (try simp only [List.map_toArray, List.map_cons, List.map_nil]); first | done | rfl) ?_
         (with_reducible refine (laws_szRows.calls A0 c0 l0 a0_1 1048576 _ _ (Kd.C_below HR.out S.out.below) HC.out H1.out).mono ?_)
         rintro e w3 ⟨rfl, hb⟩
         refine ⟨_, rfl, ?_⟩
         replace S := Aside0.mk (S.out.moved hb)
         clear hb
         have kg1_0 : w3.cell? ⟨g1, 0, none⟩ = some (.slice A0 l0.length c0) := (blk_cell (S.out.blk 0 rfl) 0).trans rfl
         have kg1_1 : w3.cell? ⟨g1, 1, none⟩ = some (.int .i64 a0_1) := (blk_cell (S.out.blk 0 rfl) 1).trans rfl)
      | ((with_reducible refine gate_callee (f := 35) rfl ?_)
         (try clear kg1_0 kg1_1)
         refine goesL_ (some 23) rfl rfl Try.func35 (by kernel_rfl) rfl #[.agg #[.slice A0 l0.length c0, .int .i64 a0_1]] rfl (by (try simp only [List.map_toArray, List.map_cons, List.map_nil]); first | done | rfl) ?_
         (with_reducible refine (laws_toRows.calls k A0 c0 l0 a0_1 _ _ _ (Kd.C_below HR.out S.out.below) HC.out H2.out).mono ?_)
         rintro e w4 ⟨v5, rfl, h0, hb⟩
         obtain ⟨A6, c7, rfl⟩ := Kd.R_slice h0
         refine ⟨_, rfl, ?_⟩
         replace S := Aside0.mk (S.out.madeR h0 hb)
         clear hb h0
         have kg1_0 : w4.cell? ⟨g1, 0, none⟩ = some (.slice A0 l0.length c0) := (blk_cell (S.out.blk 1 rfl) 0).trans rfl
         have kg1_1 : w4.cell? ⟨g1, 1, none⟩ = some (.int .i64 a0_1) := (blk_cell (S.out.blk 1 rfl) 1).trans rfl)
      | ((with_reducible refine gate_callee (f := 56) rfl ?_)
         (try clear kg1_0 kg1_1)
         obtain ⟨e9, q10, c11⟩ := St.readR S.out 0 rfl
         refine goesL_ (some 25) rfl rfl Try.func56 (by kernel_rfl) rfl #[.agg #[.slice A6 l0.length c7, .int .i64 a0_1], .int .i64 a1] rfl (by (try simp only [List.map_toArray, List.map_cons, List.map_nil]); first | done | rfl) ?_
         (with_reducible refine (spec_MemNew.calls k A6 c7 l0 a0_1 a1 _ _ _ _ c11 q10 H3.out).mono ?_)
         rintro e w8 ⟨v12, v13, rfl, h0, h1, hb⟩
         obtain ⟨A14, c15, rfl⟩ := Kd.R_slice h0
         obtain ⟨A16, c17, rfl⟩ := Kd.S_slice h1
         refine ⟨_, rfl, ?_⟩
         replace S := Aside0.mk (S.out.madeM h0 h1 hb)
         clear hb h0 h1 e9 q10 c11
         have kg1_0 : w8.cell? ⟨g1, 0, none⟩ = some (.slice A0 l0.length c0) := (blk_cell (S.out.blk 2 rfl) 0).trans rfl
         have kg1_1 : w8.cell? ⟨g1, 1, none⟩ = some (.int .i64 a0_1) := (blk_cell (S.out.blk 2 rfl) 1).trans rfl)
      | ((with_reducible refine gate_dst (N := 6) rfl ?_)
         refine box_event ?hg (N := 6) ?hd (cs := #[.slice none 0 0, .slice none 0 0]) (t := 88) ?hr ?_
         (case hd => rfl)
         (case hg => rfl)
         (case hr => first | (go_simp; done) | (go_simp; rfl))
         (try clear kg1_0 kg1_1)
         intro g18 hg w19 hbox hb
         replace S := Aside0.mk (S.out.box hg hbox hb)
         clear hg hbox hb
         have kg18_0 : w19.cell? ⟨g18, 0, none⟩ = some (.slice none 0 0) := (blk_cell (S.out.blk 0 rfl) 0).trans rfl
         have kg18_1 : w19.cell? ⟨g18, 1, none⟩ = some (.slice none 0 0) := (blk_cell (S.out.blk 0 rfl) 1).trans rfl
         have kg1_0 : w19.cell? ⟨g1, 0, none⟩ = some (.slice A0 l0.length c0) := (blk_cell (S.out.blk 3 rfl) 0).trans rfl
         have kg1_1 : w19.cell? ⟨g1, 1, none⟩ = some (.int .i64 a0_1) := (blk_cell (S.out.blk 3 rfl) 1).trans rfl)
      | ((with_reducible refine gate_store (t := 88) (p := 6) rfl ?_)
         have zg18_0 := blk_frozen (S.out.blk 0 rfl) 0
         have zg18_1 := blk_frozen (S.out.blk 0 rfl) 1
         refine store_event (t := 88) (p := 6) (v := ?vo_w20) (w1 := ((w19.setCell ⟨g18, 0, none⟩ (.slice A14 ws.length c15)).setCell ⟨g18, 1, none⟩ (.slice A16 ds.length c17))) ?hg ?ho ?hn ?hr ?_
         (case ho => rfl)
         (case hg => rfl)
         (case hn => rfl)
         (case hr => first | (go_simp; done) | (go_simp; rfl))
         (try clear zg18_0 zg18_1)
         (try clear kg18_0 kg18_1 kg1_0 kg1_1)
         intro w20 hw
         replace S : Aside0 (St w w (fun _ => False) [hB g18 #[.slice A14 ws.length c15, .slice A16 ds.length c17] 88, hM w.heap.size (.slice A14 ws.length c15) (.slice A16 ds.length c17) ws ds, hR (Kd.int .i64) 3 w.heap.size (.slice A6 l0.length c7) l0, hB g1 #[.slice A0 l0.length c0, .int .i64 a0_1] 58] w20) := Aside0.mk (by rw [hw]; exact ((S.out.put 0 (.slice A14 ws.length c15) rfl).put 1 (.slice A16 ds.length c17) rfl))
         clear hw
         have kg18_0 : w20.cell? ⟨g18, 0, none⟩ = some (.slice A14 ws.length c15) := (blk_cell (S.out.blk 0 rfl) 0).trans rfl
         have kg18_1 : w20.cell? ⟨g18, 1, none⟩ = some (.slice A16 ds.length c17) := (blk_cell (S.out.blk 0 rfl) 1).trans rfl
         have kg1_0 : w20.cell? ⟨g1, 0, none⟩ = some (.slice A0 l0.length c0) := (blk_cell (S.out.blk 3 rfl) 0).trans rfl
         have kg1_1 : w20.cell? ⟨g1, 1, none⟩ = some (.int .i64 a0_1) := (blk_cell (S.out.blk 3 rfl) 1).trans rfl)
      | ((with_reducible refine gate_callee (f := 35) rfl ?_)
         (try clear kg18_0 kg18_1 kg1_0 kg1_1)
         refine goesL_ (some 29) rfl rfl Try.func35 (by kernel_rfl) rfl #[.agg #[.slice A0 l0.length c0, .int .i64 a0_1]] rfl (by (try simp only [List.map_toArray, List.map_cons, List.map_nil]); first | done | rfl) ?_
         (with_reducible refine (laws_toRows.calls k A0 c0 l0 a0_1 _ _ _ (Kd.C_below HR.out S.out.below) HC.out H2.out).mono ?_)
         rintro e w21 ⟨v22, rfl, h0, hb⟩
         obtain ⟨A23, c24, rfl⟩ := Kd.R_slice h0
         refine ⟨_, rfl, ?_⟩
         replace S := Aside0.mk (S.out.madeR h0 hb)
         clear hb h0
         have kg18_0 : w21.cell? ⟨g18, 0, none⟩ = some (.slice A14 ws.length c15) := (blk_cell (S.out.blk 1 rfl) 0).trans rfl
         have kg18_1 : w21.cell? ⟨g18, 1, none⟩ = some (.slice A16 ds.length c17) := (blk_cell (S.out.blk 1 rfl) 1).trans rfl
         have kg1_0 : w21.cell? ⟨g1, 0, none⟩ = some (.slice A0 l0.length c0) := (blk_cell (S.out.blk 4 rfl) 0).trans rfl
         have kg1_1 : w21.cell? ⟨g1, 1, none⟩ = some (.int .i64 a0_1) := (blk_cell (S.out.blk 4 rfl) 1).trans rfl)
      | ((with_reducible refine gate_dst (N := 8) rfl ?_)
         refine box_event ?hg (N := 8) ?hd (cs := #[.slice none 0 0, .int .i64 0]) (t := 65) ?hr ?_
         (case hd => rfl)
         (case hg => rfl)
         (case hr => first | (go_simp; done) | (go_simp; rfl))
         (try clear kg18_0 kg18_1 kg1_0 kg1_1)
         intro g25 hg w26 hbox hb
         replace S := Aside0.mk (S.out.box hg hbox hb)
         clear hg hbox hb
         have kg25_0 : w26.cell? ⟨g25, 0, none⟩ = some (.slice none 0 0) := (blk_cell (S.out.blk 0 rfl) 0).trans rfl
         have kg25_1 : w26.cell? ⟨g25, 1, none⟩ = some (.int .i64 0) := (blk_cell (S.out.blk 0 rfl) 1).trans rfl
         have kg18_0 : w26.cell? ⟨g18, 0, none⟩ = some (.slice A14 ws.length c15) := (blk_cell (S.out.blk 2 rfl) 0).trans rfl
         have kg18_1 : w26.cell? ⟨g18, 1, none⟩ = some (.slice A16 ds.length c17) := (blk_cell (S.out.blk 2 rfl) 1).trans rfl
         have kg1_0 : w26.cell? ⟨g1, 0, none⟩ = some (.slice A0 l0.length c0) := (blk_cell (S.out.blk 5 rfl) 0).trans rfl
         have kg1_1 : w26.cell? ⟨g1, 1, none⟩ = some (.int .i64 a0_1) := (blk_cell (S.out.blk 5 rfl) 1).trans rfl)
      | ((with_reducible refine gate_store (t := 65) (p := 8) rfl ?_)
         have zg25_0 := blk_frozen (S.out.blk 0 rfl) 0
         have zg25_1 := blk_frozen (S.out.blk 0 rfl) 1
         refine store_event (t := 65) (p := 8) (v := ?vo_w27) (w1 := ((w26.setCell ⟨g25, 0, none⟩ (.slice A23 l0.length c24)).setCell ⟨g25, 1, none⟩ (.int .i64 a0_1))) ?hg ?ho ?hn ?hr ?_
         (case ho => rfl)
         (case hg => rfl)
         (case hn => rfl)
         (case hr => first | (go_simp; done) | (go_simp; rfl))
         (try clear zg25_0 zg25_1)
         (try clear kg25_0 kg25_1 kg18_0 kg18_1 kg1_0 kg1_1)
         intro w27 hw
         replace S : Aside0 (St w w (fun _ => False) [hB g25 #[.slice A23 l0.length c24, .int .i64 a0_1] 65, hR (Kd.int .i64) 3 w.heap.size (.slice A23 l0.length c24) l0, hB g18 #[.slice A14 ws.length c15, .slice A16 ds.length c17] 88, hM w.heap.size (.slice A14 ws.length c15) (.slice A16 ds.length c17) ws ds, hR (Kd.int .i64) 3 w.heap.size (.slice A6 l0.length c7) l0, hB g1 #[.slice A0 l0.length c0, .int .i64 a0_1] 58] w27) := Aside0.mk (by rw [hw]; exact ((S.out.put 0 (.slice A23 l0.length c24) rfl).put 1 (.int .i64 a0_1) rfl))
         clear hw
         have kg25_0 : w27.cell? ⟨g25, 0, none⟩ = some (.slice A23 l0.length c24) := (blk_cell (S.out.blk 0 rfl) 0).trans rfl
         have kg25_1 : w27.cell? ⟨g25, 1, none⟩ = some (.int .i64 a0_1) := (blk_cell (S.out.blk 0 rfl) 1).trans rfl
         have kg18_0 : w27.cell? ⟨g18, 0, none⟩ = some (.slice A14 ws.length c15) := (blk_cell (S.out.blk 2 rfl) 0).trans rfl
         have kg18_1 : w27.cell? ⟨g18, 1, none⟩ = some (.slice A16 ds.length c17) := (blk_cell (S.out.blk 2 rfl) 1).trans rfl
         have kg1_0 : w27.cell? ⟨g1, 0, none⟩ = some (.slice A0 l0.length c0) := (blk_cell (S.out.blk 5 rfl) 0).trans rfl
         have kg1_1 : w27.cell? ⟨g1, 1, none⟩ = some (.int .i64 a0_1) := (blk_cell (S.out.blk 5 rfl) 1).trans rfl)
      | ((with_reducible refine gate_callee (f := 57) rfl ?_)
         (try clear kg25_0 kg25_1 kg18_0 kg18_1 kg1_0 kg1_1)
         obtain ⟨e29, q30, c31⟩ := St.readR S.out 1 rfl
         refine goesL_ (some 33) rfl rfl Try.func57 (by kernel_rfl) rfl #[.agg #[.slice A23 l0.length c24, .int .i64 a0_1], .int .i64 a1] rfl (by (try simp only [List.map_toArray, List.map_cons, List.map_nil]); first | done | rfl) ?_
         (with_reducible refine (impl_MemNew.calls k A23 c24 l0 a0_1 a1 _ _ _ _ c31 q30 H4.out).mono ?_)
         rintro e w28 ⟨v32, v33, rfl, h0, h1, hb⟩
         obtain ⟨A34, c35, rfl⟩ := Kd.R_slice h0
         obtain ⟨A36, c37, rfl⟩ := Kd.S_slice h1
         refine ⟨_, rfl, ?_⟩
         replace S := Aside0.mk (S.out.madeM h0 h1 hb)
         clear hb h0 h1 e29 q30 c31
         have kg25_0 : w28.cell? ⟨g25, 0, none⟩ = some (.slice A23 l0.length c24) := (blk_cell (S.out.blk 1 rfl) 0).trans rfl
         have kg25_1 : w28.cell? ⟨g25, 1, none⟩ = some (.int .i64 a0_1) := (blk_cell (S.out.blk 1 rfl) 1).trans rfl
         have kg18_0 : w28.cell? ⟨g18, 0, none⟩ = some (.slice A14 ws.length c15) := (blk_cell (S.out.blk 3 rfl) 0).trans rfl
         have kg18_1 : w28.cell? ⟨g18, 1, none⟩ = some (.slice A16 ds.length c17) := (blk_cell (S.out.blk 3 rfl) 1).trans rfl
         have kg1_0 : w28.cell? ⟨g1, 0, none⟩ = some (.slice A0 l0.length c0) := (blk_cell (S.out.blk 6 rfl) 0).trans rfl
         have kg1_1 : w28.cell? ⟨g1, 1, none⟩ = some (.int .i64 a0_1) := (blk_cell (S.out.blk 6 rfl) 1).trans rfl)
      | ((with_reducible refine gate_dst (N := 9) rfl ?_)
         refine box_event ?hg (N := 9) ?hd (cs := #[.slice none 0 0, .slice none 0 0]) (t := 88) ?hr ?_
         (case hd => rfl)
         (case hg => rfl)
         (case hr => first | (go_simp; done) | (go_simp; rfl))
         (try clear kg25_0 kg25_1 kg18_0 kg18_1 kg1_0 kg1_1)
         intro g38 hg w39 hbox hb
         replace S := Aside0.mk (S.out.box hg hbox hb)
         clear hg hbox hb
         have kg38_0 : w39.cell? ⟨g38, 0, none⟩ = some (.slice none 0 0) := (blk_cell (S.out.blk 0 rfl) 0).trans rfl
         have kg38_1 : w39.cell? ⟨g38, 1, none⟩ = some (.slice none 0 0) := (blk_cell (S.out.blk 0 rfl) 1).trans rfl
         have kg25_0 : w39.cell? ⟨g25, 0, none⟩ = some (.slice A23 l0.length c24) := (blk_cell (S.out.blk 2 rfl) 0).trans rfl
         have kg25_1 : w39.cell? ⟨g25, 1, none⟩ = some (.int .i64 a0_1) := (blk_cell (S.out.blk 2 rfl) 1).trans rfl
         have kg18_0 : w39.cell? ⟨g18, 0, none⟩ = some (.slice A14 ws.length c15) := (blk_cell (S.out.blk 4 rfl) 0).trans rfl
         have kg18_1 : w39.cell? ⟨g18, 1, none⟩ = some (.slice A16 ds.length c17) := (blk_cell (S.out.blk 4 rfl) 1).trans rfl
         have kg1_0 : w39.cell? ⟨g1, 0, none⟩ = some (.slice A0 l0.length c0) := (blk_cell (S.out.blk 7 rfl) 0).trans rfl
         have kg1_1 : w39.cell? ⟨g1, 1, none⟩ = some (.int .i64 a0_1) := (blk_cell (S.out.blk 7 rfl) 1).trans rfl)
      | ((with_reducible refine gate_store (t := 88) (p := 9) rfl ?_)
         have zg38_0 := blk_frozen (S.out.blk 0 rfl) 0
         have zg38_1 := blk_frozen (S.out.blk 0 rfl) 1
         refine store_event (t := 88) (p := 9) (v := ?vo_w40) (w1 := ((w39.setCell ⟨g38, 0, none⟩ (.slice A34 ws.length c35)).setCell ⟨g38, 1, none⟩ (.slice A36 ds.length c37))) ?hg ?ho ?hn ?hr ?_
         (case ho => rfl)
         (case hg => rfl)
         (case hn => rfl)
         (case hr => first | (go_simp; done) | (go_simp; rfl))
         (try clear zg38_0 zg38_1)
         (try clear kg38_0 kg38_1 kg25_0 kg25_1 kg18_0 kg18_1 kg1_0 kg1_1)
         intro w40 hw
         replace S : Aside0 (St w w (fun _ => False) [hB g38 #[.slice A34 ws.length c35, .slice A36 ds.length c37] 88, hM w.heap.size (.slice A34 ws.length c35) (.slice A36 ds.length c37) ws ds, hB g25 #[.slice A23 l0.length c24, .int .i64 a0_1] 65, hR (Kd.int .i64) 3 w.heap.size (.slice A23 l0.length c24) l0, hB g18 #[.slice A14 ws.length c15, .slice A16 ds.length c17] 88, hM w.heap.size (.slice A14 ws.length c15) (.slice A16 ds.length c17) ws ds, hR (Kd.int .i64) 3 w.heap.size (.slice A6 l0.length c7) l0, hB g1 #[.slice A0 l0.length c0, .int .i64 a0_1] 58] w40) := Aside0.mk (by rw [hw]; exact ((S.out.put 0 (.slice A34 ws.length c35) rfl).put 1 (.slice A36 ds.length c37) rfl))
         clear hw
         have kg38_0 : w40.cell? ⟨g38, 0, none⟩ = some (.slice A34 ws.length c35) := (blk_cell (S.out.blk 0 rfl) 0).trans rfl
         have kg38_1 : w40.cell? ⟨g38, 1, none⟩ = some (.slice A36 ds.length c37) := (blk_cell (S.out.blk 0 rfl) 1).trans rfl
         have kg25_0 : w40.cell? ⟨g25, 0, none⟩ = some (.slice A23 l0.length c24) := (blk_cell (S.out.blk 2 rfl) 0).trans rfl
         have kg25_1 : w40.cell? ⟨g25, 1, none⟩ = some (.int .i64 a0_1) := (blk_cell (S.out.blk 2 rfl) 1).trans rfl
         have kg18_0 : w40.cell? ⟨g18, 0, none⟩ = some (.slice A14 ws.length c15) := (blk_cell (S.out.blk 4 rfl) 0).trans rfl
         have kg18_1 : w40.cell? ⟨g18, 1, none⟩ = some (.slice A16 ds.length c17) := (blk_cell (S.out.blk 4 rfl) 1).trans rfl
         have kg1_0 : w40.cell? ⟨g1, 0, none⟩ = some (.slice A0 l0.length c0) := (blk_cell (S.out.blk 7 rfl) 0).trans rfl
         have kg1_1 : w40.cell? ⟨g1, 1, none⟩ = some (.int .i64 a0_1) := (blk_cell (S.out.blk 7 rfl) 1).trans rfl)
      | ((with_reducible refine gate_callee (f := 58) rfl ?_)
         (try clear kg38_0 kg38_1 kg25_0 kg25_1 kg18_0 kg18_1 kg1_0 kg1_1)
         obtain ⟨e42, q43, c44⟩ := St.readM0 S.out 1 rfl
         obtain ⟨e45, q46, c47⟩ := St.readM1 S.out 1 rfl
         obtain ⟨e48, q49, c50⟩ := St.readM0 S.out 5 rfl
         obtain ⟨e51, q52, c53⟩ := St.readM1 S.out 5 rfl
         refine goesL_ (some 38) rfl rfl Try.func58 (by kernel_rfl) rfl #[.agg #[.slice A34 ws.length c35, .slice A36 ds.length c37], .agg #[.slice A14 ws.length c15, .slice A16 ds.length c17]] rfl (by (try simp only [List.map_toArray, List.map_cons, List.map_nil]); first | done | rfl) ?_
         (with_reducible refine (laws_eqMem.calls k A34 c35 ws A36 c37 ds A14 c15 ws A16 c17 ds _ _ c44 q43 c47 q46 c50 q49 c53 q52 H5.out).mono ?_)
         rintro e w41 ⟨rfl, hb⟩
         refine ⟨_, rfl, ?_⟩
         replace S := Aside0.mk (S.out.moved hb)
         clear hb e42 q43 c44 e45 q46 c47 e48 q49 c50 e51 q52 c53
         have kg38_0 : w41.cell? ⟨g38, 0, none⟩ = some (.slice A34 ws.length c35) := (blk_cell (S.out.blk 0 rfl) 0).trans rfl
         have kg38_1 : w41.cell? ⟨g38, 1, none⟩ = some (.slice A36 ds.length c37) := (blk_cell (S.out.blk 0 rfl) 1).trans rfl
         have kg25_0 : w41.cell? ⟨g25, 0, none⟩ = some (.slice A23 l0.length c24) := (blk_cell (S.out.blk 2 rfl) 0).trans rfl
         have kg25_1 : w41.cell? ⟨g25, 1, none⟩ = some (.int .i64 a0_1) := (blk_cell (S.out.blk 2 rfl) 1).trans rfl
         have kg18_0 : w41.cell? ⟨g18, 0, none⟩ = some (.slice A14 ws.length c15) := (blk_cell (S.out.blk 4 rfl) 0).trans rfl
         have kg18_1 : w41.cell? ⟨g18, 1, none⟩ = some (.slice A16 ds.length c17) := (blk_cell (S.out.blk 4 rfl) 1).trans rfl
         have kg1_0 : w41.cell? ⟨g1, 0, none⟩ = some (.slice A0 l0.length c0) := (blk_cell (S.out.blk 7 rfl) 0).trans rfl
         have kg1_1 : w41.cell? ⟨g1, 1, none⟩ = some (.int .i64 a0_1) := (blk_cell (S.out.blk 7 rfl) 1).trans rfl))
  refine start_ (n := 5) (S := fun w' => St w w (fun _ => False) [hB g38 #[.slice A34 ws.length c35, .slice A36 ds.length c37] 88, hM w.heap.size (.slice A34 ws.length c35) (.slice A36 ds.length c37) ws ds, hB g25 #[.slice A23 l0.length c24, .int .i64 a0_1] 65, hR (Kd.int .i64) 3 w.heap.size (.slice A23 l0.length c24) l0, hB g18 #[.slice A14 ws.length c15, .slice A16 ds.length c17] 88, hM w.heap.size (.slice A14 ws.length c15) (.slice A16 ds.length c17) ws ds, hR (Kd.int .i64) 3 w.heap.size (.slice A6 l0.length c7) l0, hB g1 #[.slice A0 l0.length c0, .int .i64 a0_1] 58] w') (ds := []) #[false, false, false, false, false] (by kernel_rfl) rfl rfl (St.drew (S.out)) (fun hS_ => ?_)
  (try clear kg38_0 kg38_1 kg25_0 kg25_1 kg18_0 kg18_1 kg1_0 kg1_1)
  replace S := Aside0.mk S.out.drew
  clear hS_
  generalize w41.drew = w54 at S ⊢
  refine take_ (i := 0) (N := some 45) (v := .agg #[.slice A23 l0.length c24, .int .i64 a0_1]) (a' := ?at55) #[true, false, false, false, false] rfl rfl (by kernel_rfl) (fun _ _ _ h => h) (Or.inl ⟨by rfl, ?yt55⟩) (S.out) ?pt55 ?nt55
  case yt55 =>
    intro w' hS
    have kg25_0 : w'.cell? ⟨g25, 0, none⟩ = some (.slice A23 l0.length c24) := (blk_cell (hS.blk 2 rfl) 0).trans rfl
    have kg25_1 : w'.cell? ⟨g25, 1, none⟩ = some (.int .i64 a0_1) := (blk_cell (hS.blk 2 rfl) 1).trans rfl
    first | (go_simp; done) | (go_simp; rfl)
  case pt55 =>
    simp only [Act.put, List.setIfInBounds_toArray, List.set_cons_zero, List.set_cons_succ, i64_w, i32_w]
    rfl
  refine take_ (i := 1) (N := some 46) (v := .agg #[.slice A0 l0.length c0, .int .i64 a0_1]) (a' := ?at56) #[true, true, false, false, false] rfl rfl (by kernel_rfl) (fun _ _ _ h => h) (Or.inl ⟨by rfl, ?yt56⟩) (S.out) ?pt56 ?nt56
  case yt56 =>
    intro w' hS
    have kg1_0 : w'.cell? ⟨g1, 0, none⟩ = some (.slice A0 l0.length c0) := (blk_cell (hS.blk 7 rfl) 0).trans rfl
    have kg1_1 : w'.cell? ⟨g1, 1, none⟩ = some (.int .i64 a0_1) := (blk_cell (hS.blk 7 rfl) 1).trans rfl
    first | (go_simp; done) | (go_simp; rfl)
  case pt56 =>
    simp only [Act.put, List.setIfInBounds_toArray, List.set_cons_zero, List.set_cons_succ, i64_w, i32_w]
    rfl
  refine one_ (i := 2) (N := some 47) #[true, true, true, false, false] rfl rfl (by kernel_rfl) (by decide) (fun K hK => ?_)
  (try clear kg38_0 kg38_1 kg25_0 kg25_1 kg18_0 kg18_1 kg1_0 kg1_1)
  refine goes_ Try.func35 (by kernel_rfl) rfl #[.agg #[.slice A0 l0.length c0, .int .i64 a0_1]] (by rfl) rfl rfl (by (try simp only [List.map_toArray, List.map_cons, List.map_nil]); first | done | rfl) ?_
  (with_reducible refine (laws_toRows.calls k A0 c0 l0 a0_1 _ _ _ (Kd.C_below HR.out S.out.below) HC.out H2.out).mono ?_)
  rintro e w57 ⟨v58, rfl, h0, hb⟩
  obtain ⟨A59, c60, rfl⟩ := Kd.R_slice h0
  refine ⟨_, rfl, ?_⟩
  replace S := Aside0.mk (S.out.madeR h0 hb)
  clear hb h0
  have kg38_0 : w57.cell? ⟨g38, 0, none⟩ = some (.slice A34 ws.length c35) := (blk_cell (S.out.blk 1 rfl) 0).trans rfl
  have kg38_1 : w57.cell? ⟨g38, 1, none⟩ = some (.slice A36 ds.length c37) := (blk_cell (S.out.blk 1 rfl) 1).trans rfl
  have kg25_0 : w57.cell? ⟨g25, 0, none⟩ = some (.slice A23 l0.length c24) := (blk_cell (S.out.blk 3 rfl) 0).trans rfl
  have kg25_1 : w57.cell? ⟨g25, 1, none⟩ = some (.int .i64 a0_1) := (blk_cell (S.out.blk 3 rfl) 1).trans rfl
  have kg18_0 : w57.cell? ⟨g18, 0, none⟩ = some (.slice A14 ws.length c15) := (blk_cell (S.out.blk 5 rfl) 0).trans rfl
  have kg18_1 : w57.cell? ⟨g18, 1, none⟩ = some (.slice A16 ds.length c17) := (blk_cell (S.out.blk 5 rfl) 1).trans rfl
  have kg1_0 : w57.cell? ⟨g1, 0, none⟩ = some (.slice A0 l0.length c0) := (blk_cell (S.out.blk 8 rfl) 0).trans rfl
  have kg1_1 : w57.cell? ⟨g1, 1, none⟩ = some (.int .i64 a0_1) := (blk_cell (S.out.blk 8 rfl) 1).trans rfl
  (try clear kg38_0 kg38_1 kg25_0 kg25_1 kg18_0 kg18_1 kg1_0 kg1_1)
  refine hK _ _ (S.out.drop) (fun _ => ?_)
  refine norm_ (a' := ?at61) ?pt61 ?nt61
  case pt61 =>
    show Act.put _ (some 47) _ = _
    simp only [Act.put, List.setIfInBounds_toArray, List.set_cons_zero, List.set_cons_succ, i64_w, i32_w]
    rfl
  refine one_ (i := 3) (N := some 48) #[true, true, true, true, false] rfl rfl (by kernel_rfl) (by decide) (fun K hK => ?_)
  (try clear kg38_0 kg38_1 kg25_0 kg25_1 kg18_0 kg18_1 kg1_0 kg1_1)
  obtain ⟨e63, q64, c65⟩ := St.readR S.out 4 rfl
  obtain ⟨e66, q67, c68⟩ := St.readR S.out 0 rfl
  refine goes_ Try.func39 (by kernel_rfl) rfl #[.agg #[.slice A23 l0.length c24, .int .i64 a0_1], .agg #[.slice A59 l0.length c60, .int .i64 a0_1]] (by rfl) rfl rfl (by (try simp only [List.map_toArray, List.map_cons, List.map_nil]); first | done | rfl) ?_
  (with_reducible refine (laws_eqRows.calls k A23 c24 l0 a0_1 A59 c60 l0 a0_1 _ _ c65 q64 c68 q67 H6.out).mono ?_)
  rintro e w62 ⟨rfl, hb⟩
  refine ⟨_, rfl, ?_⟩
  replace S := Aside0.mk (S.out.moved hb)
  clear hb e63 q64 c65 e66 q67 c68
  have kg38_0 : w62.cell? ⟨g38, 0, none⟩ = some (.slice A34 ws.length c35) := (blk_cell (S.out.blk 1 rfl) 0).trans rfl
  have kg38_1 : w62.cell? ⟨g38, 1, none⟩ = some (.slice A36 ds.length c37) := (blk_cell (S.out.blk 1 rfl) 1).trans rfl
  have kg25_0 : w62.cell? ⟨g25, 0, none⟩ = some (.slice A23 l0.length c24) := (blk_cell (S.out.blk 3 rfl) 0).trans rfl
  have kg25_1 : w62.cell? ⟨g25, 1, none⟩ = some (.int .i64 a0_1) := (blk_cell (S.out.blk 3 rfl) 1).trans rfl
  have kg18_0 : w62.cell? ⟨g18, 0, none⟩ = some (.slice A14 ws.length c15) := (blk_cell (S.out.blk 5 rfl) 0).trans rfl
  have kg18_1 : w62.cell? ⟨g18, 1, none⟩ = some (.slice A16 ds.length c17) := (blk_cell (S.out.blk 5 rfl) 1).trans rfl
  have kg1_0 : w62.cell? ⟨g1, 0, none⟩ = some (.slice A0 l0.length c0) := (blk_cell (S.out.blk 8 rfl) 0).trans rfl
  have kg1_1 : w62.cell? ⟨g1, 1, none⟩ = some (.int .i64 a0_1) := (blk_cell (S.out.blk 8 rfl) 1).trans rfl
  (try clear kg38_0 kg38_1 kg25_0 kg25_1 kg18_0 kg18_1 kg1_0 kg1_1)
  refine hK _ _ (S.out.drop) (fun _ => ?_)
  refine norm_ (a' := ?at69) ?pt69 ?nt69
  case pt69 =>
    show Act.put _ (some 48) _ = _
    simp only [Act.put, List.setIfInBounds_toArray, List.set_cons_zero, List.set_cons_succ, i64_w, i32_w]
    rfl
  refine take_ (i := 4) (N := some 49) (v := .bool false) (a' := ?at70) #[true, true, true, true, true] rfl rfl (by kernel_rfl) (fun _ _ _ h => h) (Or.inl ⟨by rfl, ?yt70⟩) (S.out.drop) ?pt70 ?nt70
  case yt70 =>
    intro w' hS
    first | (go_simp; done) | (go_simp; rfl)
  case pt70 =>
    simp only [Act.put, List.setIfInBounds_toArray, List.set_cons_zero, List.set_cons_succ, i64_w, i32_w]
    rfl
  refine done_ (by kernel_rfl) ?_
  have kg38_0 : w62.cell? ⟨g38, 0, none⟩ = some (.slice A34 ws.length c35) := (blk_cell (S.out.blk 1 rfl) 0).trans rfl
  have kg38_1 : w62.cell? ⟨g38, 1, none⟩ = some (.slice A36 ds.length c37) := (blk_cell (S.out.blk 1 rfl) 1).trans rfl
  have kg25_0 : w62.cell? ⟨g25, 0, none⟩ = some (.slice A23 l0.length c24) := (blk_cell (S.out.blk 3 rfl) 0).trans rfl
  have kg25_1 : w62.cell? ⟨g25, 1, none⟩ = some (.int .i64 a0_1) := (blk_cell (S.out.blk 3 rfl) 1).trans rfl
  have kg18_0 : w62.cell? ⟨g18, 0, none⟩ = some (.slice A14 ws.length c15) := (blk_cell (S.out.blk 5 rfl) 0).trans rfl
  have kg18_1 : w62.cell? ⟨g18, 1, none⟩ = some (.slice A16 ds.length c17) := (blk_cell (S.out.blk 5 rfl) 1).trans rfl
  have kg1_0 : w62.cell? ⟨g1, 0, none⟩ = some (.slice A0 l0.length c0) := (blk_cell (S.out.blk 8 rfl) 0).trans rfl
  have kg1_1 : w62.cell? ⟨g1, 1, none⟩ = some (.int .i64 a0_1) := (blk_cell (S.out.blk 8 rfl) 1).trans rfl
  go_wp2_with (first
      | ((with_reducible refine gate_callee (f := 41) rfl ?_)
         (try clear kg38_0 kg38_1 kg25_0 kg25_1 kg18_0 kg18_1 kg1_0 kg1_1)
         replace S := Aside0.mk (show St w w (fun _ => False) [hR (Kd.int .i64) 3 w.heap.size (.slice A23 l0.length c24) l0, hR (Kd.int .i64) 3 w.heap.size (.slice A59 l0.length c60) l0, hB g38 #[.slice A34 ws.length c35, .slice A36 ds.length c37] 88, hM w.heap.size (.slice A34 ws.length c35) (.slice A36 ds.length c37) ws ds, hB g25 #[.slice A23 l0.length c24, .int .i64 a0_1] 65, hB g18 #[.slice A14 ws.length c15, .slice A16 ds.length c17] 88, hM w.heap.size (.slice A14 ws.length c15) (.slice A16 ds.length c17) ws ds, hR (Kd.int .i64) 3 w.heap.size (.slice A6 l0.length c7) l0, hB g1 #[.slice A0 l0.length c0, .int .i64 a0_1] 58] _ from S.out.bring 4 rfl)
         obtain ⟨D, hD, hDb, hS⟩ := S.out.own
         refine goesL_ (some 52) rfl rfl Try.func41 (by kernel_rfl) rfl #[.agg #[.slice A23 l0.length c24, .int .i64 a0_1], .int .i64 1] rfl (by (try simp only [List.map_toArray, List.map_cons, List.map_nil]); first | done | rfl) ?_
         (with_reducible refine (laws_markRows.calls k _ (.slice A23 l0.length c24) _ a0_1 1 _ _ w _ S.out.below (hR_out hD) H7.out).mono ?_)
         rintro e w71 ⟨rfl, h1, hb, hk⟩
         refine ⟨_, rfl, ?_⟩
         replace S := Aside0.mk (hS w71 (hR (Kd.int .i64) 3 w.heap.size (.slice A23 l0.length c24) l1) (cl_R _ _ _ _ _) hb hk h1)
         clear hS hD hDb h1 hb hk
         have kg38_0 : w71.cell? ⟨g38, 0, none⟩ = some (.slice A34 ws.length c35) := (blk_cell (S.out.blk 2 rfl) 0).trans rfl
         have kg38_1 : w71.cell? ⟨g38, 1, none⟩ = some (.slice A36 ds.length c37) := (blk_cell (S.out.blk 2 rfl) 1).trans rfl
         have kg25_0 : w71.cell? ⟨g25, 0, none⟩ = some (.slice A23 l0.length c24) := (blk_cell (S.out.blk 4 rfl) 0).trans rfl
         have kg25_1 : w71.cell? ⟨g25, 1, none⟩ = some (.int .i64 a0_1) := (blk_cell (S.out.blk 4 rfl) 1).trans rfl
         have kg18_0 : w71.cell? ⟨g18, 0, none⟩ = some (.slice A14 ws.length c15) := (blk_cell (S.out.blk 5 rfl) 0).trans rfl
         have kg18_1 : w71.cell? ⟨g18, 1, none⟩ = some (.slice A16 ds.length c17) := (blk_cell (S.out.blk 5 rfl) 1).trans rfl
         have kg1_0 : w71.cell? ⟨g1, 0, none⟩ = some (.slice A0 l0.length c0) := (blk_cell (S.out.blk 8 rfl) 0).trans rfl
         have kg1_1 : w71.cell? ⟨g1, 1, none⟩ = some (.int .i64 a0_1) := (blk_cell (S.out.blk 8 rfl) 1).trans rfl)
      | (go_at_call 58
         (try clear kg38_0 kg38_1 kg25_0 kg25_1 kg18_0 kg18_1 kg1_0 kg1_1)
         obtain ⟨e73, q74, c75⟩ := St.readM0 S.out 3 rfl
         obtain ⟨e76, q77, c78⟩ := St.readM1 S.out 3 rfl
         obtain ⟨e79, q80, c81⟩ := St.readM0 S.out 6 rfl
         obtain ⟨e82, q83, c84⟩ := St.readM1 S.out 6 rfl
         (with_reducible refine (laws_eqMem.calls k A34 c35 ws A36 c37 ds A14 c15 ws A16 c17 ds _ _ c75 q74 c78 q77 c81 q80 c84 q83 H5.out).mono ?_)
         rintro e w72 ⟨rfl, hb⟩
         replace S := Aside0.mk (S.out.moved hb)
         clear hb e73 q74 c75 e76 q77 c78 e79 q80 c81 e82 q83 c84
         have kg38_0 : w72.cell? ⟨g38, 0, none⟩ = some (.slice A34 ws.length c35) := (blk_cell (S.out.blk 2 rfl) 0).trans rfl
         have kg38_1 : w72.cell? ⟨g38, 1, none⟩ = some (.slice A36 ds.length c37) := (blk_cell (S.out.blk 2 rfl) 1).trans rfl
         have kg25_0 : w72.cell? ⟨g25, 0, none⟩ = some (.slice A23 l0.length c24) := (blk_cell (S.out.blk 4 rfl) 0).trans rfl
         have kg25_1 : w72.cell? ⟨g25, 1, none⟩ = some (.int .i64 a0_1) := (blk_cell (S.out.blk 4 rfl) 1).trans rfl
         have kg18_0 : w72.cell? ⟨g18, 0, none⟩ = some (.slice A14 ws.length c15) := (blk_cell (S.out.blk 5 rfl) 0).trans rfl
         have kg18_1 : w72.cell? ⟨g18, 1, none⟩ = some (.slice A16 ds.length c17) := (blk_cell (S.out.blk 5 rfl) 1).trans rfl
         have kg1_0 : w72.cell? ⟨g1, 0, none⟩ = some (.slice A0 l0.length c0) := (blk_cell (S.out.blk 8 rfl) 0).trans rfl
         have kg1_1 : w72.cell? ⟨g1, 1, none⟩ = some (.int .i64 a0_1) := (blk_cell (S.out.blk 8 rfl) 1).trans rfl)
      | ((with_reducible refine gate_callee (f := 59) rfl ?_)
         (try clear kg38_0 kg38_1 kg25_0 kg25_1 kg18_0 kg18_1 kg1_0 kg1_1)
         replace S := Aside0.mk (show St w w (fun _ => False) [hM w.heap.size (.slice A34 ws.length c35) (.slice A36 ds.length c37) ws ds, hR (Kd.int .i64) 3 w.heap.size (.slice A23 l0.length c24) l1, hR (Kd.int .i64) 3 w.heap.size (.slice A59 l0.length c60) l0, hB g38 #[.slice A34 ws.length c35, .slice A36 ds.length c37] 88, hB g25 #[.slice A23 l0.length c24, .int .i64 a0_1] 65, hB g18 #[.slice A14 ws.length c15, .slice A16 ds.length c17] 88, hM w.heap.size (.slice A14 ws.length c15) (.slice A16 ds.length c17) ws ds, hR (Kd.int .i64) 3 w.heap.size (.slice A6 l0.length c7) l0, hB g1 #[.slice A0 l0.length c0, .int .i64 a0_1] 58] _ from S.out.bring 3 rfl)
         obtain ⟨D, hD, hDb, hS⟩ := S.out.own
         refine goesL_ (some 68) rfl rfl Try.func59 (by kernel_rfl) rfl #[.agg #[.slice A34 ws.length c35, .slice A36 ds.length c37], .int .i64 1] rfl (by (try simp only [List.map_toArray, List.map_cons, List.map_nil]); first | done | rfl) ?_
         (with_reducible refine (laws_markMem.calls k _ (.slice A34 ws.length c35) (.slice A36 ds.length c37) _ _ 1 _ _ _ w _ S.out.below hD H8.out).mono ?_)
         rintro e w85 ⟨rfl, h1, hb, hk⟩
         refine ⟨_, rfl, ?_⟩
         replace S := Aside0.mk (hS w85 (hM w.heap.size (.slice A34 ws.length c35) (.slice A36 ds.length c37) ws2 ds2) (cl_M _ _ _ _ _) hb hk h1)
         clear hS hD hDb h1 hb hk
         have kg38_0 : w85.cell? ⟨g38, 0, none⟩ = some (.slice A34 ws.length c35) := (blk_cell (S.out.blk 3 rfl) 0).trans rfl
         have kg38_1 : w85.cell? ⟨g38, 1, none⟩ = some (.slice A36 ds.length c37) := (blk_cell (S.out.blk 3 rfl) 1).trans rfl
         have kg25_0 : w85.cell? ⟨g25, 0, none⟩ = some (.slice A23 l0.length c24) := (blk_cell (S.out.blk 4 rfl) 0).trans rfl
         have kg25_1 : w85.cell? ⟨g25, 1, none⟩ = some (.int .i64 a0_1) := (blk_cell (S.out.blk 4 rfl) 1).trans rfl
         have kg18_0 : w85.cell? ⟨g18, 0, none⟩ = some (.slice A14 ws.length c15) := (blk_cell (S.out.blk 5 rfl) 0).trans rfl
         have kg18_1 : w85.cell? ⟨g18, 1, none⟩ = some (.slice A16 ds.length c17) := (blk_cell (S.out.blk 5 rfl) 1).trans rfl
         have kg1_0 : w85.cell? ⟨g1, 0, none⟩ = some (.slice A0 l0.length c0) := (blk_cell (S.out.blk 8 rfl) 0).trans rfl
         have kg1_1 : w85.cell? ⟨g1, 1, none⟩ = some (.int .i64 a0_1) := (blk_cell (S.out.blk 8 rfl) 1).trans rfl)
      | ((with_reducible refine gate_callee (f := 60) rfl ?_)
         (try clear kg38_0 kg38_1 kg25_0 kg25_1 kg18_0 kg18_1 kg1_0 kg1_1)
         obtain ⟨e87, q88, c89⟩ := St.readM0 S.out 0 rfl
         obtain ⟨e90, q91, c92⟩ := St.readM1 S.out 0 rfl
         refine goesL_ (some 71) rfl rfl Try.func60 (by kernel_rfl) rfl #[.agg #[.slice A34 ws.length c35, .slice A36 ds.length c37], .int .i64 1] rfl (by (try simp only [List.map_toArray, List.map_cons, List.map_nil]); first | done | rfl) ?_
         refine calls_of_args (args' := #[.agg #[.slice A34 ws2.length c35, .slice A36 ds2.length c37], .int .i64 1]) (by rw [e87, e90]) ?_
         (with_reducible refine (laws_heldMem.calls k A34 c35 ws2 A36 c37 ds2 1 _ _ c89 q88 c92 q91 H9.out).mono ?_)
         rintro e w86 ⟨rfl, hb⟩
         refine ⟨_, rfl, ?_⟩
         replace S := Aside0.mk (S.out.moved hb)
         clear hb e87 q88 c89 e90 q91 c92
         have kg38_0 : w86.cell? ⟨g38, 0, none⟩ = some (.slice A34 ws.length c35) := (blk_cell (S.out.blk 3 rfl) 0).trans rfl
         have kg38_1 : w86.cell? ⟨g38, 1, none⟩ = some (.slice A36 ds.length c37) := (blk_cell (S.out.blk 3 rfl) 1).trans rfl
         have kg25_0 : w86.cell? ⟨g25, 0, none⟩ = some (.slice A23 l0.length c24) := (blk_cell (S.out.blk 4 rfl) 0).trans rfl
         have kg25_1 : w86.cell? ⟨g25, 1, none⟩ = some (.int .i64 a0_1) := (blk_cell (S.out.blk 4 rfl) 1).trans rfl
         have kg18_0 : w86.cell? ⟨g18, 0, none⟩ = some (.slice A14 ws.length c15) := (blk_cell (S.out.blk 5 rfl) 0).trans rfl
         have kg18_1 : w86.cell? ⟨g18, 1, none⟩ = some (.slice A16 ds.length c17) := (blk_cell (S.out.blk 5 rfl) 1).trans rfl
         have kg1_0 : w86.cell? ⟨g1, 0, none⟩ = some (.slice A0 l0.length c0) := (blk_cell (S.out.blk 8 rfl) 0).trans rfl
         have kg1_1 : w86.cell? ⟨g1, 1, none⟩ = some (.int .i64 a0_1) := (blk_cell (S.out.blk 8 rfl) 1).trans rfl)
      | ((with_reducible refine gate_callee (f := 35) rfl ?_)
         (try clear kg38_0 kg38_1 kg25_0 kg25_1 kg18_0 kg18_1 kg1_0 kg1_1)
         refine goesL_ (some 79) rfl rfl Try.func35 (by kernel_rfl) rfl #[.agg #[.slice A0 l0.length c0, .int .i64 a0_1]] rfl (by (try simp only [List.map_toArray, List.map_cons, List.map_nil]); first | done | rfl) ?_
         (with_reducible refine (laws_toRows.calls k A0 c0 l0 a0_1 _ _ _ (Kd.C_below HR.out S.out.below) HC.out H2.out).mono ?_)
         rintro e w93 ⟨v94, rfl, h0, hb⟩
         obtain ⟨A95, c96, rfl⟩ := Kd.R_slice h0
         refine ⟨_, rfl, ?_⟩
         replace S := Aside0.mk (S.out.madeR h0 hb)
         clear hb h0
         have kg38_0 : w93.cell? ⟨g38, 0, none⟩ = some (.slice A34 ws.length c35) := (blk_cell (S.out.blk 4 rfl) 0).trans rfl
         have kg38_1 : w93.cell? ⟨g38, 1, none⟩ = some (.slice A36 ds.length c37) := (blk_cell (S.out.blk 4 rfl) 1).trans rfl
         have kg25_0 : w93.cell? ⟨g25, 0, none⟩ = some (.slice A23 l0.length c24) := (blk_cell (S.out.blk 5 rfl) 0).trans rfl
         have kg25_1 : w93.cell? ⟨g25, 1, none⟩ = some (.int .i64 a0_1) := (blk_cell (S.out.blk 5 rfl) 1).trans rfl
         have kg18_0 : w93.cell? ⟨g18, 0, none⟩ = some (.slice A14 ws.length c15) := (blk_cell (S.out.blk 6 rfl) 0).trans rfl
         have kg18_1 : w93.cell? ⟨g18, 1, none⟩ = some (.slice A16 ds.length c17) := (blk_cell (S.out.blk 6 rfl) 1).trans rfl
         have kg1_0 : w93.cell? ⟨g1, 0, none⟩ = some (.slice A0 l0.length c0) := (blk_cell (S.out.blk 9 rfl) 0).trans rfl
         have kg1_1 : w93.cell? ⟨g1, 1, none⟩ = some (.int .i64 a0_1) := (blk_cell (S.out.blk 9 rfl) 1).trans rfl)
      | ((with_reducible refine gate_callee (f := 57) rfl ?_)
         (try clear kg38_0 kg38_1 kg25_0 kg25_1 kg18_0 kg18_1 kg1_0 kg1_1)
         obtain ⟨e98, q99, c100⟩ := St.readR S.out 0 rfl
         refine goesL_ (some 81) rfl rfl Try.func57 (by kernel_rfl) rfl #[.agg #[.slice A95 l0.length c96, .int .i64 a0_1], .int .i64 a1] rfl (by (try simp only [List.map_toArray, List.map_cons, List.map_nil]); first | done | rfl) ?_
         (with_reducible refine (impl_MemNew.calls k A95 c96 l0 a0_1 a1 _ _ _ _ c100 q99 H4.out).mono ?_)
         rintro e w97 ⟨v101, v102, rfl, h0, h1, hb⟩
         obtain ⟨A103, c104, rfl⟩ := Kd.R_slice h0
         obtain ⟨A105, c106, rfl⟩ := Kd.S_slice h1
         refine ⟨_, rfl, ?_⟩
         replace S := Aside0.mk (S.out.madeM h0 h1 hb)
         clear hb h0 h1 e98 q99 c100
         have kg38_0 : w97.cell? ⟨g38, 0, none⟩ = some (.slice A34 ws.length c35) := (blk_cell (S.out.blk 5 rfl) 0).trans rfl
         have kg38_1 : w97.cell? ⟨g38, 1, none⟩ = some (.slice A36 ds.length c37) := (blk_cell (S.out.blk 5 rfl) 1).trans rfl
         have kg25_0 : w97.cell? ⟨g25, 0, none⟩ = some (.slice A23 l0.length c24) := (blk_cell (S.out.blk 6 rfl) 0).trans rfl
         have kg25_1 : w97.cell? ⟨g25, 1, none⟩ = some (.int .i64 a0_1) := (blk_cell (S.out.blk 6 rfl) 1).trans rfl
         have kg18_0 : w97.cell? ⟨g18, 0, none⟩ = some (.slice A14 ws.length c15) := (blk_cell (S.out.blk 7 rfl) 0).trans rfl
         have kg18_1 : w97.cell? ⟨g18, 1, none⟩ = some (.slice A16 ds.length c17) := (blk_cell (S.out.blk 7 rfl) 1).trans rfl
         have kg1_0 : w97.cell? ⟨g1, 0, none⟩ = some (.slice A0 l0.length c0) := (blk_cell (S.out.blk 10 rfl) 0).trans rfl
         have kg1_1 : w97.cell? ⟨g1, 1, none⟩ = some (.int .i64 a0_1) := (blk_cell (S.out.blk 10 rfl) 1).trans rfl)
      | ((with_reducible refine gate_dst (N := 14) rfl ?_)
         refine box_event ?hg (N := 14) ?hd (cs := #[.slice none 0 0, .slice none 0 0]) (t := 88) ?hr ?_
         (case hd => rfl)
         (case hg => rfl)
         (case hr => first | (go_simp; done) | (go_simp; rfl))
         (try clear kg38_0 kg38_1 kg25_0 kg25_1 kg18_0 kg18_1 kg1_0 kg1_1)
         intro g107 hg w108 hbox hb
         replace S := Aside0.mk (S.out.box hg hbox hb)
         clear hg hbox hb
         have kg107_0 : w108.cell? ⟨g107, 0, none⟩ = some (.slice none 0 0) := (blk_cell (S.out.blk 0 rfl) 0).trans rfl
         have kg107_1 : w108.cell? ⟨g107, 1, none⟩ = some (.slice none 0 0) := (blk_cell (S.out.blk 0 rfl) 1).trans rfl
         have kg38_0 : w108.cell? ⟨g38, 0, none⟩ = some (.slice A34 ws.length c35) := (blk_cell (S.out.blk 6 rfl) 0).trans rfl
         have kg38_1 : w108.cell? ⟨g38, 1, none⟩ = some (.slice A36 ds.length c37) := (blk_cell (S.out.blk 6 rfl) 1).trans rfl
         have kg25_0 : w108.cell? ⟨g25, 0, none⟩ = some (.slice A23 l0.length c24) := (blk_cell (S.out.blk 7 rfl) 0).trans rfl
         have kg25_1 : w108.cell? ⟨g25, 1, none⟩ = some (.int .i64 a0_1) := (blk_cell (S.out.blk 7 rfl) 1).trans rfl
         have kg18_0 : w108.cell? ⟨g18, 0, none⟩ = some (.slice A14 ws.length c15) := (blk_cell (S.out.blk 8 rfl) 0).trans rfl
         have kg18_1 : w108.cell? ⟨g18, 1, none⟩ = some (.slice A16 ds.length c17) := (blk_cell (S.out.blk 8 rfl) 1).trans rfl
         have kg1_0 : w108.cell? ⟨g1, 0, none⟩ = some (.slice A0 l0.length c0) := (blk_cell (S.out.blk 11 rfl) 0).trans rfl
         have kg1_1 : w108.cell? ⟨g1, 1, none⟩ = some (.int .i64 a0_1) := (blk_cell (S.out.blk 11 rfl) 1).trans rfl)
      | ((with_reducible refine gate_store (t := 88) (p := 14) rfl ?_)
         have zg107_0 := blk_frozen (S.out.blk 0 rfl) 0
         have zg107_1 := blk_frozen (S.out.blk 0 rfl) 1
         refine store_event (t := 88) (p := 14) (v := ?vo_w109) (w1 := ((w108.setCell ⟨g107, 0, none⟩ (.slice A103 ws.length c104)).setCell ⟨g107, 1, none⟩ (.slice A105 ds.length c106))) ?hg ?ho ?hn ?hr ?_
         (case ho => rfl)
         (case hg => rfl)
         (case hn => rfl)
         (case hr => first | (go_simp; done) | (go_simp; rfl))
         (try clear zg107_0 zg107_1)
         (try clear kg107_0 kg107_1 kg38_0 kg38_1 kg25_0 kg25_1 kg18_0 kg18_1 kg1_0 kg1_1)
         intro w109 hw
         replace S : Aside0 (St w w (fun _ => False) [hB g107 #[.slice A103 ws.length c104, .slice A105 ds.length c106] 88, hM w.heap.size (.slice A103 ws.length c104) (.slice A105 ds.length c106) ws ds, hR (Kd.int .i64) 3 w.heap.size (.slice A95 l0.length c96) l0, hM w.heap.size (.slice A34 ws.length c35) (.slice A36 ds.length c37) ws2 ds2, hR (Kd.int .i64) 3 w.heap.size (.slice A23 l0.length c24) l1, hR (Kd.int .i64) 3 w.heap.size (.slice A59 l0.length c60) l0, hB g38 #[.slice A34 ws.length c35, .slice A36 ds.length c37] 88, hB g25 #[.slice A23 l0.length c24, .int .i64 a0_1] 65, hB g18 #[.slice A14 ws.length c15, .slice A16 ds.length c17] 88, hM w.heap.size (.slice A14 ws.length c15) (.slice A16 ds.length c17) ws ds, hR (Kd.int .i64) 3 w.heap.size (.slice A6 l0.length c7) l0, hB g1 #[.slice A0 l0.length c0, .int .i64 a0_1] 58] w109) := Aside0.mk (by rw [hw]; exact ((S.out.put 0 (.slice A103 ws.length c104) rfl).put 1 (.slice A105 ds.length c106) rfl))
         clear hw
         have kg107_0 : w109.cell? ⟨g107, 0, none⟩ = some (.slice A103 ws.length c104) := (blk_cell (S.out.blk 0 rfl) 0).trans rfl
         have kg107_1 : w109.cell? ⟨g107, 1, none⟩ = some (.slice A105 ds.length c106) := (blk_cell (S.out.blk 0 rfl) 1).trans rfl
         have kg38_0 : w109.cell? ⟨g38, 0, none⟩ = some (.slice A34 ws.length c35) := (blk_cell (S.out.blk 6 rfl) 0).trans rfl
         have kg38_1 : w109.cell? ⟨g38, 1, none⟩ = some (.slice A36 ds.length c37) := (blk_cell (S.out.blk 6 rfl) 1).trans rfl
         have kg25_0 : w109.cell? ⟨g25, 0, none⟩ = some (.slice A23 l0.length c24) := (blk_cell (S.out.blk 7 rfl) 0).trans rfl
         have kg25_1 : w109.cell? ⟨g25, 1, none⟩ = some (.int .i64 a0_1) := (blk_cell (S.out.blk 7 rfl) 1).trans rfl
         have kg18_0 : w109.cell? ⟨g18, 0, none⟩ = some (.slice A14 ws.length c15) := (blk_cell (S.out.blk 8 rfl) 0).trans rfl
         have kg18_1 : w109.cell? ⟨g18, 1, none⟩ = some (.slice A16 ds.length c17) := (blk_cell (S.out.blk 8 rfl) 1).trans rfl
         have kg1_0 : w109.cell? ⟨g1, 0, none⟩ = some (.slice A0 l0.length c0) := (blk_cell (S.out.blk 11 rfl) 0).trans rfl
         have kg1_1 : w109.cell? ⟨g1, 1, none⟩ = some (.int .i64 a0_1) := (blk_cell (S.out.blk 11 rfl) 1).trans rfl)
      | ((with_reducible refine gate_callee (f := 58) rfl ?_)
         (try clear kg107_0 kg107_1 kg38_0 kg38_1 kg25_0 kg25_1 kg18_0 kg18_1 kg1_0 kg1_1)
         obtain ⟨e111, q112, c113⟩ := St.readM0 S.out 1 rfl
         obtain ⟨e114, q115, c116⟩ := St.readM1 S.out 1 rfl
         obtain ⟨e117, q118, c119⟩ := St.readM0 S.out 9 rfl
         obtain ⟨e120, q121, c122⟩ := St.readM1 S.out 9 rfl
         refine goesL_ (some 86) rfl rfl Try.func58 (by kernel_rfl) rfl #[.agg #[.slice A103 ws.length c104, .slice A105 ds.length c106], .agg #[.slice A14 ws.length c15, .slice A16 ds.length c17]] rfl (by (try simp only [List.map_toArray, List.map_cons, List.map_nil]); first | done | rfl) ?_
         (with_reducible refine (laws_eqMem.calls k A103 c104 ws A105 c106 ds A14 c15 ws A16 c17 ds _ _ c113 q112 c116 q115 c119 q118 c122 q121 H5.out).mono ?_)
         rintro e w110 ⟨rfl, hb⟩
         refine ⟨_, rfl, ?_⟩
         replace S := Aside0.mk (S.out.moved hb)
         clear hb e111 q112 c113 e114 q115 c116 e117 q118 c119 e120 q121 c122
         have kg107_0 : w110.cell? ⟨g107, 0, none⟩ = some (.slice A103 ws.length c104) := (blk_cell (S.out.blk 0 rfl) 0).trans rfl
         have kg107_1 : w110.cell? ⟨g107, 1, none⟩ = some (.slice A105 ds.length c106) := (blk_cell (S.out.blk 0 rfl) 1).trans rfl
         have kg38_0 : w110.cell? ⟨g38, 0, none⟩ = some (.slice A34 ws.length c35) := (blk_cell (S.out.blk 6 rfl) 0).trans rfl
         have kg38_1 : w110.cell? ⟨g38, 1, none⟩ = some (.slice A36 ds.length c37) := (blk_cell (S.out.blk 6 rfl) 1).trans rfl
         have kg25_0 : w110.cell? ⟨g25, 0, none⟩ = some (.slice A23 l0.length c24) := (blk_cell (S.out.blk 7 rfl) 0).trans rfl
         have kg25_1 : w110.cell? ⟨g25, 1, none⟩ = some (.int .i64 a0_1) := (blk_cell (S.out.blk 7 rfl) 1).trans rfl
         have kg18_0 : w110.cell? ⟨g18, 0, none⟩ = some (.slice A14 ws.length c15) := (blk_cell (S.out.blk 8 rfl) 0).trans rfl
         have kg18_1 : w110.cell? ⟨g18, 1, none⟩ = some (.slice A16 ds.length c17) := (blk_cell (S.out.blk 8 rfl) 1).trans rfl
         have kg1_0 : w110.cell? ⟨g1, 0, none⟩ = some (.slice A0 l0.length c0) := (blk_cell (S.out.blk 11 rfl) 0).trans rfl
         have kg1_1 : w110.cell? ⟨g1, 1, none⟩ = some (.int .i64 a0_1) := (blk_cell (S.out.blk 11 rfl) 1).trans rfl)
      | ((with_reducible refine gate_callee (f := 60) rfl ?_)
         (try clear kg107_0 kg107_1 kg38_0 kg38_1 kg25_0 kg25_1 kg18_0 kg18_1 kg1_0 kg1_1)
         obtain ⟨e124, q125, c126⟩ := St.readM0 S.out 3 rfl
         obtain ⟨e127, q128, c129⟩ := St.readM1 S.out 3 rfl
         refine goesL_ (some 95) rfl rfl Try.func60 (by kernel_rfl) rfl #[.agg #[.slice A34 ws.length c35, .slice A36 ds.length c37], .int .i64 1] rfl (by (try simp only [List.map_toArray, List.map_cons, List.map_nil]); first | done | rfl) ?_
         refine calls_of_args (args' := #[.agg #[.slice A34 ws2.length c35, .slice A36 ds2.length c37], .int .i64 1]) (by rw [e124, e127]) ?_
         (with_reducible refine (laws_heldMem.calls k A34 c35 ws2 A36 c37 ds2 1 _ _ c126 q125 c129 q128 H9.out).mono ?_)
         rintro e w123 ⟨rfl, hb⟩
         refine ⟨_, rfl, ?_⟩
         replace S := Aside0.mk (S.out.moved hb)
         clear hb e124 q125 c126 e127 q128 c129
         have kg107_0 : w123.cell? ⟨g107, 0, none⟩ = some (.slice A103 ws.length c104) := (blk_cell (S.out.blk 0 rfl) 0).trans rfl
         have kg107_1 : w123.cell? ⟨g107, 1, none⟩ = some (.slice A105 ds.length c106) := (blk_cell (S.out.blk 0 rfl) 1).trans rfl
         have kg38_0 : w123.cell? ⟨g38, 0, none⟩ = some (.slice A34 ws.length c35) := (blk_cell (S.out.blk 6 rfl) 0).trans rfl
         have kg38_1 : w123.cell? ⟨g38, 1, none⟩ = some (.slice A36 ds.length c37) := (blk_cell (S.out.blk 6 rfl) 1).trans rfl
         have kg25_0 : w123.cell? ⟨g25, 0, none⟩ = some (.slice A23 l0.length c24) := (blk_cell (S.out.blk 7 rfl) 0).trans rfl
         have kg25_1 : w123.cell? ⟨g25, 1, none⟩ = some (.int .i64 a0_1) := (blk_cell (S.out.blk 7 rfl) 1).trans rfl
         have kg18_0 : w123.cell? ⟨g18, 0, none⟩ = some (.slice A14 ws.length c15) := (blk_cell (S.out.blk 8 rfl) 0).trans rfl
         have kg18_1 : w123.cell? ⟨g18, 1, none⟩ = some (.slice A16 ds.length c17) := (blk_cell (S.out.blk 8 rfl) 1).trans rfl
         have kg1_0 : w123.cell? ⟨g1, 0, none⟩ = some (.slice A0 l0.length c0) := (blk_cell (S.out.blk 11 rfl) 0).trans rfl
         have kg1_1 : w123.cell? ⟨g1, 1, none⟩ = some (.int .i64 a0_1) := (blk_cell (S.out.blk 11 rfl) 1).trans rfl))
  go_ret
  exact ⟨by first | exact er | rfl | (simp; done), S.out.done⟩
end Go.Proofs.Ytopikhjcbcpiaaa.Q
end
