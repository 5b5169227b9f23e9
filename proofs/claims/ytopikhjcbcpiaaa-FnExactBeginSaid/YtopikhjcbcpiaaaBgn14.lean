/- Part 14 of the steps by which the law is shown: what each function of the program, of the reference and of the law computes. No condition. -/
import Derived.Test.YtopikhjcbcpiaaaBgn0
import Derived.Test.YtopikhjcbcpiaaaBgn2
import Derived.Test.YtopikhjcbcpiaaaBgn3
import Derived.Test.YtopikhjcbcpiaaaBgn4
import Derived.Test.YtopikhjcbcpiaaaBgn5
import Derived.Test.YtopikhjcbcpiaaaBgn6
import Derived.Test.YtopikhjcbcpiaaaBgn7
import Derived.Test.YtopikhjcbcpiaaaBgn9
import Derived.Test.YtopikhjcbcpiaaaBgn13
section
/- Begin: the program's and the reference's do the same. -/
namespace Go.Proofs.Ytopikhjcbcpiaaa.Q
set_option linter.unusedSimpArgs false
open Go.RowKit Go.Proofs.YtopikhjcbcpiaaaW.PrintWords Go.Proofs.YtopikhjcbcpiaaaX
theorem inB_iff' {a b c : Int} : inB a b c = true ↔ b ≤ a ∧ a ≤ c := by simp [inB]
theorem ev_l7Marks (ws : List S141) (ds : List S145) (t : Int) (hw : ws.length ≤ 1048576) (h0 : 0 ≤ t) (h1 : t ≤ 1048576) : Ev (fun k => spec_l7Marks.f k ws ds t) (ws.any fun x => x.f1 == wrap64 (t + 1)) := by
  have hbig : wrap64 (t + 1) > 0 := by rw [wrap_in (by omega) (by omega)]; omega
  · have key : ∀ (r p : List S141), p ++ r = ws → Ev (fun k => spec_l7Marks.l0 k t (p.length : Int) ws ds) (r.any fun x => x.f1 == wrap64 (t + 1)) := by
      intro r
      induction r with
      | nil =>
        intro p hp
        simp only [List.append_nil] at hp
        subst hp
        refine ev_succ (fun k => ?_)
        simp only [spec_l7Marks.l0]; rw [if_neg (by omega)]; rfl
      | cons x r ih =>
        intro p hp
        have hlen : p.length < ws.length := by rw [← hp]; simp
        have h := ih (p ++ [x]) (by rw [← hp]; simp)
        have e0 : rd_T141 ws (p.length : Int) = x := by rw [← hp]; exact at141 p x r
        by_cases e : x.f1 = wrap64 (t + 1)
        · refine ev_to (ev_succ (fun k => ?_)) (by simp [e] : true = _)
          simp only [spec_l7Marks.l0, e0]
          rw [if_pos (by omega), if_pos (by omega), if_pos (by omega), if_neg (by omega), if_pos e]
        · have e' : (x :: r).any (fun x => x.f1 == wrap64 (t + 1)) = r.any fun x => x.f1 == wrap64 (t + 1) := by simp [e]
          rw [e']
          by_cases hp0 : x.f1 > 0
          · refine Ev.step (fun k => ?_) h
            simp only [spec_l7Marks.l0, e0]
            rw [if_pos (by omega), if_pos (by omega), if_pos hp0, if_neg (by omega), if_neg e, next_at p x (by omega)]
          · refine Ev.step (fun k => ?_) h
            simp only [spec_l7Marks.l0, e0]
            rw [if_pos (by omega), if_pos (by omega), if_neg hp0, next_at p x (by omega)]
    simpa [spec_l7Marks.f] using key ws [] rfl
theorem any_eq1 (ws : List S141) (t : Int) : impl_Begin_1_any.f ws t = some (ws.any fun x => x.f1 == wrap64 (t + 1)) := by
  unfold impl_Begin_1_any.f
  exact any_eq ws (fun x _ => rfl)
theorem fitM_of {ds : List S145} (hf : ∀ x ∈ ds, fitE x) : fitM ds := fun x hx => (hf x hx).1
theorem begNew_fit (ds : List S145) (t : Int) (es : List S166) (code : Int) (rs : List Int) (he : es.length ≤ 1048576) (hr : rs.length ≤ 1048576) (hf : ∀ x ∈ ds, fitE x) : ∀ x ∈ begNew ds t es code rs, fitE x := by
  intro x hx
  rcases List.mem_or_eq_of_mem_set hx with h | rfl
  · exact hf x h
  · exact ⟨he, hr⟩
theorem begin_both (ws : List S141) (ds : List S145) (t : Int) (es : List S166) (code : Int) (rs : List Int) (hw : ws.length ≤ 1048576) (hd : ds.length ≤ 1048576) (he : es.length ≤ 1048576) (hr : rs.length ≤ 1048576) (hf : ∀ x ∈ ds, fitE x) :
    ∃ (rw : List S141) (rd : List S145) (h0 h1 h2 h3 : Int) (b : Bool) (K : Nat), (∀ k, K ≤ k → spec_Begin.Does k ws ds t es code rs rw rd h0 h1 h2 h3 b ∧ impl_Begin.Does k ws ds t es code rs rw rd h0 h1 h2 h3 b) ∧ rw.length ≤ 1048576 ∧ rd.length ≤ 1048576 ∧ ∀ x ∈ rd, fitE x := by
  obtain ⟨K1, a1⟩ := ev_l7Copy ws ds hw hd hf
  obtain ⟨K2, a2⟩ := ev_copyMem ws ds hw hd hf
  obtain ⟨K3, a3⟩ := ev_spec_MemOk ws ds hw hd (fitM_of hf)
  obtain ⟨K4, a4⟩ := ev_impl_MemOk ws ds hw hd (fitM_of hf)
  have hn := begNew_fit ds t es code rs he hr hf
  have hdn : (begNew ds t es code rs).length ≤ 1048576 := by unfold begNew; simpa using hd
  obtain ⟨K5, a5⟩ := ev_spec_MemOk ws _ hw hdn (fitM_of hn)
  obtain ⟨K6, a6⟩ := ev_impl_MemOk ws _ hw hdn (fitM_of hn)
  cases hmo : memB ws ds with
  | false =>
    rw [hmo] at a3 a4
    exact ⟨ws, ds, 0, 0, 0, 0, false, K1 + K2 + K3 + K4, fun k hk => ⟨⟨a1 k (by omega), he, .inl ⟨a3 k (by omega), rfl, rfl, rfl, rfl, rfl, rfl, rfl⟩⟩, ⟨a2 k (by omega), he, .inl ⟨a4 k (by omega), rfl, rfl, rfl, rfl, rfl, rfl, rfl⟩⟩⟩, hw, hd, hf⟩
  | true =>
    rw [hmo] at a3 a4
    cases hin : inB t 0 (wrap64 ((ds.length : Int) - 1)) with
    | false =>
      have b1 : spec_l1In.f t 0 (wrap64 ((ds.length : Int) - 1)) = some false := by rw [l1In_eq, hin]
      have b2 : impl_from.f t 0 (wrap64 ((ds.length : Int) - 1)) = some false := by rw [from_eq, hin]
      exact ⟨ws, ds, 0, 0, 0, 0, false, K1 + K2 + K3 + K4, fun k hk => ⟨⟨a1 k (by omega), he, .inr ⟨a3 k (by omega), .inl ⟨b1, rfl, rfl, rfl, rfl, rfl, rfl, rfl⟩⟩⟩, ⟨a2 k (by omega), he, .inr ⟨a4 k (by omega), .inl ⟨b2, rfl, rfl, rfl, rfl, rfl, rfl, rfl⟩⟩⟩⟩, hw, hd, hf⟩
    | true =>
      have b1 : spec_l1In.f t 0 (wrap64 ((ds.length : Int) - 1)) = some true := by rw [l1In_eq, hin]
      have b2 : impl_from.f t 0 (wrap64 ((ds.length : Int) - 1)) = some true := by rw [from_eq, hin]
      have hb := inB_iff'.1 hin
      rw [wrap_in (by omega) (by omega)] at hb
      obtain ⟨K7, a7⟩ := ev_l7Marks ws ds t hw (by omega) (by omega)
      have a8 := any_eq1 ws t
      cases hmk : (ws.any fun x => x.f1 == wrap64 (t + 1)) with
      | true =>
        rw [hmk] at a7 a8
        exact ⟨ws, ds, 0, 0, 0, 0, false, K1 + K2 + K3 + K4 + K7, fun k hk => ⟨⟨a1 k (by omega), he, .inr ⟨a3 k (by omega), .inr ⟨b1, .inl ⟨a7 k (by omega), rfl, rfl, rfl, rfl, rfl, rfl, rfl⟩⟩⟩⟩, ⟨a2 k (by omega), he, .inr ⟨a4 k (by omega), .inr ⟨b2, .inl ⟨a8, rfl, rfl, rfl, rfl, rfl, rfl, rfl⟩⟩⟩⟩⟩, hw, hd, hf⟩
      | false =>
        rw [hmk] at a7 a8
        cases hm2 : memB ws (begNew ds t es code rs) with
        | false =>
          rw [hm2] at a5 a6
          exact ⟨ws, ds, 0, 0, 0, 0, false, K1 + K2 + K3 + K4 + K5 + K6 + K7, fun k hk => ⟨⟨a1 k (by omega), he, .inr ⟨a3 k (by omega), .inr ⟨b1, .inr ⟨a7 k (by omega), by omega, by omega, l6Res_eq _ _ hr, .inl ⟨a5 k (by omega), rfl, rfl, rfl, rfl, rfl, rfl, rfl⟩⟩⟩⟩⟩, ⟨a2 k (by omega), he, .inr ⟨a4 k (by omega), .inr ⟨b2, .inr ⟨a8, by omega, by omega, cloneE_eq _ he, copyRes_eq _ _ hr, .inl ⟨a6 k (by omega), rfl, rfl, rfl, rfl, rfl, rfl, rfl⟩⟩⟩⟩⟩⟩, hw, hd, hf⟩
        | true =>
          rw [hm2] at a5 a6
          exact ⟨ws, begNew ds t es code rs, t, wrap64 ((rd_T145 ds t).f0 + 1), 0, 0, true, K1 + K2 + K3 + K4 + K5 + K6 + K7, fun k hk => ⟨⟨a1 k (by omega), he, .inr ⟨a3 k (by omega), .inr ⟨b1, .inr ⟨a7 k (by omega), by omega, by omega, l6Res_eq _ _ hr, .inr ⟨a5 k (by omega), rfl, rfl, rfl, rfl, rfl, rfl, rfl⟩⟩⟩⟩⟩, ⟨a2 k (by omega), he, .inr ⟨a4 k (by omega), .inr ⟨b2, .inr ⟨a8, by omega, by omega, cloneE_eq _ he, copyRes_eq _ _ hr, .inr ⟨a6 k (by omega), rfl, rfl, rfl, rfl, rfl, rfl, rfl⟩⟩⟩⟩⟩⟩, hw, hdn, hn⟩
end Go.Proofs.Ytopikhjcbcpiaaa.Q
end
section
namespace Go.Proofs.Ytopikhjcbcpiaaa.Q
open Go.RowKit Go.Proofs.YtopikhjcbcpiaaaW.PrintWords Go.Proofs.YtopikhjcbcpiaaaW.PrintLast Go.Proofs.YtopikhjcbcpiaaaW.PrintMore
attribute [local go_sem] max2_int min2_int max_two min_two max_three min_three max_four min_four
set_option linter.unusedVariables false
set_option linter.unusedSimpArgs false
set_option maxHeartbeats 8000000 in
set_option maxRecDepth 100000 in
theorem laws_FnExactBegin.out0 (k : Nat) (A0 : Option Addr) (c0 : Nat) (l0 : List S143) (A1 : Option Addr) (c1 : Nat) (l1 : List S138) (a1 : Int) (A2 : Option Addr) (c2 : Nat) (l2 : List S168) (a3_0 : Int) (A3 : Option Addr) (c3 : Nat) (l3 : List Int) (t0 t1 t2 k1 k2 k3 k4 h0 h1 h2 h3 : Int) (b : Bool) (ws ws1 rw ws2 : List S141) (ds ds1 rd ds2 : List S145) (es es1 : List S166) (rs rs1 : List Int) (w : World) (hr0 : Kd.C k143 w A0 l0.length l0) (hc0 : l0.length ≤ c0) (hr1 : Kd.C k138 w A1 l1.length l1) (hc1 : l1.length ≤ c1) (hr2 : Kd.C k168 w A2 l2.length l2) (hc2 : l2.length ≤ c2) (hr3 : Kd.C (Kd.int .i64) w A3 l3.length l3) (hc3 : l3.length ≤ c3)
    (hH1 : laws_szMem.f k l0 l1 1048576 = some t0) (nt0 : decide (t0 < 0) = true) :
    Calls Try.prog 9 #[.agg #[.slice A0 l0.length c0, .slice A1 l1.length c1], .int .i64 a1, .slice A2 l2.length c2, .agg #[.int .i64 a3_0, .slice A3 l3.length c3]] w fun e w' => e = .returned (.bool true) ∧ Below w.heap.size w w' := by
  have hu88 := Try.underlying88
  have hu95 := Try.underlying95
  have hu62 := Try.underlying62
  have hu70 := Try.underlying70
  have hu100 := Try.underlying100
  have HR0 := Aside0.mk hr0
  have HC0 := Aside0.mk hc0
  have HR1 := Aside0.mk hr1
  have HC1 := Aside0.mk hc1
  have HR2 := Aside0.mk hr2
  have HC2 := Aside0.mk hc2
  have HR3 := Aside0.mk hr3
  have HC3 := Aside0.mk hc3
  clear hr0 hc0 hr1 hc1 hr2 hc2 hr3 hc3
  have H1 := Aside0.mk hH1
  clear hH1
  have S := Aside0.mk (St.start w)
  go_enter Try.func9, Try.ntmps9
  go_wp2_with (first
      | ((with_reducible refine gate_dst (N := 4) rfl ?_)
         refine box_event ?hg (N := 4) ?hd (cs := #[.slice A0 l0.length c0, .slice A1 l1.length c1]) (t := 95) ?hr ?_
         (case hd => rfl)
         (case hg => rfl)
         (case hr => first | (go_simp; done) | (go_simp; rfl) | (go_simp; exact ⟨rfl, rfl⟩))
         intro g1 hg w2 hbox hb
         replace S := Aside0.mk (S.out.box hg hbox hb)
         clear hg hbox hb)
      | ((with_reducible refine gate_dst (N := 7) rfl ?_)
         refine box_event ?hg (N := 7) ?hd (cs := #[.int .i64 a3_0, .slice A3 l3.length c3]) (t := 62) ?hr ?_
         (case hd => rfl)
         (case hg => rfl)
         (case hr => first | (go_simp; done) | (go_simp; rfl) | (go_simp; exact ⟨rfl, rfl⟩))
         intro g3 hg w4 hbox hb
         replace S := Aside0.mk (S.out.box hg hbox hb)
         clear hg hbox hb
         have kg1_0 : w4.cell? ⟨g1, 0, none⟩ = some (.slice A0 l0.length c0) := (blk_cell (S.out.blk 1 rfl) 0).trans rfl
         have kg1_1 : w4.cell? ⟨g1, 1, none⟩ = some (.slice A1 l1.length c1) := (blk_cell (S.out.blk 1 rfl) 1).trans rfl)
      | ((with_reducible refine gate_callee (f := 61) rfl ?_)
         (try clear kg1_0 kg1_1)
         refine goesL_ (some 27) rfl rfl Try.func61 (by kernel_rfl) rfl #[.agg #[.slice A0 l0.length c0, .slice A1 l1.length c1], .int .i64 1048576] rfl (by (try simp only [List.map_toArray, List.map_cons, List.map_nil]); first | done | rfl) ?_
         (with_reducible refine (laws_szMem.calls k A0 c0 l0 A1 c1 l1 1048576 _ _ (Kd.C_below HR0.out S.out.below) HC0.out (Kd.C_below HR1.out S.out.below) HC1.out H1.out).mono ?_)
         rintro e w5 ⟨rfl, hb⟩
         refine ⟨_, rfl, ?_⟩
         replace S := Aside0.mk (S.out.moved hb)
         clear hb))
  go_ret
  exact ⟨by first | exact er | rfl | (simp; done), S.out.done⟩
set_option maxHeartbeats 8000000 in
set_option maxRecDepth 100000 in
theorem laws_FnExactBegin.out1 (k : Nat) (A0 : Option Addr) (c0 : Nat) (l0 : List S143) (A1 : Option Addr) (c1 : Nat) (l1 : List S138) (a1 : Int) (A2 : Option Addr) (c2 : Nat) (l2 : List S168) (a3_0 : Int) (A3 : Option Addr) (c3 : Nat) (l3 : List Int) (t0 t1 t2 k1 k2 k3 k4 h0 h1 h2 h3 : Int) (b : Bool) (ws ws1 rw ws2 : List S141) (ds ds1 rd ds2 : List S145) (es es1 : List S166) (rs rs1 : List Int) (w : World) (hr0 : Kd.C k143 w A0 l0.length l0) (hc0 : l0.length ≤ c0) (hr1 : Kd.C k138 w A1 l1.length l1) (hc1 : l1.length ≤ c1) (hr2 : Kd.C k168 w A2 l2.length l2) (hc2 : l2.length ≤ c2) (hr3 : Kd.C (Kd.int .i64) w A3 l3.length l3) (hc3 : l3.length ≤ c3)
    (hH1 : laws_szMem.f k l0 l1 1048576 = some t0) (hH2 : laws_szEntryS.f l2 t0 = some t1) (nt0 : decide (t0 < 0) = false) (nt1 : decide (t1 < 0) = true) :
    Calls Try.prog 9 #[.agg #[.slice A0 l0.length c0, .slice A1 l1.length c1], .int .i64 a1, .slice A2 l2.length c2, .agg #[.int .i64 a3_0, .slice A3 l3.length c3]] w fun e w' => e = .returned (.bool true) ∧ Below w.heap.size w w' := by
  have hu88 := Try.underlying88
  have hu95 := Try.underlying95
  have hu62 := Try.underlying62
  have hu70 := Try.underlying70
  have hu100 := Try.underlying100
  have HR0 := Aside0.mk hr0
  have HC0 := Aside0.mk hc0
  have HR1 := Aside0.mk hr1
  have HC1 := Aside0.mk hc1
  have HR2 := Aside0.mk hr2
  have HC2 := Aside0.mk hc2
  have HR3 := Aside0.mk hr3
  have HC3 := Aside0.mk hc3
  clear hr0 hc0 hr1 hc1 hr2 hc2 hr3 hc3
  have H1 := Aside0.mk hH1
  have H2 := Aside0.mk hH2
  clear hH1 hH2
  have S := Aside0.mk (St.start w)
  go_enter Try.func9, Try.ntmps9
  go_wp2_with (first
      | ((with_reducible refine gate_dst (N := 4) rfl ?_)
         refine box_event ?hg (N := 4) ?hd (cs := #[.slice A0 l0.length c0, .slice A1 l1.length c1]) (t := 95) ?hr ?_
         (case hd => rfl)
         (case hg => rfl)
         (case hr => first | (go_simp; done) | (go_simp; rfl) | (go_simp; exact ⟨rfl, rfl⟩))
         intro g1 hg w2 hbox hb
         replace S := Aside0.mk (S.out.box hg hbox hb)
         clear hg hbox hb)
      | ((with_reducible refine gate_dst (N := 7) rfl ?_)
         refine box_event ?hg (N := 7) ?hd (cs := #[.int .i64 a3_0, .slice A3 l3.length c3]) (t := 62) ?hr ?_
         (case hd => rfl)
         (case hg => rfl)
         (case hr => first | (go_simp; done) | (go_simp; rfl) | (go_simp; exact ⟨rfl, rfl⟩))
         intro g3 hg w4 hbox hb
         replace S := Aside0.mk (S.out.box hg hbox hb)
         clear hg hbox hb
         have kg1_0 : w4.cell? ⟨g1, 0, none⟩ = some (.slice A0 l0.length c0) := (blk_cell (S.out.blk 1 rfl) 0).trans rfl
         have kg1_1 : w4.cell? ⟨g1, 1, none⟩ = some (.slice A1 l1.length c1) := (blk_cell (S.out.blk 1 rfl) 1).trans rfl)
      | ((with_reducible refine gate_callee (f := 61) rfl ?_)
         (try clear kg1_0 kg1_1)
         refine goesL_ (some 27) rfl rfl Try.func61 (by kernel_rfl) rfl #[.agg #[.slice A0 l0.length c0, .slice A1 l1.length c1], .int .i64 1048576] rfl (by (try simp only [List.map_toArray, List.map_cons, List.map_nil]); first | done | rfl) ?_
         (with_reducible refine (laws_szMem.calls k A0 c0 l0 A1 c1 l1 1048576 _ _ (Kd.C_below HR0.out S.out.below) HC0.out (Kd.C_below HR1.out S.out.below) HC1.out H1.out).mono ?_)
         rintro e w5 ⟨rfl, hb⟩
         refine ⟨_, rfl, ?_⟩
         replace S := Aside0.mk (S.out.moved hb)
         clear hb)
      | ((with_reducible refine gate_callee (f := 62) rfl ?_)
         refine goesL_ (some 32) rfl rfl Try.func62 (by kernel_rfl) rfl #[.slice A2 l2.length c2, .int .i64 t0] rfl (by (try simp only [List.map_toArray, List.map_cons, List.map_nil]); first | done | rfl) ?_
         (with_reducible refine (laws_szEntryS.calls A2 c2 l2 t0 _ _ (Kd.C_below HR2.out S.out.below) HC2.out H2.out).mono ?_)
         rintro e w6 ⟨rfl, hb⟩
         replace hb : Below w5.heap.size w5 w6 := by obtain ⟨nd, rfl⟩ := hb; exact pw_below_drewN (Below.refl _ _) nd
         refine ⟨_, rfl, ?_⟩
         replace S := Aside0.mk (S.out.moved hb)
         clear hb))
  go_ret
  exact ⟨by first | exact er | rfl | (simp; done), S.out.done⟩
set_option maxHeartbeats 8000000 in
set_option maxRecDepth 100000 in
theorem laws_FnExactBegin.out2 (k : Nat) (A0 : Option Addr) (c0 : Nat) (l0 : List S143) (A1 : Option Addr) (c1 : Nat) (l1 : List S138) (a1 : Int) (A2 : Option Addr) (c2 : Nat) (l2 : List S168) (a3_0 : Int) (A3 : Option Addr) (c3 : Nat) (l3 : List Int) (t0 t1 t2 k1 k2 k3 k4 h0 h1 h2 h3 : Int) (b : Bool) (ws ws1 rw ws2 : List S141) (ds ds1 rd ds2 : List S145) (es es1 : List S166) (rs rs1 : List Int) (w : World) (hr0 : Kd.C k143 w A0 l0.length l0) (hc0 : l0.length ≤ c0) (hr1 : Kd.C k138 w A1 l1.length l1) (hc1 : l1.length ≤ c1) (hr2 : Kd.C k168 w A2 l2.length l2) (hc2 : l2.length ≤ c2) (hr3 : Kd.C (Kd.int .i64) w A3 l3.length l3) (hc3 : l3.length ≤ c3)
    (hH1 : laws_szMem.f k l0 l1 1048576 = some t0) (hH2 : laws_szEntryS.f l2 t0 = some t1) (hH3 : laws_szRes.f a3_0 l3 t1 = some t2) (nt0 : decide (t0 < 0) = false) (nt1 : decide (t1 < 0) = false) (nt2 : decide (t2 < 0) = true) :
    Calls Try.prog 9 #[.agg #[.slice A0 l0.length c0, .slice A1 l1.length c1], .int .i64 a1, .slice A2 l2.length c2, .agg #[.int .i64 a3_0, .slice A3 l3.length c3]] w fun e w' => e = .returned (.bool true) ∧ Below w.heap.size w w' := by
  have hu88 := Try.underlying88
  have hu95 := Try.underlying95
  have hu62 := Try.underlying62
  have hu70 := Try.underlying70
  have hu100 := Try.underlying100
  have HR0 := Aside0.mk hr0
  have HC0 := Aside0.mk hc0
  have HR1 := Aside0.mk hr1
  have HC1 := Aside0.mk hc1
  have HR2 := Aside0.mk hr2
  have HC2 := Aside0.mk hc2
  have HR3 := Aside0.mk hr3
  have HC3 := Aside0.mk hc3
  clear hr0 hc0 hr1 hc1 hr2 hc2 hr3 hc3
  have H1 := Aside0.mk hH1
  have H2 := Aside0.mk hH2
  have H3 := Aside0.mk hH3
  clear hH1 hH2 hH3
  have S := Aside0.mk (St.start w)
  go_enter Try.func9, Try.ntmps9
  go_wp2_with (first
      | ((with_reducible refine gate_dst (N := 4) rfl ?_)
         refine box_event ?hg (N := 4) ?hd (cs := #[.slice A0 l0.length c0, .slice A1 l1.length c1]) (t := 95) ?hr ?_
         (case hd => rfl)
         (case hg => rfl)
         (case hr => first | (go_simp; done) | (go_simp; rfl) | (go_simp; exact ⟨rfl, rfl⟩))
         intro g1 hg w2 hbox hb
         replace S := Aside0.mk (S.out.box hg hbox hb)
         clear hg hbox hb)
      | ((with_reducible refine gate_dst (N := 7) rfl ?_)
         refine box_event ?hg (N := 7) ?hd (cs := #[.int .i64 a3_0, .slice A3 l3.length c3]) (t := 62) ?hr ?_
         (case hd => rfl)
         (case hg => rfl)
         (case hr => first | (go_simp; done) | (go_simp; rfl) | (go_simp; exact ⟨rfl, rfl⟩))
         intro g3 hg w4 hbox hb
         replace S := Aside0.mk (S.out.box hg hbox hb)
         clear hg hbox hb
         have kg1_0 : w4.cell? ⟨g1, 0, none⟩ = some (.slice A0 l0.length c0) := (blk_cell (S.out.blk 1 rfl) 0).trans rfl
         have kg1_1 : w4.cell? ⟨g1, 1, none⟩ = some (.slice A1 l1.length c1) := (blk_cell (S.out.blk 1 rfl) 1).trans rfl)
      | ((with_reducible refine gate_callee (f := 61) rfl ?_)
         (try clear kg1_0 kg1_1)
         refine goesL_ (some 27) rfl rfl Try.func61 (by kernel_rfl) rfl #[.agg #[.slice A0 l0.length c0, .slice A1 l1.length c1], .int .i64 1048576] rfl (by (try simp only [List.map_toArray, List.map_cons, List.map_nil]); first | done | rfl) ?_
         (with_reducible refine (laws_szMem.calls k A0 c0 l0 A1 c1 l1 1048576 _ _ (Kd.C_below HR0.out S.out.below) HC0.out (Kd.C_below HR1.out S.out.below) HC1.out H1.out).mono ?_)
         rintro e w5 ⟨rfl, hb⟩
         refine ⟨_, rfl, ?_⟩
         replace S := Aside0.mk (S.out.moved hb)
         clear hb)
      | ((with_reducible refine gate_callee (f := 62) rfl ?_)
         refine goesL_ (some 32) rfl rfl Try.func62 (by kernel_rfl) rfl #[.slice A2 l2.length c2, .int .i64 t0] rfl (by (try simp only [List.map_toArray, List.map_cons, List.map_nil]); first | done | rfl) ?_
         (with_reducible refine (laws_szEntryS.calls A2 c2 l2 t0 _ _ (Kd.C_below HR2.out S.out.below) HC2.out H2.out).mono ?_)
         rintro e w6 ⟨rfl, hb⟩
         replace hb : Below w5.heap.size w5 w6 := by obtain ⟨nd, rfl⟩ := hb; exact pw_below_drewN (Below.refl _ _) nd
         refine ⟨_, rfl, ?_⟩
         replace S := Aside0.mk (S.out.moved hb)
         clear hb
         have kg3_0 : w6.cell? ⟨g3, 0, none⟩ = some (.int .i64 a3_0) := (blk_cell (S.out.blk 0 rfl) 0).trans rfl
         have kg3_1 : w6.cell? ⟨g3, 1, none⟩ = some (.slice A3 l3.length c3) := (blk_cell (S.out.blk 0 rfl) 1).trans rfl)
      | ((with_reducible refine gate_callee (f := 33) rfl ?_)
         (try clear kg3_0 kg3_1)
         refine goesL_ (some 37) rfl rfl Try.func33 (by kernel_rfl) rfl #[.agg #[.int .i64 a3_0, .slice A3 l3.length c3], .int .i64 t1] rfl (by (try simp only [List.map_toArray, List.map_cons, List.map_nil]); first | done | rfl) ?_
         (with_reducible refine (laws_szRes.calls a3_0 A3 c3 l3 t1 _ _ (Kd.C_below HR3.out S.out.below) HC3.out H3.out).mono ?_)
         rintro e w7 ⟨rfl, hb⟩
         refine ⟨_, rfl, ?_⟩
         replace S := Aside0.mk (S.out.moved hb)
         clear hb))
  go_ret
  exact ⟨by first | exact er | rfl | (simp; done), S.out.done⟩
set_option maxHeartbeats 8000000 in
set_option maxRecDepth 100000 in
theorem laws_FnExactBegin.way (k : Nat) (A0 : Option Addr) (c0 : Nat) (l0 : List S143) (A1 : Option Addr) (c1 : Nat) (l1 : List S138) (a1 : Int) (A2 : Option Addr) (c2 : Nat) (l2 : List S168) (a3_0 : Int) (A3 : Option Addr) (c3 : Nat) (l3 : List Int) (t0 t1 t2 k1 k2 k3 k4 h0 h1 h2 h3 : Int) (b : Bool) (ws ws1 rw ws2 : List S141) (ds ds1 rd ds2 : List S145) (es es1 : List S166) (rs rs1 : List Int) (w : World) (hr0 : Kd.C k143 w A0 l0.length l0) (hc0 : l0.length ≤ c0) (hr1 : Kd.C k138 w A1 l1.length l1) (hc1 : l1.length ≤ c1) (hr2 : Kd.C k168 w A2 l2.length l2) (hc2 : l2.length ≤ c2) (hr3 : Kd.C (Kd.int .i64) w A3 l3.length l3) (hc3 : l3.length ≤ c3)
    (hH1 : laws_szMem.f k l0 l1 1048576 = some t0) (hH2 : laws_szEntryS.f l2 t0 = some t1) (hH3 : laws_szRes.f a3_0 l3 t1 = some t2) (hH4 : laws_toMem.f k l0 l1 = some (ws, ds)) (hH5 : laws_toEntryS.f k l2 = some es) (hH6 : laws_toRes.f k a3_0 l3 = some (a3_0, rs)) (hH7 : spec_Begin.Does k ws ds a1 es a3_0 rs rw rd h0 h1 h2 h3 b) (hH8 : impl_Begin.Does k ws ds a1 es a3_0 rs rw rd h0 h1 h2 h3 b) (hH9 : laws_eqMem.f k rw rd rw rd = some true) (hH10 : laws_eqMem.f k ws ds ws ds = some true) (hH11 : laws_eqHelp.f h0 h1 h2 h3 h0 h1 h2 h3 = some true) (hH12 : laws_eqEntryS.f k es es = some true) (hH13 : laws_eqRes.f k a3_0 rs a3_0 rs = some true) (hH14 : laws_markMem.f k ws ds 1 = some (k1, ws1, ds1)) (hH15 : laws_markEntryS.f k es k1 = some (k2, es1)) (hH16 : laws_markRes.f k a3_0 rs k2 = some (k3, rs1)) (hH17 : laws_markMem.f k rw rd 1 = some (k4, ws2, ds2)) (hH18 : laws_heldMem.f k ws2 ds2 1 = some k4) (nt0 : decide (t0 < 0) = false) (nt1 : decide (t1 < 0) = false) (nt2 : decide (t2 < 0) = false) (nk3 : decide (k3 < 0) = false) (nk4 : decide (k4 < 0) = false) :
    Calls Try.prog 9 #[.agg #[.slice A0 l0.length c0, .slice A1 l1.length c1], .int .i64 a1, .slice A2 l2.length c2, .agg #[.int .i64 a3_0, .slice A3 l3.length c3]] w fun e w' => e = .returned (.bool true) ∧ Below w.heap.size w w' := by
  have hu88 := Try.underlying88
  have hu95 := Try.underlying95
  have hu62 := Try.underlying62
  have hu70 := Try.underlying70
  have hu100 := Try.underlying100
  have HR0 := Aside0.mk hr0
  have HC0 := Aside0.mk hc0
  have HR1 := Aside0.mk hr1
  have HC1 := Aside0.mk hc1
  have HR2 := Aside0.mk hr2
  have HC2 := Aside0.mk hc2
  have HR3 := Aside0.mk hr3
  have HC3 := Aside0.mk hc3
  clear hr0 hc0 hr1 hc1 hr2 hc2 hr3 hc3
  have H1 := Aside0.mk hH1
  have H2 := Aside0.mk hH2
  have H3 := Aside0.mk hH3
  have H4 := Aside0.mk hH4
  have H5 := Aside0.mk hH5
  have H6 := Aside0.mk hH6
  have H7 := Aside0.mk hH7
  have H8 := Aside0.mk hH8
  have H9 := Aside0.mk hH9
  have H10 := Aside0.mk hH10
  have H11 := Aside0.mk hH11
  have H12 := Aside0.mk hH12
  have H13 := Aside0.mk hH13
  have H14 := Aside0.mk hH14
  have H15 := Aside0.mk hH15
  have H16 := Aside0.mk hH16
  have H17 := Aside0.mk hH17
  have H18 := Aside0.mk hH18
  clear hH1 hH2 hH3 hH4 hH5 hH6 hH7 hH8 hH9 hH10 hH11 hH12 hH13 hH14 hH15 hH16 hH17 hH18
  have S := Aside0.mk (St.start w)
  go_enter Try.func9, Try.ntmps9
  go_wp2_with (first
      | ((with_reducible refine gate_dst (N := 4) rfl ?_)
         refine box_event ?hg (N := 4) ?hd (cs := #[.slice A0 l0.length c0, .slice A1 l1.length c1]) (t := 95) ?hr ?_
         (case hd => rfl)
         (case hg => rfl)
         (case hr => first | (go_simp; done) | (go_simp; rfl) | (go_simp; exact ⟨rfl, rfl⟩))
         intro g1 hg w2 hbox hb
         replace S := Aside0.mk (S.out.box hg hbox hb)
         clear hg hbox hb)
      | ((with_reducible refine gate_dst (N := 7) rfl ?_)
         refine box_event ?hg (N := 7) ?hd (cs := #[.int .i64 a3_0, .slice A3 l3.length c3]) (t := 62) ?hr ?_
         (case hd => rfl)
         (case hg => rfl)
         (case hr => first | (go_simp; done) | (go_simp; rfl) | (go_simp; exact ⟨rfl, rfl⟩))
         intro g3 hg w4 hbox hb
         replace S := Aside0.mk (S.out.box hg hbox hb)
         clear hg hbox hb
         have kg1_0 : w4.cell? ⟨g1, 0, none⟩ = some (.slice A0 l0.length c0) := (blk_cell (S.out.blk 1 rfl) 0).trans rfl
         have kg1_1 : w4.cell? ⟨g1, 1, none⟩ = some (.slice A1 l1.length c1) := (blk_cell (S.out.blk 1 rfl) 1).trans rfl)
      | ((with_reducible refine gate_callee (f := 61) rfl ?_)
         (try clear kg1_0 kg1_1)
         refine goesL_ (some 27) rfl rfl Try.func61 (by kernel_rfl) rfl #[.agg #[.slice A0 l0.length c0, .slice A1 l1.length c1], .int .i64 1048576] rfl (by (try simp only [List.map_toArray, List.map_cons, List.map_nil]); first | done | rfl) ?_
         (with_reducible refine (laws_szMem.calls k A0 c0 l0 A1 c1 l1 1048576 _ _ (Kd.C_below HR0.out S.out.below) HC0.out (Kd.C_below HR1.out S.out.below) HC1.out H1.out).mono ?_)
         rintro e w5 ⟨rfl, hb⟩
         refine ⟨_, rfl, ?_⟩
         replace S := Aside0.mk (S.out.moved hb)
         clear hb)
      | ((with_reducible refine gate_callee (f := 62) rfl ?_)
         refine goesL_ (some 32) rfl rfl Try.func62 (by kernel_rfl) rfl #[.slice A2 l2.length c2, .int .i64 t0] rfl (by (try simp only [List.map_toArray, List.map_cons, List.map_nil]); first | done | rfl) ?_
         (with_reducible refine (laws_szEntryS.calls A2 c2 l2 t0 _ _ (Kd.C_below HR2.out S.out.below) HC2.out H2.out).mono ?_)
         rintro e w6 ⟨rfl, hb⟩
         replace hb : Below w5.heap.size w5 w6 := by obtain ⟨nd, rfl⟩ := hb; exact pw_below_drewN (Below.refl _ _) nd
         refine ⟨_, rfl, ?_⟩
         replace S := Aside0.mk (S.out.moved hb)
         clear hb
         have kg3_0 : w6.cell? ⟨g3, 0, none⟩ = some (.int .i64 a3_0) := (blk_cell (S.out.blk 0 rfl) 0).trans rfl
         have kg3_1 : w6.cell? ⟨g3, 1, none⟩ = some (.slice A3 l3.length c3) := (blk_cell (S.out.blk 0 rfl) 1).trans rfl)
      | ((with_reducible refine gate_callee (f := 33) rfl ?_)
         (try clear kg3_0 kg3_1)
         refine goesL_ (some 37) rfl rfl Try.func33 (by kernel_rfl) rfl #[.agg #[.int .i64 a3_0, .slice A3 l3.length c3], .int .i64 t1] rfl (by (try simp only [List.map_toArray, List.map_cons, List.map_nil]); first | done | rfl) ?_
         (with_reducible refine (laws_szRes.calls a3_0 A3 c3 l3 t1 _ _ (Kd.C_below HR3.out S.out.below) HC3.out H3.out).mono ?_)
         rintro e w7 ⟨rfl, hb⟩
         refine ⟨_, rfl, ?_⟩
         replace S := Aside0.mk (S.out.moved hb)
         clear hb
         have kg3_0 : w7.cell? ⟨g3, 0, none⟩ = some (.int .i64 a3_0) := (blk_cell (S.out.blk 0 rfl) 0).trans rfl
         have kg3_1 : w7.cell? ⟨g3, 1, none⟩ = some (.slice A3 l3.length c3) := (blk_cell (S.out.blk 0 rfl) 1).trans rfl
         have kg1_0 : w7.cell? ⟨g1, 0, none⟩ = some (.slice A0 l0.length c0) := (blk_cell (S.out.blk 1 rfl) 0).trans rfl
         have kg1_1 : w7.cell? ⟨g1, 1, none⟩ = some (.slice A1 l1.length c1) := (blk_cell (S.out.blk 1 rfl) 1).trans rfl))
  refine start_ (n := 17) (S := fun w' => St w w (fun _ => False) [hB g3 #[.int .i64 a3_0, .slice A3 l3.length c3] 62, hB g1 #[.slice A0 l0.length c0, .slice A1 l1.length c1] 95] w') (ds := []) #[false, false, false, false, false, false, false, false, false, false, false, false, false, false, false, false, false] (by kernel_rfl) rfl rfl (St.drew (S.out)) (fun hS_ => ?_)
  (try clear kg3_0 kg3_1 kg1_0 kg1_1)
  replace S := Aside0.mk S.out.drew
  clear hS_
  generalize w7.drew = w8 at S ⊢
  refine take_ (i := 0) (N := some 41) (v := .agg #[.slice A0 l0.length c0, .slice A1 l1.length c1]) (a' := ?at9) #[true, false, false, false, false, false, false, false, false, false, false, false, false, false, false, false, false] rfl rfl (by kernel_rfl) (fun _ _ _ h => h) (Or.inl ⟨by rfl, ?yt9⟩) (S.out) ?pt9 ?nt9
  case yt9 =>
    intro w' hS
    have kg1_0 : w'.cell? ⟨g1, 0, none⟩ = some (.slice A0 l0.length c0) := (blk_cell (hS.blk 1 rfl) 0).trans rfl
    have kg1_1 : w'.cell? ⟨g1, 1, none⟩ = some (.slice A1 l1.length c1) := (blk_cell (hS.blk 1 rfl) 1).trans rfl
    first | (go_simp; done) | (go_simp; rfl) | (go_simp; exact ⟨rfl, rfl⟩)
  case pt9 =>
    simp only [Act.put, List.setIfInBounds_toArray, List.set_cons_zero, List.set_cons_succ, i64_w, i32_w]
    rfl
  refine take_ (i := 2) (N := some 43) (v := .int .i64 a1) (a' := ?at10) #[true, false, true, false, false, false, false, false, false, false, false, false, false, false, false, false, false] rfl rfl (by kernel_rfl) (fun _ _ _ h => h) (Or.inl ⟨by rfl, ?yt10⟩) (S.out) ?pt10 ?nt10
  case yt10 =>
    intro w' hS
    first | (go_simp; done) | (go_simp; rfl) | (go_simp; exact ⟨rfl, rfl⟩)
  case pt10 =>
    simp only [Act.put, List.setIfInBounds_toArray, List.set_cons_zero, List.set_cons_succ, i64_w, i32_w]
    rfl
  refine take_ (i := 3) (N := some 44) (v := .slice A2 l2.length c2) (a' := ?at11) #[true, false, true, true, false, false, false, false, false, false, false, false, false, false, false, false, false] rfl rfl (by kernel_rfl) (fun _ _ _ h => h) (Or.inl ⟨by rfl, ?yt11⟩) (S.out) ?pt11 ?nt11
  case yt11 =>
    intro w' hS
    first | (go_simp; done) | (go_simp; rfl) | (go_simp; exact ⟨rfl, rfl⟩)
  case pt11 =>
    simp only [Act.put, List.setIfInBounds_toArray, List.set_cons_zero, List.set_cons_succ, i64_w, i32_w]
    rfl
  refine take_ (i := 5) (N := some 46) (v := .agg #[.int .i64 a3_0, .slice A3 l3.length c3]) (a' := ?at12) #[true, false, true, true, false, true, false, false, false, false, false, false, false, false, false, false, false] rfl rfl (by kernel_rfl) (fun _ _ _ h => h) (Or.inl ⟨by rfl, ?yt12⟩) (S.out) ?pt12 ?nt12
  case yt12 =>
    intro w' hS
    have kg3_0 : w'.cell? ⟨g3, 0, none⟩ = some (.int .i64 a3_0) := (blk_cell (hS.blk 0 rfl) 0).trans rfl
    have kg3_1 : w'.cell? ⟨g3, 1, none⟩ = some (.slice A3 l3.length c3) := (blk_cell (hS.blk 0 rfl) 1).trans rfl
    first | (go_simp; done) | (go_simp; rfl) | (go_simp; exact ⟨rfl, rfl⟩)
  case pt12 =>
    simp only [Act.put, List.setIfInBounds_toArray, List.set_cons_zero, List.set_cons_succ, i64_w, i32_w]
    rfl
  refine dag_ (L := [hB g3 #[.int .i64 a3_0, .slice A3 l3.length c3] 62, hB g1 #[.slice A0 l0.length c0, .slice A1 l1.length c1] 95]) [{ i := 1, ext := [], c := 0, prev := none, pre := [], know := [], use := [1], G := fun u => hEx fun v0_ : Value => hEx fun v1_ : Value => hAnd (u 1 = .agg #[v0_, v1_]) (hM w.heap.size v0_ v1_ ws ds) }, { i := 4, ext := [], c := 1, prev := none, pre := [1], know := [], use := [4], G := fun u => hEx fun v0_ : Value => hAnd (u 4 = v0_) (hR k166 166 w.heap.size v0_ es) }, { i := 6, ext := [], c := 2, prev := none, pre := [1, 4], know := [], use := [6], G := fun u => hEx fun v1_ : Value => hAnd (u 6 = .agg #[.int .i64 a3_0, v1_]) (hR (Kd.int .i64) 3 w.heap.size v1_ rs) }, { i := 7, ext := [8, 9, 10, 11], c := 3, prev := none, pre := [1, 4, 6], know := [1, 4, 6], use := [7], G := fun u => hEx fun v0_ : Value => hEx fun v1_ : Value => hAnd (u 7 = .tuple #[.agg #[v0_, v1_], .agg #[.int .i64 h0, .int .i64 h1, .int .i64 h2, .int .i64 h3], .bool b]) (hM w.heap.size v0_ v1_ rw rd) }, { i := 12, ext := [], c := 4, prev := none, pre := [], know := [], use := [12], G := fun u => hEx fun g : Nat => hAnd (u 12 = .pointer (some ⟨g, 0, none⟩)) (hB g #[.slice none 0 0, .slice none 0 0] 88) }, { i := 13, ext := [], c := 5, prev := none, pre := [], know := [], use := [13], G := fun u => hEx fun g : Nat => hAnd (u 13 = .pointer (some ⟨g, 0, none⟩)) (hB g #[.int .i64 0, .int .i64 0, .int .i64 0, .int .i64 0] 100) }] (fun _ => hE) 6 (fun u => { tmps := #[.agg #[.slice A0 l0.length c0, .slice A1 l1.length c1], .int .i64 a1, .slice A2 l2.length c2, .agg #[.int .i64 a3_0, .slice A3 l3.length c3], .pointer (some ⟨g1, 0, none⟩), undef, undef, .pointer (some ⟨g3, 0, none⟩), .bool false, .int .i64 t2, (u 12), (u 13), undef, undef, undef, undef, undef, undef, undef, undef, undef, undef, undef, undef, undef, .agg #[.slice A0 l0.length c0, .slice A1 l1.length c1], .int .i64 1048576, .int .i64 t0, .int .i64 t0, .bool false, .slice A2 l2.length c2, .int .i64 t0, .int .i64 t1, .int .i64 t1, .bool false, .agg #[.int .i64 a3_0, .slice A3 l3.length c3], .int .i64 t1, .int .i64 t2, .int .i64 t2, .bool false, (u 7), .agg #[.slice A0 l0.length c0, .slice A1 l1.length c1], (u 1), .int .i64 a1, .slice A2 l2.length c2, (u 4), .agg #[.int .i64 a3_0, .slice A3 l3.length c3], (u 6), (u 7), (tupAt (u 7) 0), (tupAt (u 7) 1), (tupAt (u 7) 2), undef, undef, undef, undef, undef, undef, undef, undef, undef, undef, undef, undef, undef, undef, undef, undef, undef, undef, undef, undef, undef, undef, undef, undef, undef, undef, undef, undef, undef, undef, undef, undef, undef, undef, undef, undef, undef, undef, undef, undef, undef, undef, undef, undef, undef, undef, undef, undef, undef, undef, undef, undef, undef, undef, undef, undef, undef, undef, undef, undef, undef, undef, undef, undef, undef, undef, undef, undef, undef, undef, undef, undef, undef, undef, undef, undef, undef, undef, undef, undef, undef, undef, undef, undef, undef, undef, undef, undef, undef, undef, undef, undef, undef, undef, undef, undef, undef, undef, undef, undef, undef, undef, undef, undef, undef, undef, undef, undef, undef, undef, undef, undef, undef, undef, undef, undef, undef, undef, undef], defers := [] }) ?sq14 #[true, false, true, true, false, true, false, false, false, false, false, false, false, false, false, false, false] #[true, true, true, true, true, true, true, true, true, true, true, true, true, true, false, false, false] (by kernel_rfl) ?gq14 ?eq14 3 _ rfl (fun _ => undef) _ (S.out.addE.addE.addE.addE.addE.addE) ?lq14
  case sq14 =>
    intro L' w' h
    exact (h.drops L')
  case gq14 =>
    intro e he u i v hi
    simp only [List.mem_cons, List.not_mem_nil, or_false] at he
    rcases he with rfl | rfl | rfl | rfl | rfl | rfl
    · show (fun (u : Nat → Value) => (hEx fun v0_ : Value => hEx fun v1_ : Value => hAnd (u 1 = .agg #[v0_, v1_]) (hM w.heap.size v0_ v1_ ws ds) : HP)) (upds u i v) = (fun (u : Nat → Value) => (hEx fun v0_ : Value => hEx fun v1_ : Value => hAnd (u 1 = .agg #[v0_, v1_]) (hM w.heap.size v0_ v1_ ws ds) : HP)) u
      simp only [upds_ne (j := 1) hi (by rfl)]
    · show (fun (u : Nat → Value) => (hEx fun v0_ : Value => hAnd (u 4 = v0_) (hR k166 166 w.heap.size v0_ es) : HP)) (upds u i v) = (fun (u : Nat → Value) => (hEx fun v0_ : Value => hAnd (u 4 = v0_) (hR k166 166 w.heap.size v0_ es) : HP)) u
      simp only [upds_ne (j := 4) hi (by rfl)]
    · show (fun (u : Nat → Value) => (hEx fun v1_ : Value => hAnd (u 6 = .agg #[.int .i64 a3_0, v1_]) (hR (Kd.int .i64) 3 w.heap.size v1_ rs) : HP)) (upds u i v) = (fun (u : Nat → Value) => (hEx fun v1_ : Value => hAnd (u 6 = .agg #[.int .i64 a3_0, v1_]) (hR (Kd.int .i64) 3 w.heap.size v1_ rs) : HP)) u
      simp only [upds_ne (j := 6) hi (by rfl)]
    · show (fun (u : Nat → Value) => (hEx fun v0_ : Value => hEx fun v1_ : Value => hAnd (u 7 = .tuple #[.agg #[v0_, v1_], .agg #[.int .i64 h0, .int .i64 h1, .int .i64 h2, .int .i64 h3], .bool b]) (hM w.heap.size v0_ v1_ rw rd) : HP)) (upds u i v) = (fun (u : Nat → Value) => (hEx fun v0_ : Value => hEx fun v1_ : Value => hAnd (u 7 = .tuple #[.agg #[v0_, v1_], .agg #[.int .i64 h0, .int .i64 h1, .int .i64 h2, .int .i64 h3], .bool b]) (hM w.heap.size v0_ v1_ rw rd) : HP)) u
      simp only [upds_ne (j := 7) hi (by rfl)]
    · show (fun (u : Nat → Value) => (hEx fun g : Nat => hAnd (u 12 = .pointer (some ⟨g, 0, none⟩)) (hB g #[.slice none 0 0, .slice none 0 0] 88) : HP)) (upds u i v) = (fun (u : Nat → Value) => (hEx fun g : Nat => hAnd (u 12 = .pointer (some ⟨g, 0, none⟩)) (hB g #[.slice none 0 0, .slice none 0 0] 88) : HP)) u
      simp only [upds_ne (j := 12) hi (by rfl)]
    · show (fun (u : Nat → Value) => (hEx fun g : Nat => hAnd (u 13 = .pointer (some ⟨g, 0, none⟩)) (hB g #[.int .i64 0, .int .i64 0, .int .i64 0, .int .i64 0] 100) : HP)) (upds u i v) = (fun (u : Nat → Value) => (hEx fun g : Nat => hAnd (u 13 = .pointer (some ⟨g, 0, none⟩)) (hB g #[.int .i64 0, .int .i64 0, .int .i64 0, .int .i64 0] 100) : HP)) u
      simp only [upds_ne (j := 13) hi (by rfl)]
  case eq14 =>
    intro e he
    simp only [List.mem_cons, List.not_mem_nil, or_false] at he
    rcases he with rfl | rfl | rfl | rfl | rfl | rfl
    · refine ⟨_, rfl, fun u w' LL l fuel hst hL hk hx K hK => ?_⟩
      replace hst : St w w (fun _ => False) ((hE) :: LL) w' := hst
      refine goes_ Try.func64 (by kernel_rfl) rfl #[.agg #[.slice A0 l0.length c0, .slice A1 l1.length c1]] (by rfl) rfl rfl (by (try simp only [List.map_toArray, List.map_cons, List.map_nil]); first | done | rfl | (show (#[.agg #[.slice A0 l0.length c0, .slice A1 l1.length c1]] : Array Value) = _; (try rw [hst]) <;> rfl)) ?_
      (with_reducible refine (laws_toMem.calls k A0 c0 l0 A1 c1 l1 _ _ _ (Kd.C_below HR0.out hst.below) HC0.out (Kd.C_below HR1.out hst.below) HC1.out H4.out).mono ?_)
      rintro e w2_ ⟨z0_, z1_, rfl, h0_, h1_, hb⟩
      refine ⟨_, rfl, ?_⟩
      refine hK _ _ _ ((hst.drop.madeM h0_ h1_ hb).weaken (fun D W h => ⟨z0_, z1_, rfl, h⟩)) (fun hW => ?_)
      exact hW
    · refine ⟨_, rfl, fun u w' LL l fuel hst hL hk hx K hK => ?_⟩
      replace hst : St w w (fun _ => False) ((hE) :: LL) w' := hst
      refine goes_ Try.func65 (by kernel_rfl) rfl #[.slice A2 l2.length c2] (by rfl) rfl rfl (by (try simp only [List.map_toArray, List.map_cons, List.map_nil]); first | done | rfl | (show (#[.slice A2 l2.length c2] : Array Value) = _; (try rw [hst]) <;> rfl)) ?_
      (with_reducible refine (laws_toEntryS.calls k A2 c2 l2 _ _ (Kd.C_below HR2.out hst.below) HC2.out H5.out).mono ?_)
      rintro e w2_ ⟨z0_, rfl, h0_, hb⟩
      refine ⟨_, rfl, ?_⟩
      refine hK _ _ _ ((hst.drop.madeR h0_ hb).weaken (fun D W h => ⟨z0_, rfl, h⟩)) (fun hW => ?_)
      exact hW
    · refine ⟨_, rfl, fun u w' LL l fuel hst hL hk hx K hK => ?_⟩
      replace hst : St w w (fun _ => False) ((hE) :: LL) w' := hst
      refine goes_ Try.func37 (by kernel_rfl) rfl #[.agg #[.int .i64 a3_0, .slice A3 l3.length c3]] (by rfl) rfl rfl (by (try simp only [List.map_toArray, List.map_cons, List.map_nil]); first | done | rfl | (show (#[.agg #[.int .i64 a3_0, .slice A3 l3.length c3]] : Array Value) = _; (try rw [hst]) <;> rfl)) ?_
      (with_reducible refine (laws_toRes.calls k a3_0 A3 c3 l3 _ _ _ (Kd.C_below HR3.out hst.below) HC3.out H6.out).mono ?_)
      rintro e w2_ ⟨z0_, rfl, h0_, hb⟩
      refine ⟨_, rfl, ?_⟩
      refine hK _ _ _ ((hst.drop.madeR h0_ hb).weaken (fun D W h => ⟨z0_, rfl, h⟩)) (fun hW => ?_)
      exact hW
    · refine ⟨_, rfl, fun u w' LL l fuel hst hL hk hx K hK => ?_⟩
      replace hst : St w w (fun _ => False) ((hE) :: LL) w' := hst
      obtain ⟨D1, hD1⟩ := hst.mem (List.mem_cons_of_mem _ (hk 1 (show 1 ∈ [1, 4, 6] from by decide)))
      obtain ⟨v1_0, v1_1, y1, hD1⟩ := (show (hEx fun v0_ : Value => hEx fun v1_ : Value => hAnd (u 1 = .agg #[v0_, v1_]) (hM w.heap.size v0_ v1_ ws ds)) D1 w' from hD1)
      obtain ⟨A1_0, c1_0, A1_1, c1_1, rfl, rfl⟩ := M_forms hD1
      obtain ⟨D4, hD4⟩ := hst.mem (List.mem_cons_of_mem _ (hk 4 (show 4 ∈ [1, 4, 6] from by decide)))
      obtain ⟨v4_0, y4, hD4⟩ := (show (hEx fun v0_ : Value => hAnd (u 4 = v0_) (hR k166 166 w.heap.size v0_ es)) D4 w' from hD4)
      obtain ⟨A4_0, c4_0, rfl⟩ := Kd.R_slice (hR_out hD4)
      obtain ⟨D6, hD6⟩ := hst.mem (List.mem_cons_of_mem _ (hk 6 (show 6 ∈ [1, 4, 6] from by decide)))
      obtain ⟨v6_0, y6, hD6⟩ := (show (hEx fun v1_ : Value => hAnd (u 6 = .agg #[.int .i64 a3_0, v1_]) (hR (Kd.int .i64) 3 w.heap.size v1_ rs)) D6 w' from hD6)
      obtain ⟨A6_0, c6_0, rfl⟩ := Kd.R_slice (hR_out hD6)
      refine goes_ Try.func63 (by kernel_rfl) rfl #[.agg #[.slice A1_0 ws.length c1_0, .slice A1_1 ds.length c1_1], .int .i64 a1, .slice A4_0 es.length c4_0, .agg #[.int .i64 a3_0, .slice A6_0 rs.length c6_0]] (by rfl) rfl rfl (by (try simp only [List.map_toArray, List.map_cons, List.map_nil]); first | done | rfl | (show (#[u 1, .int .i64 a1, u 4, u 6] : Array Value) = _; (try rw [y1, y4, y6]) <;> rfl)) ?_
      (with_reducible refine (spec_Begin.calls k A1_0 c1_0 ws A1_1 c1_1 ds a1 A4_0 c4_0 es a3_0 A6_0 c6_0 rs _ _ _ _ _ _ _ _ (M_read0 hD1).2.2 (M_read0 hD1).2.1 (M_read1 hD1).2.2 (M_read1 hD1).2.1 (Kd.R_reads' (hR_out hD4)).2.2 (Kd.R_reads' (hR_out hD4)).2.1 (Kd.R_reads' (hR_out hD6)).2.2 (Kd.R_reads' (hR_out hD6)).2.1 H7.out).mono ?_)
      rintro e w2_ ⟨z0_, z1_, rfl, h0_, h1_, hb⟩
      refine ⟨_, rfl, ?_⟩
      refine hK _ _ _ ((hst.drop.madeM h0_ h1_ hb).weaken (fun D W h => ⟨z0_, z1_, rfl, h⟩)) (fun hW => ?_)
      obtain ⟨hx0_, hx⟩ := Bool.and_eq_true_iff.mp (show (_ && _) = true from hx)
      refine pure_ (i := 8) (N := some 40) _ rfl rfl hx0_ (fun _ _ _ h => h) (Or.inl ⟨by rfl, fun w => by rfl⟩) rfl ?_
      obtain ⟨hx1_, hx⟩ := Bool.and_eq_true_iff.mp (show (_ && _) = true from hx)
      refine pure_ (i := 9) (N := some 49) _ rfl rfl hx1_ (fun _ _ _ h => h) (Or.inl ⟨by rfl, fun w => by rfl⟩) rfl ?_
      obtain ⟨hx2_, hx⟩ := Bool.and_eq_true_iff.mp (show (_ && _) = true from hx)
      refine pure_ (i := 10) (N := some 50) _ rfl rfl hx2_ (fun _ _ _ h => h) (Or.inl ⟨by rfl, fun w => by rfl⟩) rfl ?_
      obtain ⟨hx3_, hx⟩ := Bool.and_eq_true_iff.mp (show (_ && _) = true from hx)
      refine pure_ (i := 11) (N := some 51) _ rfl rfl hx3_ (fun _ _ _ h => h) (Or.inl ⟨by rfl, fun w => by rfl⟩) rfl ?_
      exact hW
    · refine ⟨_, rfl, fun u w' LL l fuel hst hL hk hx K hK => ?_⟩
      replace hst : St w w (fun _ => False) ((hE) :: LL) w' := hst
      refine value_ (N := some 10) (v := .pointer (some ⟨w'.heap.size, 0, none⟩)) (w1 := w'.alloc (.cells #[.slice none 0 0, .slice none 0 0] 88 (0, 0))) (by rfl) rfl (by first | (go_simp; done) | (go_simp; rfl) | (go_simp; exact ⟨rfl, rfl⟩)) ?_
      refine hK _ _ _ ((hst.drop.box rfl (blk_new _ _) (below_alloc (Below.refl _ _) _)).weaken (fun D W h => ⟨_, rfl, h⟩)) (fun hW => ?_)
      exact hW
    · refine ⟨_, rfl, fun u w' LL l fuel hst hL hk hx K hK => ?_⟩
      replace hst : St w w (fun _ => False) ((hE) :: LL) w' := hst
      refine value_ (N := some 11) (v := .pointer (some ⟨w'.heap.size, 0, none⟩)) (w1 := w'.alloc (.cells #[.int .i64 0, .int .i64 0, .int .i64 0, .int .i64 0] 100 (0, 0))) (by rfl) rfl (by first | (go_simp; done) | (go_simp; rfl) | (go_simp; exact ⟨rfl, rfl⟩)) ?_
      refine hK _ _ _ ((hst.drop.box rfl (blk_new _ _) (below_alloc (Below.refl _ _) _)).weaken (fun D W h => ⟨_, rfl, h⟩)) (fun hW => ?_)
      exact hW
  intro u w15 hS_
  replace S := Aside0.mk (show St w w (fun _ => False) ((hEx fun v0_ : Value => hEx fun v1_ : Value => hAnd (u 1 = .agg #[v0_, v1_]) (hM w.heap.size v0_ v1_ ws ds)) :: (hEx fun v0_ : Value => hAnd (u 4 = v0_) (hR k166 166 w.heap.size v0_ es)) :: (hEx fun v1_ : Value => hAnd (u 6 = .agg #[.int .i64 a3_0, v1_]) (hR (Kd.int .i64) 3 w.heap.size v1_ rs)) :: (hEx fun v0_ : Value => hEx fun v1_ : Value => hAnd (u 7 = .tuple #[.agg #[v0_, v1_], .agg #[.int .i64 h0, .int .i64 h1, .int .i64 h2, .int .i64 h3], .bool b]) (hM w.heap.size v0_ v1_ rw rd)) :: (hEx fun g : Nat => hAnd (u 12 = .pointer (some ⟨g, 0, none⟩)) (hB g #[.slice none 0 0, .slice none 0 0] 88)) :: (hEx fun g : Nat => hAnd (u 13 = .pointer (some ⟨g, 0, none⟩)) (hB g #[.int .i64 0, .int .i64 0, .int .i64 0, .int .i64 0] 100)) :: [hB g3 #[.int .i64 a3_0, .slice A3 l3.length c3] 62, hB g1 #[.slice A0 l0.length c0, .slice A1 l1.length c1] 95]) w15 from hS_)
  clear hS_
  have h16 := S.out.bring 0 rfl
  obtain ⟨v17, h16⟩ := h16.open_ex (fun _ => (cl_ex fun _ => (cl_and (cl_M _ _ _ _ _))))
  obtain ⟨v18, h16⟩ := h16.open_ex (fun _ => (cl_and (cl_M _ _ _ _ _)))
  obtain ⟨y19, h16⟩ := h16.open_and (cl_M _ _ _ _ _)
  obtain ⟨D_, hD_⟩ := h16.nth 0 rfl
  obtain ⟨A20, c21, A22, c23, rfl, rfl⟩ := M_forms hD_
  clear hD_ D_
  replace S := Aside0.mk h16
  clear h16
  obtain ⟨x24, hx24⟩ : ∃ x_, u 1 = x_ := ⟨_, rfl⟩
  (try rw [hx24] at S)
  rw [hx24] at y19
  subst y19
  (try rw [hx24])
  have h25 := S.out.bring 1 rfl
  obtain ⟨v26, h25⟩ := h25.open_ex (fun _ => (cl_and (cl_R _ _ _ _ _)))
  obtain ⟨y27, h25⟩ := h25.open_and (cl_R _ _ _ _ _)
  obtain ⟨D_, hD_⟩ := h25.nth 0 rfl
  obtain ⟨A28, c29, rfl⟩ := Kd.R_slice (hR_out hD_)
  clear hD_ D_
  replace S := Aside0.mk h25
  clear h25
  obtain ⟨x30, hx30⟩ : ∃ x_, u 4 = x_ := ⟨_, rfl⟩
  (try rw [hx30] at S)
  rw [hx30] at y27
  subst y27
  (try rw [hx30])
  have h31 := S.out.bring 2 rfl
  obtain ⟨v32, h31⟩ := h31.open_ex (fun _ => (cl_and (cl_R _ _ _ _ _)))
  obtain ⟨y33, h31⟩ := h31.open_and (cl_R _ _ _ _ _)
  obtain ⟨D_, hD_⟩ := h31.nth 0 rfl
  obtain ⟨A34, c35, rfl⟩ := Kd.R_slice (hR_out hD_)
  clear hD_ D_
  replace S := Aside0.mk h31
  clear h31
  obtain ⟨x36, hx36⟩ : ∃ x_, u 6 = x_ := ⟨_, rfl⟩
  (try rw [hx36] at S)
  rw [hx36] at y33
  subst y33
  (try rw [hx36])
  have h37 := S.out.bring 3 rfl
  obtain ⟨v38, h37⟩ := h37.open_ex (fun _ => (cl_ex fun _ => (cl_and (cl_M _ _ _ _ _))))
  obtain ⟨v39, h37⟩ := h37.open_ex (fun _ => (cl_and (cl_M _ _ _ _ _)))
  obtain ⟨y40, h37⟩ := h37.open_and (cl_M _ _ _ _ _)
  obtain ⟨D_, hD_⟩ := h37.nth 0 rfl
  obtain ⟨A41, c42, A43, c44, rfl, rfl⟩ := M_forms hD_
  clear hD_ D_
  replace S := Aside0.mk h37
  clear h37
  obtain ⟨x45, hx45⟩ : ∃ x_, u 7 = x_ := ⟨_, rfl⟩
  (try rw [hx45] at S)
  rw [hx45] at y40
  subst y40
  (try rw [hx45])
  have h46 := S.out.bring 4 rfl
  obtain ⟨g47, h46⟩ := h46.open_ex (fun _ => cl_and (cl_B _ _ _))
  obtain ⟨y48, h46⟩ := h46.open_and (cl_B _ _ _)
  replace S := Aside0.mk h46
  clear h46
  obtain ⟨x49, hx49⟩ : ∃ x_, u 12 = x_ := ⟨_, rfl⟩
  (try rw [hx49] at S)
  rw [hx49] at y48
  subst y48
  (try rw [hx49])
  have h50 := S.out.bring 5 rfl
  obtain ⟨g51, h50⟩ := h50.open_ex (fun _ => cl_and (cl_B _ _ _))
  obtain ⟨y52, h50⟩ := h50.open_and (cl_B _ _ _)
  replace S := Aside0.mk h50
  clear h50
  obtain ⟨x53, hx53⟩ : ∃ x_, u 13 = x_ := ⟨_, rfl⟩
  (try rw [hx53] at S)
  rw [hx53] at y52
  subst y52
  (try rw [hx53])
  replace S : Aside0 (St w w (fun _ => False) [hB g51 #[.int .i64 0, .int .i64 0, .int .i64 0, .int .i64 0] 100, hB g47 #[.slice none 0 0, .slice none 0 0] 88, hM w.heap.size (.slice A41 rw.length c42) (.slice A43 rd.length c44) rw rd, hR (Kd.int .i64) 3 w.heap.size (.slice A34 rs.length c35) rs, hR k166 166 w.heap.size (.slice A28 es.length c29) es, hM w.heap.size (.slice A20 ws.length c21) (.slice A22 ds.length c23) ws ds, hB g3 #[.int .i64 a3_0, .slice A3 l3.length c3] 62, hB g1 #[.slice A0 l0.length c0, .slice A1 l1.length c1] 95] _) := S
  refine norm_ (a' := { tmps := #[.agg #[.slice A0 l0.length c0, .slice A1 l1.length c1], .int .i64 a1, .slice A2 l2.length c2, .agg #[.int .i64 a3_0, .slice A3 l3.length c3], .pointer (some ⟨g1, 0, none⟩), undef, undef, .pointer (some ⟨g3, 0, none⟩), .bool false, .int .i64 t2, .pointer (some ⟨g47, 0, none⟩), .pointer (some ⟨g51, 0, none⟩), undef, undef, undef, undef, undef, undef, undef, undef, undef, undef, undef, undef, undef, .agg #[.slice A0 l0.length c0, .slice A1 l1.length c1], .int .i64 1048576, .int .i64 t0, .int .i64 t0, .bool false, .slice A2 l2.length c2, .int .i64 t0, .int .i64 t1, .int .i64 t1, .bool false, .agg #[.int .i64 a3_0, .slice A3 l3.length c3], .int .i64 t1, .int .i64 t2, .int .i64 t2, .bool false, .tuple #[.agg #[.slice A41 rw.length c42, .slice A43 rd.length c44], .agg #[.int .i64 h0, .int .i64 h1, .int .i64 h2, .int .i64 h3], .bool b], .agg #[.slice A0 l0.length c0, .slice A1 l1.length c1], .agg #[.slice A20 ws.length c21, .slice A22 ds.length c23], .int .i64 a1, .slice A2 l2.length c2, .slice A28 es.length c29, .agg #[.int .i64 a3_0, .slice A3 l3.length c3], .agg #[.int .i64 a3_0, .slice A34 rs.length c35], .tuple #[.agg #[.slice A41 rw.length c42, .slice A43 rd.length c44], .agg #[.int .i64 h0, .int .i64 h1, .int .i64 h2, .int .i64 h3], .bool b], .agg #[.slice A41 rw.length c42, .slice A43 rd.length c44], .agg #[.int .i64 h0, .int .i64 h1, .int .i64 h2, .int .i64 h3], .bool b, undef, undef, undef, undef, undef, undef, undef, undef, undef, undef, undef, undef, undef, undef, undef, undef, undef, undef, undef, undef, undef, undef, undef, undef, undef, undef, undef, undef, undef, undef, undef, undef, undef, undef, undef, undef, undef, undef, undef, undef, undef, undef, undef, undef, undef, undef, undef, undef, undef, undef, undef, undef, undef, undef, undef, undef, undef, undef, undef, undef, undef, undef, undef, undef, undef, undef, undef, undef, undef, undef, undef, undef, undef, undef, undef, undef, undef, undef, undef, undef, undef, undef, undef, undef, undef, undef, undef, undef, undef, undef, undef, undef, undef, undef, undef, undef, undef, undef, undef, undef, undef, undef, undef, undef, undef, undef, undef, undef, undef, undef, undef, undef, undef, undef, undef, undef, undef, undef, undef], defers := [] }) (by first | rfl | (simp only [tupAt]; rfl)) ?_
  refine one_ (i := 14) (N := none) #[true, true, true, true, true, true, true, true, true, true, true, true, true, true, true, false, false] rfl rfl (by kernel_rfl) (by decide) (fun K hK => ?_)
  replace S := Aside0.mk (show St w w (fun _ => False) [hB g47 #[.slice none 0 0, .slice none 0 0] 88, hB g51 #[.int .i64 0, .int .i64 0, .int .i64 0, .int .i64 0] 100, hM w.heap.size (.slice A41 rw.length c42) (.slice A43 rd.length c44) rw rd, hR (Kd.int .i64) 3 w.heap.size (.slice A34 rs.length c35) rs, hR k166 166 w.heap.size (.slice A28 es.length c29) es, hM w.heap.size (.slice A20 ws.length c21) (.slice A22 ds.length c23) ws ds, hB g3 #[.int .i64 a3_0, .slice A3 l3.length c3] 62, hB g1 #[.slice A0 l0.length c0, .slice A1 l1.length c1] 95] _ from S.out.bring 1 rfl)
  have kg47_0 : w15.cell? ⟨g47, 0, none⟩ = some (.slice none 0 0) := (blk_cell (S.out.blk 0 rfl) 0).trans rfl
  have zg47_0 := blk_frozen (S.out.blk 0 rfl) 0
  have kg47_1 : w15.cell? ⟨g47, 1, none⟩ = some (.slice none 0 0) := (blk_cell (S.out.blk 0 rfl) 1).trans rfl
  have zg47_1 := blk_frozen (S.out.blk 0 rfl) 1
  refine skip_ (w1 := ((w15.setCell ⟨g47, 0, none⟩ (.slice A41 rw.length c42)).setCell ⟨g47, 1, none⟩ (.slice A43 rd.length c44))) (by rfl) rfl (by first | (go_simp; done) | (go_simp; rfl) | (go_simp; exact ⟨rfl, rfl⟩)) ?_
  clear kg47_0 zg47_0 kg47_1 zg47_1
  obtain ⟨w54, hw_⟩ : ∃ x_, x_ = ((w15.setCell ⟨g47, 0, none⟩ (.slice A41 rw.length c42)).setCell ⟨g47, 1, none⟩ (.slice A43 rd.length c44)) := ⟨_, rfl⟩
  rw [← hw_]
  replace S : Aside0 (St w w (fun _ => False) [hB g47 #[.slice A41 rw.length c42, .slice A43 rd.length c44] 88, hB g51 #[.int .i64 0, .int .i64 0, .int .i64 0, .int .i64 0] 100, hM w.heap.size (.slice A41 rw.length c42) (.slice A43 rd.length c44) rw rd, hR (Kd.int .i64) 3 w.heap.size (.slice A34 rs.length c35) rs, hR k166 166 w.heap.size (.slice A28 es.length c29) es, hM w.heap.size (.slice A20 ws.length c21) (.slice A22 ds.length c23) ws ds, hB g3 #[.int .i64 a3_0, .slice A3 l3.length c3] 62, hB g1 #[.slice A0 l0.length c0, .slice A1 l1.length c1] 95] w54) := Aside0.mk (by rw [hw_]; exact ((S.out.put 0 (.slice A41 rw.length c42) rfl).put 1 (.slice A43 rd.length c44) rfl))
  clear hw_
  refine hK _ _ (S.out.drop.drop.drop.drop.drop.drop) (fun _ => ?_)
  refine one_ (i := 15) (N := none) #[true, true, true, true, true, true, true, true, true, true, true, true, true, true, true, true, false] rfl rfl (by kernel_rfl) (by decide) (fun K hK => ?_)
  replace S := Aside0.mk (show St w w (fun _ => False) [hB g51 #[.int .i64 0, .int .i64 0, .int .i64 0, .int .i64 0] 100, hB g47 #[.slice A41 rw.length c42, .slice A43 rd.length c44] 88, hM w.heap.size (.slice A41 rw.length c42) (.slice A43 rd.length c44) rw rd, hR (Kd.int .i64) 3 w.heap.size (.slice A34 rs.length c35) rs, hR k166 166 w.heap.size (.slice A28 es.length c29) es, hM w.heap.size (.slice A20 ws.length c21) (.slice A22 ds.length c23) ws ds, hB g3 #[.int .i64 a3_0, .slice A3 l3.length c3] 62, hB g1 #[.slice A0 l0.length c0, .slice A1 l1.length c1] 95] _ from S.out.bring 1 rfl)
  have kg51_0 : w54.cell? ⟨g51, 0, none⟩ = some (.int .i64 0) := (blk_cell (S.out.blk 0 rfl) 0).trans rfl
  have zg51_0 := blk_frozen (S.out.blk 0 rfl) 0
  have kg51_1 : w54.cell? ⟨g51, 1, none⟩ = some (.int .i64 0) := (blk_cell (S.out.blk 0 rfl) 1).trans rfl
  have zg51_1 := blk_frozen (S.out.blk 0 rfl) 1
  have kg51_2 : w54.cell? ⟨g51, 2, none⟩ = some (.int .i64 0) := (blk_cell (S.out.blk 0 rfl) 2).trans rfl
  have zg51_2 := blk_frozen (S.out.blk 0 rfl) 2
  have kg51_3 : w54.cell? ⟨g51, 3, none⟩ = some (.int .i64 0) := (blk_cell (S.out.blk 0 rfl) 3).trans rfl
  have zg51_3 := blk_frozen (S.out.blk 0 rfl) 3
  refine skip_ (w1 := ((((w54.setCell ⟨g51, 0, none⟩ (.int .i64 h0)).setCell ⟨g51, 1, none⟩ (.int .i64 h1)).setCell ⟨g51, 2, none⟩ (.int .i64 h2)).setCell ⟨g51, 3, none⟩ (.int .i64 h3))) (by rfl) rfl (by first | (go_simp; done) | (go_simp; rfl) | (go_simp; exact ⟨rfl, rfl⟩)) ?_
  clear kg51_0 zg51_0 kg51_1 zg51_1 kg51_2 zg51_2 kg51_3 zg51_3
  obtain ⟨w55, hw_⟩ : ∃ x_, x_ = ((((w54.setCell ⟨g51, 0, none⟩ (.int .i64 h0)).setCell ⟨g51, 1, none⟩ (.int .i64 h1)).setCell ⟨g51, 2, none⟩ (.int .i64 h2)).setCell ⟨g51, 3, none⟩ (.int .i64 h3)) := ⟨_, rfl⟩
  rw [← hw_]
  replace S : Aside0 (St w w (fun _ => False) [hB g51 #[.int .i64 h0, .int .i64 h1, .int .i64 h2, .int .i64 h3] 100, hB g47 #[.slice A41 rw.length c42, .slice A43 rd.length c44] 88, hM w.heap.size (.slice A41 rw.length c42) (.slice A43 rd.length c44) rw rd, hR (Kd.int .i64) 3 w.heap.size (.slice A34 rs.length c35) rs, hR k166 166 w.heap.size (.slice A28 es.length c29) es, hM w.heap.size (.slice A20 ws.length c21) (.slice A22 ds.length c23) ws ds, hB g3 #[.int .i64 a3_0, .slice A3 l3.length c3] 62, hB g1 #[.slice A0 l0.length c0, .slice A1 l1.length c1] 95] w55) := Aside0.mk (by rw [hw_]; exact ((((S.out.put 0 (.int .i64 h0) rfl).put 1 (.int .i64 h1) rfl).put 2 (.int .i64 h2) rfl).put 3 (.int .i64 h3) rfl))
  clear hw_
  refine hK _ _ (S.out.drop.drop.drop.drop.drop.drop) (fun _ => ?_)
  refine take_ (i := 16) (N := some 12) (v := .bool b) (a' := ?at56) #[true, true, true, true, true, true, true, true, true, true, true, true, true, true, true, true, true] rfl rfl (by kernel_rfl) (fun _ _ _ h => h) (Or.inl ⟨by rfl, ?yt56⟩) (S.out.drop.drop.drop.drop.drop.drop) ?pt56 ?nt56
  case yt56 =>
    intro w' hS
    first | (go_simp; done) | (go_simp; rfl) | (go_simp; exact ⟨rfl, rfl⟩)
  case pt56 =>
    simp only [Act.put, List.setIfInBounds_toArray, List.set_cons_zero, List.set_cons_succ, i64_w, i32_w]
    rfl
  refine done_ (by kernel_rfl) ?_
  have kg1_0 : w55.cell? ⟨g1, 0, none⟩ = some (.slice A0 l0.length c0) := (blk_cell (S.out.blk 7 rfl) 0).trans rfl
  have kg1_1 : w55.cell? ⟨g1, 1, none⟩ = some (.slice A1 l1.length c1) := (blk_cell (S.out.blk 7 rfl) 1).trans rfl
  go_wp2_with (first
      | ((with_reducible refine gate_callee (f := 64) rfl ?_)
         (try clear kg1_0 kg1_1)
         refine goesL_ (some 53) rfl rfl Try.func64 (by kernel_rfl) rfl #[.agg #[.slice A0 l0.length c0, .slice A1 l1.length c1]] rfl (by (try simp only [List.map_toArray, List.map_cons, List.map_nil]); first | done | rfl) ?_
         (with_reducible refine (laws_toMem.calls k A0 c0 l0 A1 c1 l1 _ _ _ (Kd.C_below HR0.out S.out.below) HC0.out (Kd.C_below HR1.out S.out.below) HC1.out H4.out).mono ?_)
         rintro e w57 ⟨v58, v59, rfl, h0, h1, hb⟩
         obtain ⟨A60, c61, rfl⟩ := Kd.R_slice h0
         obtain ⟨A62, c63, rfl⟩ := Kd.S_slice h1
         refine ⟨_, rfl, ?_⟩
         replace S := Aside0.mk (S.out.madeM h0 h1 hb)
         clear hb h0 h1)
      | ((with_reducible refine gate_dst (N := 13) rfl ?_)
         refine box_event ?hg (N := 13) ?hd (cs := #[.slice none 0 0, .slice none 0 0]) (t := 88) ?hr ?_
         (case hd => rfl)
         (case hg => rfl)
         (case hr => first | (go_simp; done) | (go_simp; rfl) | (go_simp; exact ⟨rfl, rfl⟩))
         intro g64 hg w65 hbox hb
         replace S := Aside0.mk (S.out.box hg hbox hb)
         clear hg hbox hb
         have kg64_0 : w65.cell? ⟨g64, 0, none⟩ = some (.slice none 0 0) := (blk_cell (S.out.blk 0 rfl) 0).trans rfl
         have kg64_1 : w65.cell? ⟨g64, 1, none⟩ = some (.slice none 0 0) := (blk_cell (S.out.blk 0 rfl) 1).trans rfl)
      | ((with_reducible refine gate_store (t := 88) (p := 13) rfl ?_)
         have zg64_0 := blk_frozen (S.out.blk 0 rfl) 0
         have zg64_1 := blk_frozen (S.out.blk 0 rfl) 1
         refine store_event (t := 88) (p := 13) (v := ?vo_w66) (w1 := ((w65.setCell ⟨g64, 0, none⟩ (.slice A60 ws.length c61)).setCell ⟨g64, 1, none⟩ (.slice A62 ds.length c63))) ?hg ?ho ?hn ?hr ?_
         (case ho => rfl)
         (case hg => rfl)
         (case hn => rfl)
         (case hr => first | (go_simp; done) | (go_simp; rfl) | (go_simp; exact ⟨rfl, rfl⟩))
         (try clear zg64_0 zg64_1)
         (try clear kg64_0 kg64_1)
         intro w66 hw
         replace S : Aside0 (St w w (fun _ => False) [hB g64 #[.slice A60 ws.length c61, .slice A62 ds.length c63] 88, hM w.heap.size (.slice A60 ws.length c61) (.slice A62 ds.length c63) ws ds, hB g51 #[.int .i64 h0, .int .i64 h1, .int .i64 h2, .int .i64 h3] 100, hB g47 #[.slice A41 rw.length c42, .slice A43 rd.length c44] 88, hM w.heap.size (.slice A41 rw.length c42) (.slice A43 rd.length c44) rw rd, hR (Kd.int .i64) 3 w.heap.size (.slice A34 rs.length c35) rs, hR k166 166 w.heap.size (.slice A28 es.length c29) es, hM w.heap.size (.slice A20 ws.length c21) (.slice A22 ds.length c23) ws ds, hB g3 #[.int .i64 a3_0, .slice A3 l3.length c3] 62, hB g1 #[.slice A0 l0.length c0, .slice A1 l1.length c1] 95] w66) := Aside0.mk (by rw [hw]; exact ((S.out.put 0 (.slice A60 ws.length c61) rfl).put 1 (.slice A62 ds.length c63) rfl))
         clear hw)
      | ((with_reducible refine gate_callee (f := 65) rfl ?_)
         refine goesL_ (some 55) rfl rfl Try.func65 (by kernel_rfl) rfl #[.slice A2 l2.length c2] rfl (by (try simp only [List.map_toArray, List.map_cons, List.map_nil]); first | done | rfl) ?_
         (with_reducible refine (laws_toEntryS.calls k A2 c2 l2 _ _ (Kd.C_below HR2.out S.out.below) HC2.out H5.out).mono ?_)
         rintro e w67 ⟨v68, rfl, h0, hb⟩
         obtain ⟨A69, c70, rfl⟩ := Kd.R_slice h0
         refine ⟨_, rfl, ?_⟩
         replace S := Aside0.mk (S.out.madeR h0 hb)
         clear hb h0
         have kg3_0 : w67.cell? ⟨g3, 0, none⟩ = some (.int .i64 a3_0) := (blk_cell (S.out.blk 9 rfl) 0).trans rfl
         have kg3_1 : w67.cell? ⟨g3, 1, none⟩ = some (.slice A3 l3.length c3) := (blk_cell (S.out.blk 9 rfl) 1).trans rfl)
      | ((with_reducible refine gate_callee (f := 37) rfl ?_)
         (try clear kg3_0 kg3_1)
         refine goesL_ (some 57) rfl rfl Try.func37 (by kernel_rfl) rfl #[.agg #[.int .i64 a3_0, .slice A3 l3.length c3]] rfl (by (try simp only [List.map_toArray, List.map_cons, List.map_nil]); first | done | rfl) ?_
         (with_reducible refine (laws_toRes.calls k a3_0 A3 c3 l3 _ _ _ (Kd.C_below HR3.out S.out.below) HC3.out H6.out).mono ?_)
         rintro e w71 ⟨v72, rfl, h0, hb⟩
         obtain ⟨A73, c74, rfl⟩ := Kd.R_slice h0
         refine ⟨_, rfl, ?_⟩
         replace S := Aside0.mk (S.out.madeR h0 hb)
         clear hb h0)
      | ((with_reducible refine gate_dst (N := 15) rfl ?_)
         refine box_event ?hg (N := 15) ?hd (cs := #[.int .i64 0, .slice none 0 0]) (t := 70) ?hr ?_
         (case hd => rfl)
         (case hg => rfl)
         (case hr => first | (go_simp; done) | (go_simp; rfl) | (go_simp; exact ⟨rfl, rfl⟩))
         intro g75 hg w76 hbox hb
         replace S := Aside0.mk (S.out.box hg hbox hb)
         clear hg hbox hb
         have kg75_0 : w76.cell? ⟨g75, 0, none⟩ = some (.int .i64 0) := (blk_cell (S.out.blk 0 rfl) 0).trans rfl
         have kg75_1 : w76.cell? ⟨g75, 1, none⟩ = some (.slice none 0 0) := (blk_cell (S.out.blk 0 rfl) 1).trans rfl)
      | ((with_reducible refine gate_store (t := 70) (p := 15) rfl ?_)
         have zg75_0 := blk_frozen (S.out.blk 0 rfl) 0
         have zg75_1 := blk_frozen (S.out.blk 0 rfl) 1
         refine store_event (t := 70) (p := 15) (v := ?vo_w77) (w1 := ((w76.setCell ⟨g75, 0, none⟩ (.int .i64 a3_0)).setCell ⟨g75, 1, none⟩ (.slice A73 rs.length c74))) ?hg ?ho ?hn ?hr ?_
         (case ho => rfl)
         (case hg => rfl)
         (case hn => rfl)
         (case hr => first | (go_simp; done) | (go_simp; rfl) | (go_simp; exact ⟨rfl, rfl⟩))
         (try clear zg75_0 zg75_1)
         (try clear kg75_0 kg75_1)
         intro w77 hw
         replace S : Aside0 (St w w (fun _ => False) [hB g75 #[.int .i64 a3_0, .slice A73 rs.length c74] 70, hR (Kd.int .i64) 3 w.heap.size (.slice A73 rs.length c74) rs, hR k166 166 w.heap.size (.slice A69 es.length c70) es, hB g64 #[.slice A60 ws.length c61, .slice A62 ds.length c63] 88, hM w.heap.size (.slice A60 ws.length c61) (.slice A62 ds.length c63) ws ds, hB g51 #[.int .i64 h0, .int .i64 h1, .int .i64 h2, .int .i64 h3] 100, hB g47 #[.slice A41 rw.length c42, .slice A43 rd.length c44] 88, hM w.heap.size (.slice A41 rw.length c42) (.slice A43 rd.length c44) rw rd, hR (Kd.int .i64) 3 w.heap.size (.slice A34 rs.length c35) rs, hR k166 166 w.heap.size (.slice A28 es.length c29) es, hM w.heap.size (.slice A20 ws.length c21) (.slice A22 ds.length c23) ws ds, hB g3 #[.int .i64 a3_0, .slice A3 l3.length c3] 62, hB g1 #[.slice A0 l0.length c0, .slice A1 l1.length c1] 95] w77) := Aside0.mk (by rw [hw]; exact ((S.out.put 0 (.int .i64 a3_0) rfl).put 1 (.slice A73 rs.length c74) rfl))
         clear hw
         have kg75_0 : w77.cell? ⟨g75, 0, none⟩ = some (.int .i64 a3_0) := (blk_cell (S.out.blk 0 rfl) 0).trans rfl
         have kg75_1 : w77.cell? ⟨g75, 1, none⟩ = some (.slice A73 rs.length c74) := (blk_cell (S.out.blk 0 rfl) 1).trans rfl
         have kg64_0 : w77.cell? ⟨g64, 0, none⟩ = some (.slice A60 ws.length c61) := (blk_cell (S.out.blk 3 rfl) 0).trans rfl
         have kg64_1 : w77.cell? ⟨g64, 1, none⟩ = some (.slice A62 ds.length c63) := (blk_cell (S.out.blk 3 rfl) 1).trans rfl)
      | ((with_reducible refine gate_callee (f := 66) rfl ?_)
         (try clear kg75_0 kg75_1 kg64_0 kg64_1)
         obtain ⟨e79, q80, c81⟩ := St.readM0 S.out 4 rfl
         obtain ⟨e82, q83, c84⟩ := St.readM1 S.out 4 rfl
         obtain ⟨e85, q86, c87⟩ := St.readR S.out 2 rfl
         obtain ⟨e88, q89, c90⟩ := St.readR S.out 1 rfl
         refine goesL_ (some 63) rfl rfl Try.func66 (by kernel_rfl) rfl #[.agg #[.slice A60 ws.length c61, .slice A62 ds.length c63], .int .i64 a1, .slice A69 es.length c70, .agg #[.int .i64 a3_0, .slice A73 rs.length c74]] rfl (by (try simp only [List.map_toArray, List.map_cons, List.map_nil]); first | done | rfl) ?_
         (with_reducible refine (impl_Begin.calls k A60 c61 ws A62 c63 ds a1 A69 c70 es a3_0 A73 c74 rs _ _ _ _ _ _ _ _ c81 q80 c84 q83 c87 q86 c90 q89 H8.out).mono ?_)
         rintro e w78 ⟨v91, v92, rfl, h0, h1, hb⟩
         obtain ⟨A93, c94, rfl⟩ := Kd.R_slice h0
         obtain ⟨A95, c96, rfl⟩ := Kd.S_slice h1
         refine ⟨_, rfl, ?_⟩
         replace S := Aside0.mk (S.out.madeM h0 h1 hb)
         clear hb h0 h1 e79 q80 c81 e82 q83 c84 e85 q86 c87 e88 q89 c90)
      | ((with_reducible refine gate_dst (N := 16) rfl ?_)
         refine box_event ?hg (N := 16) ?hd (cs := #[.slice none 0 0, .slice none 0 0]) (t := 88) ?hr ?_
         (case hd => rfl)
         (case hg => rfl)
         (case hr => first | (go_simp; done) | (go_simp; rfl) | (go_simp; exact ⟨rfl, rfl⟩))
         intro g97 hg w98 hbox hb
         replace S := Aside0.mk (S.out.box hg hbox hb)
         clear hg hbox hb)
      | ((with_reducible refine gate_dst (N := 17) rfl ?_)
         refine box_event ?hg (N := 17) ?hd (cs := #[.int .i64 0, .int .i64 0, .int .i64 0, .int .i64 0]) (t := 100) ?hr ?_
         (case hd => rfl)
         (case hg => rfl)
         (case hr => first | (go_simp; done) | (go_simp; rfl) | (go_simp; exact ⟨rfl, rfl⟩))
         intro g99 hg w100 hbox hb
         replace S := Aside0.mk (S.out.box hg hbox hb)
         clear hg hbox hb
         have kg97_0 : w100.cell? ⟨g97, 0, none⟩ = some (.slice none 0 0) := (blk_cell (S.out.blk 1 rfl) 0).trans rfl
         have kg97_1 : w100.cell? ⟨g97, 1, none⟩ = some (.slice none 0 0) := (blk_cell (S.out.blk 1 rfl) 1).trans rfl)
      | ((with_reducible refine gate_store (t := 88) (p := 16) rfl ?_)
         have zg97_0 := blk_frozen (S.out.blk 1 rfl) 0
         have zg97_1 := blk_frozen (S.out.blk 1 rfl) 1
         refine store_event (t := 88) (p := 16) (v := ?vo_w101) (w1 := ((w100.setCell ⟨g97, 0, none⟩ (.slice A93 rw.length c94)).setCell ⟨g97, 1, none⟩ (.slice A95 rd.length c96))) ?hg ?ho ?hn ?hr ?_
         (case ho => rfl)
         (case hg => rfl)
         (case hn => rfl)
         (case hr => first | (go_simp; done) | (go_simp; rfl) | (go_simp; exact ⟨rfl, rfl⟩))
         (try clear zg97_0 zg97_1)
         (try clear kg97_0 kg97_1)
         intro w101 hw
         replace S := Aside0.mk (show St w w (fun _ => False) [hB g97 #[.slice none 0 0, .slice none 0 0] 88, hB g99 #[.int .i64 0, .int .i64 0, .int .i64 0, .int .i64 0] 100, hM w.heap.size (.slice A93 rw.length c94) (.slice A95 rd.length c96) rw rd, hB g75 #[.int .i64 a3_0, .slice A73 rs.length c74] 70, hR (Kd.int .i64) 3 w.heap.size (.slice A73 rs.length c74) rs, hR k166 166 w.heap.size (.slice A69 es.length c70) es, hB g64 #[.slice A60 ws.length c61, .slice A62 ds.length c63] 88, hM w.heap.size (.slice A60 ws.length c61) (.slice A62 ds.length c63) ws ds, hB g51 #[.int .i64 h0, .int .i64 h1, .int .i64 h2, .int .i64 h3] 100, hB g47 #[.slice A41 rw.length c42, .slice A43 rd.length c44] 88, hM w.heap.size (.slice A41 rw.length c42) (.slice A43 rd.length c44) rw rd, hR (Kd.int .i64) 3 w.heap.size (.slice A34 rs.length c35) rs, hR k166 166 w.heap.size (.slice A28 es.length c29) es, hM w.heap.size (.slice A20 ws.length c21) (.slice A22 ds.length c23) ws ds, hB g3 #[.int .i64 a3_0, .slice A3 l3.length c3] 62, hB g1 #[.slice A0 l0.length c0, .slice A1 l1.length c1] 95] _ from S.out.bring 1 rfl)
         replace S : Aside0 (St w w (fun _ => False) [hB g97 #[.slice A93 rw.length c94, .slice A95 rd.length c96] 88, hB g99 #[.int .i64 0, .int .i64 0, .int .i64 0, .int .i64 0] 100, hM w.heap.size (.slice A93 rw.length c94) (.slice A95 rd.length c96) rw rd, hB g75 #[.int .i64 a3_0, .slice A73 rs.length c74] 70, hR (Kd.int .i64) 3 w.heap.size (.slice A73 rs.length c74) rs, hR k166 166 w.heap.size (.slice A69 es.length c70) es, hB g64 #[.slice A60 ws.length c61, .slice A62 ds.length c63] 88, hM w.heap.size (.slice A60 ws.length c61) (.slice A62 ds.length c63) ws ds, hB g51 #[.int .i64 h0, .int .i64 h1, .int .i64 h2, .int .i64 h3] 100, hB g47 #[.slice A41 rw.length c42, .slice A43 rd.length c44] 88, hM w.heap.size (.slice A41 rw.length c42) (.slice A43 rd.length c44) rw rd, hR (Kd.int .i64) 3 w.heap.size (.slice A34 rs.length c35) rs, hR k166 166 w.heap.size (.slice A28 es.length c29) es, hM w.heap.size (.slice A20 ws.length c21) (.slice A22 ds.length c23) ws ds, hB g3 #[.int .i64 a3_0, .slice A3 l3.length c3] 62, hB g1 #[.slice A0 l0.length c0, .slice A1 l1.length c1] 95] w101) := Aside0.mk (by rw [hw]; exact ((S.out.put 0 (.slice A93 rw.length c94) rfl).put 1 (.slice A95 rd.length c96) rfl))
         clear hw
         have kg99_0 : w101.cell? ⟨g99, 0, none⟩ = some (.int .i64 0) := (blk_cell (S.out.blk 1 rfl) 0).trans rfl
         have kg99_1 : w101.cell? ⟨g99, 1, none⟩ = some (.int .i64 0) := (blk_cell (S.out.blk 1 rfl) 1).trans rfl
         have kg99_2 : w101.cell? ⟨g99, 2, none⟩ = some (.int .i64 0) := (blk_cell (S.out.blk 1 rfl) 2).trans rfl
         have kg99_3 : w101.cell? ⟨g99, 3, none⟩ = some (.int .i64 0) := (blk_cell (S.out.blk 1 rfl) 3).trans rfl)
      | ((with_reducible refine gate_store (t := 100) (p := 17) rfl ?_)
         have zg99_0 := blk_frozen (S.out.blk 1 rfl) 0
         have zg99_1 := blk_frozen (S.out.blk 1 rfl) 1
         have zg99_2 := blk_frozen (S.out.blk 1 rfl) 2
         have zg99_3 := blk_frozen (S.out.blk 1 rfl) 3
         refine store_event (t := 100) (p := 17) (v := ?vo_w102) (w1 := ((((w101.setCell ⟨g99, 0, none⟩ (.int .i64 h0)).setCell ⟨g99, 1, none⟩ (.int .i64 h1)).setCell ⟨g99, 2, none⟩ (.int .i64 h2)).setCell ⟨g99, 3, none⟩ (.int .i64 h3))) ?hg ?ho ?hn ?hr ?_
         (case ho => rfl)
         (case hg => rfl)
         (case hn => rfl)
         (case hr => first | (go_simp; done) | (go_simp; rfl) | (go_simp; exact ⟨rfl, rfl⟩))
         (try clear zg99_0 zg99_1 zg99_2 zg99_3)
         (try clear kg99_0 kg99_1 kg99_2 kg99_3)
         intro w102 hw
         replace S := Aside0.mk (show St w w (fun _ => False) [hB g99 #[.int .i64 0, .int .i64 0, .int .i64 0, .int .i64 0] 100, hB g97 #[.slice A93 rw.length c94, .slice A95 rd.length c96] 88, hM w.heap.size (.slice A93 rw.length c94) (.slice A95 rd.length c96) rw rd, hB g75 #[.int .i64 a3_0, .slice A73 rs.length c74] 70, hR (Kd.int .i64) 3 w.heap.size (.slice A73 rs.length c74) rs, hR k166 166 w.heap.size (.slice A69 es.length c70) es, hB g64 #[.slice A60 ws.length c61, .slice A62 ds.length c63] 88, hM w.heap.size (.slice A60 ws.length c61) (.slice A62 ds.length c63) ws ds, hB g51 #[.int .i64 h0, .int .i64 h1, .int .i64 h2, .int .i64 h3] 100, hB g47 #[.slice A41 rw.length c42, .slice A43 rd.length c44] 88, hM w.heap.size (.slice A41 rw.length c42) (.slice A43 rd.length c44) rw rd, hR (Kd.int .i64) 3 w.heap.size (.slice A34 rs.length c35) rs, hR k166 166 w.heap.size (.slice A28 es.length c29) es, hM w.heap.size (.slice A20 ws.length c21) (.slice A22 ds.length c23) ws ds, hB g3 #[.int .i64 a3_0, .slice A3 l3.length c3] 62, hB g1 #[.slice A0 l0.length c0, .slice A1 l1.length c1] 95] _ from S.out.bring 1 rfl)
         replace S : Aside0 (St w w (fun _ => False) [hB g99 #[.int .i64 h0, .int .i64 h1, .int .i64 h2, .int .i64 h3] 100, hB g97 #[.slice A93 rw.length c94, .slice A95 rd.length c96] 88, hM w.heap.size (.slice A93 rw.length c94) (.slice A95 rd.length c96) rw rd, hB g75 #[.int .i64 a3_0, .slice A73 rs.length c74] 70, hR (Kd.int .i64) 3 w.heap.size (.slice A73 rs.length c74) rs, hR k166 166 w.heap.size (.slice A69 es.length c70) es, hB g64 #[.slice A60 ws.length c61, .slice A62 ds.length c63] 88, hM w.heap.size (.slice A60 ws.length c61) (.slice A62 ds.length c63) ws ds, hB g51 #[.int .i64 h0, .int .i64 h1, .int .i64 h2, .int .i64 h3] 100, hB g47 #[.slice A41 rw.length c42, .slice A43 rd.length c44] 88, hM w.heap.size (.slice A41 rw.length c42) (.slice A43 rd.length c44) rw rd, hR (Kd.int .i64) 3 w.heap.size (.slice A34 rs.length c35) rs, hR k166 166 w.heap.size (.slice A28 es.length c29) es, hM w.heap.size (.slice A20 ws.length c21) (.slice A22 ds.length c23) ws ds, hB g3 #[.int .i64 a3_0, .slice A3 l3.length c3] 62, hB g1 #[.slice A0 l0.length c0, .slice A1 l1.length c1] 95] w102) := Aside0.mk (by rw [hw]; exact ((((S.out.put 0 (.int .i64 h0) rfl).put 1 (.int .i64 h1) rfl).put 2 (.int .i64 h2) rfl).put 3 (.int .i64 h3) rfl))
         clear hw
         have kg97_0 : w102.cell? ⟨g97, 0, none⟩ = some (.slice A93 rw.length c94) := (blk_cell (S.out.blk 1 rfl) 0).trans rfl
         have kg97_1 : w102.cell? ⟨g97, 1, none⟩ = some (.slice A95 rd.length c96) := (blk_cell (S.out.blk 1 rfl) 1).trans rfl
         have kg47_0 : w102.cell? ⟨g47, 0, none⟩ = some (.slice A41 rw.length c42) := (blk_cell (S.out.blk 9 rfl) 0).trans rfl
         have kg47_1 : w102.cell? ⟨g47, 1, none⟩ = some (.slice A43 rd.length c44) := (blk_cell (S.out.blk 9 rfl) 1).trans rfl)
      | ((with_reducible refine gate_callee (f := 58) rfl ?_)
         (try clear kg97_0 kg97_1 kg47_0 kg47_1)
         obtain ⟨e104, q105, c106⟩ := St.readM0 S.out 2 rfl
         obtain ⟨e107, q108, c109⟩ := St.readM1 S.out 2 rfl
         obtain ⟨e110, q111, c112⟩ := St.readM0 S.out 10 rfl
         obtain ⟨e113, q114, c115⟩ := St.readM1 S.out 10 rfl
         refine goesL_ (some 69) rfl rfl Try.func58 (by kernel_rfl) rfl #[.agg #[.slice A93 rw.length c94, .slice A95 rd.length c96], .agg #[.slice A41 rw.length c42, .slice A43 rd.length c44]] rfl (by (try simp only [List.map_toArray, List.map_cons, List.map_nil]); first | done | rfl) ?_
         (with_reducible refine (laws_eqMem.calls k A93 c94 rw A95 c96 rd A41 c42 rw A43 c44 rd _ _ c106 q105 c109 q108 c112 q111 c115 q114 H9.out).mono ?_)
         rintro e w103 ⟨rfl, hb⟩
         refine ⟨_, rfl, ?_⟩
         replace S := Aside0.mk (S.out.moved hb)
         clear hb e104 q105 c106 e107 q108 c109 e110 q111 c112 e113 q114 c115
         have kg99_0 : w103.cell? ⟨g99, 0, none⟩ = some (.int .i64 h0) := (blk_cell (S.out.blk 0 rfl) 0).trans rfl
         have kg99_1 : w103.cell? ⟨g99, 1, none⟩ = some (.int .i64 h1) := (blk_cell (S.out.blk 0 rfl) 1).trans rfl
         have kg99_2 : w103.cell? ⟨g99, 2, none⟩ = some (.int .i64 h2) := (blk_cell (S.out.blk 0 rfl) 2).trans rfl
         have kg99_3 : w103.cell? ⟨g99, 3, none⟩ = some (.int .i64 h3) := (blk_cell (S.out.blk 0 rfl) 3).trans rfl
         have kg51_0 : w103.cell? ⟨g51, 0, none⟩ = some (.int .i64 h0) := (blk_cell (S.out.blk 8 rfl) 0).trans rfl
         have kg51_1 : w103.cell? ⟨g51, 1, none⟩ = some (.int .i64 h1) := (blk_cell (S.out.blk 8 rfl) 1).trans rfl
         have kg51_2 : w103.cell? ⟨g51, 2, none⟩ = some (.int .i64 h2) := (blk_cell (S.out.blk 8 rfl) 2).trans rfl
         have kg51_3 : w103.cell? ⟨g51, 3, none⟩ = some (.int .i64 h3) := (blk_cell (S.out.blk 8 rfl) 3).trans rfl)
      | (go_at_call 67
         (try clear kg99_0 kg99_1 kg99_2 kg99_3 kg51_0 kg51_1 kg51_2 kg51_3)
         (with_reducible refine (laws_eqHelp.calls h0 h1 h2 h3 h0 h1 h2 h3 _ _ H11.out).mono ?_)
         rintro e w116 ⟨rfl, hb⟩
         replace S := Aside0.mk (S.out.moved hb)
         clear hb
         have kg64_0 : w116.cell? ⟨g64, 0, none⟩ = some (.slice A60 ws.length c61) := (blk_cell (S.out.blk 6 rfl) 0).trans rfl
         have kg64_1 : w116.cell? ⟨g64, 1, none⟩ = some (.slice A62 ds.length c63) := (blk_cell (S.out.blk 6 rfl) 1).trans rfl
         have kg1_0 : w116.cell? ⟨g1, 0, none⟩ = some (.slice A0 l0.length c0) := (blk_cell (S.out.blk 15 rfl) 0).trans rfl
         have kg1_1 : w116.cell? ⟨g1, 1, none⟩ = some (.slice A1 l1.length c1) := (blk_cell (S.out.blk 15 rfl) 1).trans rfl))
  refine start_ (n := 5) (S := fun w' => St w w (fun _ => False) [hB g99 #[.int .i64 h0, .int .i64 h1, .int .i64 h2, .int .i64 h3] 100, hB g97 #[.slice A93 rw.length c94, .slice A95 rd.length c96] 88, hM w.heap.size (.slice A93 rw.length c94) (.slice A95 rd.length c96) rw rd, hB g75 #[.int .i64 a3_0, .slice A73 rs.length c74] 70, hR (Kd.int .i64) 3 w.heap.size (.slice A73 rs.length c74) rs, hR k166 166 w.heap.size (.slice A69 es.length c70) es, hB g64 #[.slice A60 ws.length c61, .slice A62 ds.length c63] 88, hM w.heap.size (.slice A60 ws.length c61) (.slice A62 ds.length c63) ws ds, hB g51 #[.int .i64 h0, .int .i64 h1, .int .i64 h2, .int .i64 h3] 100, hB g47 #[.slice A41 rw.length c42, .slice A43 rd.length c44] 88, hM w.heap.size (.slice A41 rw.length c42) (.slice A43 rd.length c44) rw rd, hR (Kd.int .i64) 3 w.heap.size (.slice A34 rs.length c35) rs, hR k166 166 w.heap.size (.slice A28 es.length c29) es, hM w.heap.size (.slice A20 ws.length c21) (.slice A22 ds.length c23) ws ds, hB g3 #[.int .i64 a3_0, .slice A3 l3.length c3] 62, hB g1 #[.slice A0 l0.length c0, .slice A1 l1.length c1] 95] w') (ds := []) #[false, false, false, false, false] (by kernel_rfl) rfl rfl (St.drew (S.out)) (fun hS_ => ?_)
  (try clear kg64_0 kg64_1 kg1_0 kg1_1)
  replace S := Aside0.mk S.out.drew
  clear hS_
  generalize w116.drew = w117 at S ⊢
  refine take_ (i := 0) (N := some 82) (v := .agg #[.slice A60 ws.length c61, .slice A62 ds.length c63]) (a' := ?at118) #[true, false, false, false, false] rfl rfl (by kernel_rfl) (fun _ _ _ h => h) (Or.inl ⟨by rfl, ?yt118⟩) (S.out) ?pt118 ?nt118
  case yt118 =>
    intro w' hS
    have kg64_0 : w'.cell? ⟨g64, 0, none⟩ = some (.slice A60 ws.length c61) := (blk_cell (hS.blk 6 rfl) 0).trans rfl
    have kg64_1 : w'.cell? ⟨g64, 1, none⟩ = some (.slice A62 ds.length c63) := (blk_cell (hS.blk 6 rfl) 1).trans rfl
    first | (go_simp; done) | (go_simp; rfl) | (go_simp; exact ⟨rfl, rfl⟩)
  case pt118 =>
    simp only [Act.put, List.setIfInBounds_toArray, List.set_cons_zero, List.set_cons_succ, i64_w, i32_w]
    rfl
  refine take_ (i := 1) (N := some 83) (v := .agg #[.slice A0 l0.length c0, .slice A1 l1.length c1]) (a' := ?at119) #[true, true, false, false, false] rfl rfl (by kernel_rfl) (fun _ _ _ h => h) (Or.inl ⟨by rfl, ?yt119⟩) (S.out) ?pt119 ?nt119
  case yt119 =>
    intro w' hS
    have kg1_0 : w'.cell? ⟨g1, 0, none⟩ = some (.slice A0 l0.length c0) := (blk_cell (hS.blk 15 rfl) 0).trans rfl
    have kg1_1 : w'.cell? ⟨g1, 1, none⟩ = some (.slice A1 l1.length c1) := (blk_cell (hS.blk 15 rfl) 1).trans rfl
    first | (go_simp; done) | (go_simp; rfl) | (go_simp; exact ⟨rfl, rfl⟩)
  case pt119 =>
    simp only [Act.put, List.setIfInBounds_toArray, List.set_cons_zero, List.set_cons_succ, i64_w, i32_w]
    rfl
  refine one_ (i := 2) (N := some 84) #[true, true, true, false, false] rfl rfl (by kernel_rfl) (by decide) (fun K hK => ?_)
  refine goes_ Try.func64 (by kernel_rfl) rfl #[.agg #[.slice A0 l0.length c0, .slice A1 l1.length c1]] (by rfl) rfl rfl (by (try simp only [List.map_toArray, List.map_cons, List.map_nil]); first | done | rfl) ?_
  (with_reducible refine (laws_toMem.calls k A0 c0 l0 A1 c1 l1 _ _ _ (Kd.C_below HR0.out S.out.below) HC0.out (Kd.C_below HR1.out S.out.below) HC1.out H4.out).mono ?_)
  rintro e w120 ⟨v121, v122, rfl, h0, h1, hb⟩
  obtain ⟨A123, c124, rfl⟩ := Kd.R_slice h0
  obtain ⟨A125, c126, rfl⟩ := Kd.S_slice h1
  refine ⟨_, rfl, ?_⟩
  replace S := Aside0.mk (S.out.madeM h0 h1 hb)
  clear hb h0 h1
  refine hK _ _ (S.out.drop) (fun _ => ?_)
  refine norm_ (a' := ?at127) ?pt127 ?nt127
  case pt127 =>
    show Act.put _ (some 84) _ = _
    simp only [Act.put, List.setIfInBounds_toArray, List.set_cons_zero, List.set_cons_succ, i64_w, i32_w]
    rfl
  refine one_ (i := 3) (N := some 85) #[true, true, true, true, false] rfl rfl (by kernel_rfl) (by decide) (fun K hK => ?_)
  obtain ⟨e129, q130, c131⟩ := St.readM0 S.out 8 rfl
  obtain ⟨e132, q133, c134⟩ := St.readM1 S.out 8 rfl
  obtain ⟨e135, q136, c137⟩ := St.readM0 S.out 0 rfl
  obtain ⟨e138, q139, c140⟩ := St.readM1 S.out 0 rfl
  refine goes_ Try.func58 (by kernel_rfl) rfl #[.agg #[.slice A60 ws.length c61, .slice A62 ds.length c63], .agg #[.slice A123 ws.length c124, .slice A125 ds.length c126]] (by rfl) rfl rfl (by (try simp only [List.map_toArray, List.map_cons, List.map_nil]); first | done | rfl) ?_
  (with_reducible refine (laws_eqMem.calls k A60 c61 ws A62 c63 ds A123 c124 ws A125 c126 ds _ _ c131 q130 c134 q133 c137 q136 c140 q139 H10.out).mono ?_)
  rintro e w128 ⟨rfl, hb⟩
  refine ⟨_, rfl, ?_⟩
  replace S := Aside0.mk (S.out.moved hb)
  clear hb e129 q130 c131 e132 q133 c134 e135 q136 c137 e138 q139 c140
  refine hK _ _ (S.out.drop) (fun _ => ?_)
  refine norm_ (a' := ?at141) ?pt141 ?nt141
  case pt141 =>
    show Act.put _ (some 85) _ = _
    simp only [Act.put, List.setIfInBounds_toArray, List.set_cons_zero, List.set_cons_succ, i64_w, i32_w]
    rfl
  refine take_ (i := 4) (N := some 86) (v := .bool false) (a' := ?at142) #[true, true, true, true, true] rfl rfl (by kernel_rfl) (fun _ _ _ h => h) (Or.inl ⟨by rfl, ?yt142⟩) (S.out.drop) ?pt142 ?nt142
  case yt142 =>
    intro w' hS
    first | (go_simp; done) | (go_simp; rfl) | (go_simp; exact ⟨rfl, rfl⟩)
  case pt142 =>
    simp only [Act.put, List.setIfInBounds_toArray, List.set_cons_zero, List.set_cons_succ, i64_w, i32_w]
    rfl
  refine done_ (by kernel_rfl) ?_
  go_wp2_with (first
      | ((with_reducible refine gate_callee (f := 65) rfl ?_)
         refine goesL_ (some 89) rfl rfl Try.func65 (by kernel_rfl) rfl #[.slice A2 l2.length c2] rfl (by (try simp only [List.map_toArray, List.map_cons, List.map_nil]); first | done | rfl) ?_
         (with_reducible refine (laws_toEntryS.calls k A2 c2 l2 _ _ (Kd.C_below HR2.out S.out.below) HC2.out H5.out).mono ?_)
         rintro e w143 ⟨v144, rfl, h0, hb⟩
         obtain ⟨A145, c146, rfl⟩ := Kd.R_slice h0
         refine ⟨_, rfl, ?_⟩
         replace S := Aside0.mk (S.out.madeR h0 hb)
         clear hb h0)
      | ((with_reducible refine gate_callee (f := 68) rfl ?_)
         obtain ⟨e148, q149, c150⟩ := St.readR S.out 7 rfl
         obtain ⟨e151, q152, c153⟩ := St.readR S.out 0 rfl
         refine goesL_ (some 90) rfl rfl Try.func68 (by kernel_rfl) rfl #[.slice A69 es.length c70, .slice A145 es.length c146] rfl (by (try simp only [List.map_toArray, List.map_cons, List.map_nil]); first | done | rfl) ?_
         (with_reducible refine (laws_eqEntryS.calls k A69 c70 es A145 c146 es _ _ c150 q149 c153 q152 H12.out).mono ?_)
         rintro e w147 ⟨rfl, hb⟩
         refine ⟨_, rfl, ?_⟩
         replace S := Aside0.mk (S.out.moved hb)
         clear hb e148 q149 c150 e151 q152 c153
         have kg75_0 : w147.cell? ⟨g75, 0, none⟩ = some (.int .i64 a3_0) := (blk_cell (S.out.blk 5 rfl) 0).trans rfl
         have kg75_1 : w147.cell? ⟨g75, 1, none⟩ = some (.slice A73 rs.length c74) := (blk_cell (S.out.blk 5 rfl) 1).trans rfl
         have kg3_0 : w147.cell? ⟨g3, 0, none⟩ = some (.int .i64 a3_0) := (blk_cell (S.out.blk 16 rfl) 0).trans rfl
         have kg3_1 : w147.cell? ⟨g3, 1, none⟩ = some (.slice A3 l3.length c3) := (blk_cell (S.out.blk 16 rfl) 1).trans rfl))
  refine start_ (n := 5) (S := fun w' => St w w (fun _ => False) [hR k166 166 w.heap.size (.slice A145 es.length c146) es, hM w.heap.size (.slice A123 ws.length c124) (.slice A125 ds.length c126) ws ds, hB g99 #[.int .i64 h0, .int .i64 h1, .int .i64 h2, .int .i64 h3] 100, hB g97 #[.slice A93 rw.length c94, .slice A95 rd.length c96] 88, hM w.heap.size (.slice A93 rw.length c94) (.slice A95 rd.length c96) rw rd, hB g75 #[.int .i64 a3_0, .slice A73 rs.length c74] 70, hR (Kd.int .i64) 3 w.heap.size (.slice A73 rs.length c74) rs, hR k166 166 w.heap.size (.slice A69 es.length c70) es, hB g64 #[.slice A60 ws.length c61, .slice A62 ds.length c63] 88, hM w.heap.size (.slice A60 ws.length c61) (.slice A62 ds.length c63) ws ds, hB g51 #[.int .i64 h0, .int .i64 h1, .int .i64 h2, .int .i64 h3] 100, hB g47 #[.slice A41 rw.length c42, .slice A43 rd.length c44] 88, hM w.heap.size (.slice A41 rw.length c42) (.slice A43 rd.length c44) rw rd, hR (Kd.int .i64) 3 w.heap.size (.slice A34 rs.length c35) rs, hR k166 166 w.heap.size (.slice A28 es.length c29) es, hM w.heap.size (.slice A20 ws.length c21) (.slice A22 ds.length c23) ws ds, hB g3 #[.int .i64 a3_0, .slice A3 l3.length c3] 62, hB g1 #[.slice A0 l0.length c0, .slice A1 l1.length c1] 95] w') (ds := []) #[false, false, false, false, false] (by kernel_rfl) rfl rfl (St.drew (S.out)) (fun hS_ => ?_)
  (try clear kg75_0 kg75_1 kg3_0 kg3_1)
  replace S := Aside0.mk S.out.drew
  clear hS_
  generalize w147.drew = w154 at S ⊢
  refine take_ (i := 0) (N := some 92) (v := .agg #[.int .i64 a3_0, .slice A73 rs.length c74]) (a' := ?at155) #[true, false, false, false, false] rfl rfl (by kernel_rfl) (fun _ _ _ h => h) (Or.inl ⟨by rfl, ?yt155⟩) (S.out) ?pt155 ?nt155
  case yt155 =>
    intro w' hS
    have kg75_0 : w'.cell? ⟨g75, 0, none⟩ = some (.int .i64 a3_0) := (blk_cell (hS.blk 5 rfl) 0).trans rfl
    have kg75_1 : w'.cell? ⟨g75, 1, none⟩ = some (.slice A73 rs.length c74) := (blk_cell (hS.blk 5 rfl) 1).trans rfl
    first | (go_simp; done) | (go_simp; rfl) | (go_simp; exact ⟨rfl, rfl⟩)
  case pt155 =>
    simp only [Act.put, List.setIfInBounds_toArray, List.set_cons_zero, List.set_cons_succ, i64_w, i32_w]
    rfl
  refine take_ (i := 1) (N := some 93) (v := .agg #[.int .i64 a3_0, .slice A3 l3.length c3]) (a' := ?at156) #[true, true, false, false, false] rfl rfl (by kernel_rfl) (fun _ _ _ h => h) (Or.inl ⟨by rfl, ?yt156⟩) (S.out) ?pt156 ?nt156
  case yt156 =>
    intro w' hS
    have kg3_0 : w'.cell? ⟨g3, 0, none⟩ = some (.int .i64 a3_0) := (blk_cell (hS.blk 16 rfl) 0).trans rfl
    have kg3_1 : w'.cell? ⟨g3, 1, none⟩ = some (.slice A3 l3.length c3) := (blk_cell (hS.blk 16 rfl) 1).trans rfl
    first | (go_simp; done) | (go_simp; rfl) | (go_simp; exact ⟨rfl, rfl⟩)
  case pt156 =>
    simp only [Act.put, List.setIfInBounds_toArray, List.set_cons_zero, List.set_cons_succ, i64_w, i32_w]
    rfl
  refine one_ (i := 2) (N := some 94) #[true, true, true, false, false] rfl rfl (by kernel_rfl) (by decide) (fun K hK => ?_)
  refine goes_ Try.func37 (by kernel_rfl) rfl #[.agg #[.int .i64 a3_0, .slice A3 l3.length c3]] (by rfl) rfl rfl (by (try simp only [List.map_toArray, List.map_cons, List.map_nil]); first | done | rfl) ?_
  (with_reducible refine (laws_toRes.calls k a3_0 A3 c3 l3 _ _ _ (Kd.C_below HR3.out S.out.below) HC3.out H6.out).mono ?_)
  rintro e w157 ⟨v158, rfl, h0, hb⟩
  obtain ⟨A159, c160, rfl⟩ := Kd.R_slice h0
  refine ⟨_, rfl, ?_⟩
  replace S := Aside0.mk (S.out.madeR h0 hb)
  clear hb h0
  refine hK _ _ (S.out.drop) (fun _ => ?_)
  refine norm_ (a' := ?at161) ?pt161 ?nt161
  case pt161 =>
    show Act.put _ (some 94) _ = _
    simp only [Act.put, List.setIfInBounds_toArray, List.set_cons_zero, List.set_cons_succ, i64_w, i32_w]
    rfl
  refine one_ (i := 3) (N := some 95) #[true, true, true, true, false] rfl rfl (by kernel_rfl) (by decide) (fun K hK => ?_)
  obtain ⟨e163, q164, c165⟩ := St.readR S.out 7 rfl
  obtain ⟨e166, q167, c168⟩ := St.readR S.out 0 rfl
  refine goes_ Try.func40 (by kernel_rfl) rfl #[.agg #[.int .i64 a3_0, .slice A73 rs.length c74], .agg #[.int .i64 a3_0, .slice A159 rs.length c160]] (by rfl) rfl rfl (by (try simp only [List.map_toArray, List.map_cons, List.map_nil]); first | done | rfl) ?_
  (with_reducible refine (laws_eqRes.calls k a3_0 A73 c74 rs a3_0 A159 c160 rs _ _ c165 q164 c168 q167 H13.out).mono ?_)
  rintro e w162 ⟨rfl, hb⟩
  refine ⟨_, rfl, ?_⟩
  replace S := Aside0.mk (S.out.moved hb)
  clear hb e163 q164 c165 e166 q167 c168
  refine hK _ _ (S.out.drop) (fun _ => ?_)
  refine norm_ (a' := ?at169) ?pt169 ?nt169
  case pt169 =>
    show Act.put _ (some 95) _ = _
    simp only [Act.put, List.setIfInBounds_toArray, List.set_cons_zero, List.set_cons_succ, i64_w, i32_w]
    rfl
  refine take_ (i := 4) (N := some 96) (v := .bool false) (a' := ?at170) #[true, true, true, true, true] rfl rfl (by kernel_rfl) (fun _ _ _ h => h) (Or.inl ⟨by rfl, ?yt170⟩) (S.out.drop) ?pt170 ?nt170
  case yt170 =>
    intro w' hS
    first | (go_simp; done) | (go_simp; rfl) | (go_simp; exact ⟨rfl, rfl⟩)
  case pt170 =>
    simp only [Act.put, List.setIfInBounds_toArray, List.set_cons_zero, List.set_cons_succ, i64_w, i32_w]
    rfl
  refine done_ (by kernel_rfl) ?_
  have kg64_0 : w162.cell? ⟨g64, 0, none⟩ = some (.slice A60 ws.length c61) := (blk_cell (S.out.blk 9 rfl) 0).trans rfl
  have kg64_1 : w162.cell? ⟨g64, 1, none⟩ = some (.slice A62 ds.length c63) := (blk_cell (S.out.blk 9 rfl) 1).trans rfl
  go_wp2_with (first
      | ((with_reducible refine gate_callee (f := 59) rfl ?_)
         (try clear kg64_0 kg64_1)
         replace S := Aside0.mk (show St w w (fun _ => False) [hM w.heap.size (.slice A60 ws.length c61) (.slice A62 ds.length c63) ws ds, hR (Kd.int .i64) 3 w.heap.size (.slice A159 rs.length c160) rs, hR k166 166 w.heap.size (.slice A145 es.length c146) es, hM w.heap.size (.slice A123 ws.length c124) (.slice A125 ds.length c126) ws ds, hB g99 #[.int .i64 h0, .int .i64 h1, .int .i64 h2, .int .i64 h3] 100, hB g97 #[.slice A93 rw.length c94, .slice A95 rd.length c96] 88, hM w.heap.size (.slice A93 rw.length c94) (.slice A95 rd.length c96) rw rd, hB g75 #[.int .i64 a3_0, .slice A73 rs.length c74] 70, hR (Kd.int .i64) 3 w.heap.size (.slice A73 rs.length c74) rs, hR k166 166 w.heap.size (.slice A69 es.length c70) es, hB g64 #[.slice A60 ws.length c61, .slice A62 ds.length c63] 88, hB g51 #[.int .i64 h0, .int .i64 h1, .int .i64 h2, .int .i64 h3] 100, hB g47 #[.slice A41 rw.length c42, .slice A43 rd.length c44] 88, hM w.heap.size (.slice A41 rw.length c42) (.slice A43 rd.length c44) rw rd, hR (Kd.int .i64) 3 w.heap.size (.slice A34 rs.length c35) rs, hR k166 166 w.heap.size (.slice A28 es.length c29) es, hM w.heap.size (.slice A20 ws.length c21) (.slice A22 ds.length c23) ws ds, hB g3 #[.int .i64 a3_0, .slice A3 l3.length c3] 62, hB g1 #[.slice A0 l0.length c0, .slice A1 l1.length c1] 95] _ from S.out.bring 10 rfl)
         obtain ⟨D, hD, hDb, hS⟩ := S.out.own
         refine goesL_ (some 99) rfl rfl Try.func59 (by kernel_rfl) rfl #[.agg #[.slice A60 ws.length c61, .slice A62 ds.length c63], .int .i64 1] rfl (by (try simp only [List.map_toArray, List.map_cons, List.map_nil]); first | done | rfl) ?_
         (with_reducible refine (laws_markMem.calls k _ (.slice A60 ws.length c61) (.slice A62 ds.length c63) _ _ 1 _ _ _ w _ S.out.below hD H14.out).mono ?_)
         rintro e w171 ⟨rfl, h1, hb, hk⟩
         refine ⟨_, rfl, ?_⟩
         replace S := Aside0.mk (hS w171 (hM w.heap.size (.slice A60 ws.length c61) (.slice A62 ds.length c63) ws1 ds1) (cl_M _ _ _ _ _) hb hk h1)
         clear hS hD hDb h1 hb hk)
      | ((with_reducible refine gate_callee (f := 69) rfl ?_)
         replace S := Aside0.mk (show St w w (fun _ => False) [hR k166 166 w.heap.size (.slice A69 es.length c70) es, hM w.heap.size (.slice A60 ws.length c61) (.slice A62 ds.length c63) ws1 ds1, hR (Kd.int .i64) 3 w.heap.size (.slice A159 rs.length c160) rs, hR k166 166 w.heap.size (.slice A145 es.length c146) es, hM w.heap.size (.slice A123 ws.length c124) (.slice A125 ds.length c126) ws ds, hB g99 #[.int .i64 h0, .int .i64 h1, .int .i64 h2, .int .i64 h3] 100, hB g97 #[.slice A93 rw.length c94, .slice A95 rd.length c96] 88, hM w.heap.size (.slice A93 rw.length c94) (.slice A95 rd.length c96) rw rd, hB g75 #[.int .i64 a3_0, .slice A73 rs.length c74] 70, hR (Kd.int .i64) 3 w.heap.size (.slice A73 rs.length c74) rs, hB g64 #[.slice A60 ws.length c61, .slice A62 ds.length c63] 88, hB g51 #[.int .i64 h0, .int .i64 h1, .int .i64 h2, .int .i64 h3] 100, hB g47 #[.slice A41 rw.length c42, .slice A43 rd.length c44] 88, hM w.heap.size (.slice A41 rw.length c42) (.slice A43 rd.length c44) rw rd, hR (Kd.int .i64) 3 w.heap.size (.slice A34 rs.length c35) rs, hR k166 166 w.heap.size (.slice A28 es.length c29) es, hM w.heap.size (.slice A20 ws.length c21) (.slice A22 ds.length c23) ws ds, hB g3 #[.int .i64 a3_0, .slice A3 l3.length c3] 62, hB g1 #[.slice A0 l0.length c0, .slice A1 l1.length c1] 95] _ from S.out.bring 9 rfl)
         obtain ⟨D, hD, hDb, hS⟩ := S.out.own
         refine goesL_ (some 102) rfl rfl Try.func69 (by kernel_rfl) rfl #[.slice A69 es.length c70, .int .i64 k1] rfl (by (try simp only [List.map_toArray, List.map_cons, List.map_nil]); first | done | rfl) ?_
         (with_reducible refine (laws_markEntryS.calls k _ (.slice A69 es.length c70) _ k1 _ _ w _ S.out.below (hR_out hD) H15.out).mono ?_)
         rintro e w172 ⟨rfl, h1, hb, hk⟩
         refine ⟨_, rfl, ?_⟩
         replace S := Aside0.mk (hS w172 (hR k166 166 w.heap.size (.slice A69 es.length c70) es1) (cl_R _ _ _ _ _) hb hk h1)
         clear hS hD hDb h1 hb hk
         have kg75_0 : w172.cell? ⟨g75, 0, none⟩ = some (.int .i64 a3_0) := (blk_cell (S.out.blk 8 rfl) 0).trans rfl
         have kg75_1 : w172.cell? ⟨g75, 1, none⟩ = some (.slice A73 rs.length c74) := (blk_cell (S.out.blk 8 rfl) 1).trans rfl)
      | ((with_reducible refine gate_callee (f := 42) rfl ?_)
         (try clear kg75_0 kg75_1)
         replace S := Aside0.mk (show St w w (fun _ => False) [hR (Kd.int .i64) 3 w.heap.size (.slice A73 rs.length c74) rs, hR k166 166 w.heap.size (.slice A69 es.length c70) es1, hM w.heap.size (.slice A60 ws.length c61) (.slice A62 ds.length c63) ws1 ds1, hR (Kd.int .i64) 3 w.heap.size (.slice A159 rs.length c160) rs, hR k166 166 w.heap.size (.slice A145 es.length c146) es, hM w.heap.size (.slice A123 ws.length c124) (.slice A125 ds.length c126) ws ds, hB g99 #[.int .i64 h0, .int .i64 h1, .int .i64 h2, .int .i64 h3] 100, hB g97 #[.slice A93 rw.length c94, .slice A95 rd.length c96] 88, hM w.heap.size (.slice A93 rw.length c94) (.slice A95 rd.length c96) rw rd, hB g75 #[.int .i64 a3_0, .slice A73 rs.length c74] 70, hB g64 #[.slice A60 ws.length c61, .slice A62 ds.length c63] 88, hB g51 #[.int .i64 h0, .int .i64 h1, .int .i64 h2, .int .i64 h3] 100, hB g47 #[.slice A41 rw.length c42, .slice A43 rd.length c44] 88, hM w.heap.size (.slice A41 rw.length c42) (.slice A43 rd.length c44) rw rd, hR (Kd.int .i64) 3 w.heap.size (.slice A34 rs.length c35) rs, hR k166 166 w.heap.size (.slice A28 es.length c29) es, hM w.heap.size (.slice A20 ws.length c21) (.slice A22 ds.length c23) ws ds, hB g3 #[.int .i64 a3_0, .slice A3 l3.length c3] 62, hB g1 #[.slice A0 l0.length c0, .slice A1 l1.length c1] 95] _ from S.out.bring 9 rfl)
         obtain ⟨D, hD, hDb, hS⟩ := S.out.own
         refine goesL_ (some 105) rfl rfl Try.func42 (by kernel_rfl) rfl #[.agg #[.int .i64 a3_0, .slice A73 rs.length c74], .int .i64 k2] rfl (by (try simp only [List.map_toArray, List.map_cons, List.map_nil]); first | done | rfl) ?_
         (with_reducible refine (laws_markRes.calls k a3_0 _ (.slice A73 rs.length c74) _ k2 _ _ w _ S.out.below (hR_out hD) H16.out).mono ?_)
         rintro e w173 ⟨rfl, h1, hb, hk⟩
         refine ⟨_, rfl, ?_⟩
         replace S := Aside0.mk (hS w173 (hR (Kd.int .i64) 3 w.heap.size (.slice A73 rs.length c74) rs1) (cl_R _ _ _ _ _) hb hk h1)
         clear hS hD hDb h1 hb hk
         have kg97_0 : w173.cell? ⟨g97, 0, none⟩ = some (.slice A93 rw.length c94) := (blk_cell (S.out.blk 7 rfl) 0).trans rfl
         have kg97_1 : w173.cell? ⟨g97, 1, none⟩ = some (.slice A95 rd.length c96) := (blk_cell (S.out.blk 7 rfl) 1).trans rfl
         have kg47_0 : w173.cell? ⟨g47, 0, none⟩ = some (.slice A41 rw.length c42) := (blk_cell (S.out.blk 12 rfl) 0).trans rfl
         have kg47_1 : w173.cell? ⟨g47, 1, none⟩ = some (.slice A43 rd.length c44) := (blk_cell (S.out.blk 12 rfl) 1).trans rfl)
      | (go_at_call 58
         (try clear kg97_0 kg97_1 kg47_0 kg47_1)
         obtain ⟨e175, q176, c177⟩ := St.readM0 S.out 8 rfl
         obtain ⟨e178, q179, c180⟩ := St.readM1 S.out 8 rfl
         obtain ⟨e181, q182, c183⟩ := St.readM0 S.out 13 rfl
         obtain ⟨e184, q185, c186⟩ := St.readM1 S.out 13 rfl
         (with_reducible refine (laws_eqMem.calls k A93 c94 rw A95 c96 rd A41 c42 rw A43 c44 rd _ _ c177 q176 c180 q179 c183 q182 c186 q185 H9.out).mono ?_)
         rintro e w174 ⟨rfl, hb⟩
         replace S := Aside0.mk (S.out.moved hb)
         clear hb e175 q176 c177 e178 q179 c180 e181 q182 c183 e184 q185 c186
         have kg99_0 : w174.cell? ⟨g99, 0, none⟩ = some (.int .i64 h0) := (blk_cell (S.out.blk 6 rfl) 0).trans rfl
         have kg99_1 : w174.cell? ⟨g99, 1, none⟩ = some (.int .i64 h1) := (blk_cell (S.out.blk 6 rfl) 1).trans rfl
         have kg99_2 : w174.cell? ⟨g99, 2, none⟩ = some (.int .i64 h2) := (blk_cell (S.out.blk 6 rfl) 2).trans rfl
         have kg99_3 : w174.cell? ⟨g99, 3, none⟩ = some (.int .i64 h3) := (blk_cell (S.out.blk 6 rfl) 3).trans rfl
         have kg51_0 : w174.cell? ⟨g51, 0, none⟩ = some (.int .i64 h0) := (blk_cell (S.out.blk 11 rfl) 0).trans rfl
         have kg51_1 : w174.cell? ⟨g51, 1, none⟩ = some (.int .i64 h1) := (blk_cell (S.out.blk 11 rfl) 1).trans rfl
         have kg51_2 : w174.cell? ⟨g51, 2, none⟩ = some (.int .i64 h2) := (blk_cell (S.out.blk 11 rfl) 2).trans rfl
         have kg51_3 : w174.cell? ⟨g51, 3, none⟩ = some (.int .i64 h3) := (blk_cell (S.out.blk 11 rfl) 3).trans rfl)
      | (go_at_call 67
         (try clear kg99_0 kg99_1 kg99_2 kg99_3 kg51_0 kg51_1 kg51_2 kg51_3)
         (with_reducible refine (laws_eqHelp.calls h0 h1 h2 h3 h0 h1 h2 h3 _ _ H11.out).mono ?_)
         rintro e w187 ⟨rfl, hb⟩
         replace S := Aside0.mk (S.out.moved hb)
         clear hb
         have kg97_0 : w187.cell? ⟨g97, 0, none⟩ = some (.slice A93 rw.length c94) := (blk_cell (S.out.blk 7 rfl) 0).trans rfl
         have kg97_1 : w187.cell? ⟨g97, 1, none⟩ = some (.slice A95 rd.length c96) := (blk_cell (S.out.blk 7 rfl) 1).trans rfl)
      | ((with_reducible refine gate_callee (f := 59) rfl ?_)
         (try clear kg97_0 kg97_1)
         replace S := Aside0.mk (show St w w (fun _ => False) [hM w.heap.size (.slice A93 rw.length c94) (.slice A95 rd.length c96) rw rd, hR (Kd.int .i64) 3 w.heap.size (.slice A73 rs.length c74) rs1, hR k166 166 w.heap.size (.slice A69 es.length c70) es1, hM w.heap.size (.slice A60 ws.length c61) (.slice A62 ds.length c63) ws1 ds1, hR (Kd.int .i64) 3 w.heap.size (.slice A159 rs.length c160) rs, hR k166 166 w.heap.size (.slice A145 es.length c146) es, hM w.heap.size (.slice A123 ws.length c124) (.slice A125 ds.length c126) ws ds, hB g99 #[.int .i64 h0, .int .i64 h1, .int .i64 h2, .int .i64 h3] 100, hB g97 #[.slice A93 rw.length c94, .slice A95 rd.length c96] 88, hB g75 #[.int .i64 a3_0, .slice A73 rs.length c74] 70, hB g64 #[.slice A60 ws.length c61, .slice A62 ds.length c63] 88, hB g51 #[.int .i64 h0, .int .i64 h1, .int .i64 h2, .int .i64 h3] 100, hB g47 #[.slice A41 rw.length c42, .slice A43 rd.length c44] 88, hM w.heap.size (.slice A41 rw.length c42) (.slice A43 rd.length c44) rw rd, hR (Kd.int .i64) 3 w.heap.size (.slice A34 rs.length c35) rs, hR k166 166 w.heap.size (.slice A28 es.length c29) es, hM w.heap.size (.slice A20 ws.length c21) (.slice A22 ds.length c23) ws ds, hB g3 #[.int .i64 a3_0, .slice A3 l3.length c3] 62, hB g1 #[.slice A0 l0.length c0, .slice A1 l1.length c1] 95] _ from S.out.bring 8 rfl)
         obtain ⟨D, hD, hDb, hS⟩ := S.out.own
         refine goesL_ (some 127) rfl rfl Try.func59 (by kernel_rfl) rfl #[.agg #[.slice A93 rw.length c94, .slice A95 rd.length c96], .int .i64 1] rfl (by (try simp only [List.map_toArray, List.map_cons, List.map_nil]); first | done | rfl) ?_
         (with_reducible refine (laws_markMem.calls k _ (.slice A93 rw.length c94) (.slice A95 rd.length c96) _ _ 1 _ _ _ w _ S.out.below hD H17.out).mono ?_)
         rintro e w188 ⟨rfl, h1, hb, hk⟩
         refine ⟨_, rfl, ?_⟩
         replace S := Aside0.mk (hS w188 (hM w.heap.size (.slice A93 rw.length c94) (.slice A95 rd.length c96) ws2 ds2) (cl_M _ _ _ _ _) hb hk h1)
         clear hS hD hDb h1 hb hk
         have kg97_0 : w188.cell? ⟨g97, 0, none⟩ = some (.slice A93 rw.length c94) := (blk_cell (S.out.blk 8 rfl) 0).trans rfl
         have kg97_1 : w188.cell? ⟨g97, 1, none⟩ = some (.slice A95 rd.length c96) := (blk_cell (S.out.blk 8 rfl) 1).trans rfl)
      | ((with_reducible refine gate_callee (f := 60) rfl ?_)
         (try clear kg97_0 kg97_1)
         obtain ⟨e190, q191, c192⟩ := St.readM0 S.out 0 rfl
         obtain ⟨e193, q194, c195⟩ := St.readM1 S.out 0 rfl
         refine goesL_ (some 130) rfl rfl Try.func60 (by kernel_rfl) rfl #[.agg #[.slice A93 rw.length c94, .slice A95 rd.length c96], .int .i64 1] rfl (by (try simp only [List.map_toArray, List.map_cons, List.map_nil]); first | done | rfl) ?_
         refine calls_of_args (args' := #[.agg #[.slice A93 ws2.length c94, .slice A95 ds2.length c96], .int .i64 1]) (by rw [e190, e193]) ?_
         (with_reducible refine (laws_heldMem.calls k A93 c94 ws2 A95 c96 ds2 1 _ _ c192 q191 c195 q194 H18.out).mono ?_)
         rintro e w189 ⟨rfl, hb⟩
         refine ⟨_, rfl, ?_⟩
         replace S := Aside0.mk (S.out.moved hb)
         clear hb e190 q191 c192 e193 q194 c195
         have kg3_0 : w189.cell? ⟨g3, 0, none⟩ = some (.int .i64 a3_0) := (blk_cell (S.out.blk 17 rfl) 0).trans rfl
         have kg3_1 : w189.cell? ⟨g3, 1, none⟩ = some (.slice A3 l3.length c3) := (blk_cell (S.out.blk 17 rfl) 1).trans rfl
         have kg1_0 : w189.cell? ⟨g1, 0, none⟩ = some (.slice A0 l0.length c0) := (blk_cell (S.out.blk 18 rfl) 0).trans rfl
         have kg1_1 : w189.cell? ⟨g1, 1, none⟩ = some (.slice A1 l1.length c1) := (blk_cell (S.out.blk 18 rfl) 1).trans rfl))
  refine start_ (n := 17) (S := fun w' => St w w (fun _ => False) [hM w.heap.size (.slice A93 rw.length c94) (.slice A95 rd.length c96) ws2 ds2, hR (Kd.int .i64) 3 w.heap.size (.slice A73 rs.length c74) rs1, hR k166 166 w.heap.size (.slice A69 es.length c70) es1, hM w.heap.size (.slice A60 ws.length c61) (.slice A62 ds.length c63) ws1 ds1, hR (Kd.int .i64) 3 w.heap.size (.slice A159 rs.length c160) rs, hR k166 166 w.heap.size (.slice A145 es.length c146) es, hM w.heap.size (.slice A123 ws.length c124) (.slice A125 ds.length c126) ws ds, hB g99 #[.int .i64 h0, .int .i64 h1, .int .i64 h2, .int .i64 h3] 100, hB g97 #[.slice A93 rw.length c94, .slice A95 rd.length c96] 88, hB g75 #[.int .i64 a3_0, .slice A73 rs.length c74] 70, hB g64 #[.slice A60 ws.length c61, .slice A62 ds.length c63] 88, hB g51 #[.int .i64 h0, .int .i64 h1, .int .i64 h2, .int .i64 h3] 100, hB g47 #[.slice A41 rw.length c42, .slice A43 rd.length c44] 88, hM w.heap.size (.slice A41 rw.length c42) (.slice A43 rd.length c44) rw rd, hR (Kd.int .i64) 3 w.heap.size (.slice A34 rs.length c35) rs, hR k166 166 w.heap.size (.slice A28 es.length c29) es, hM w.heap.size (.slice A20 ws.length c21) (.slice A22 ds.length c23) ws ds, hB g3 #[.int .i64 a3_0, .slice A3 l3.length c3] 62, hB g1 #[.slice A0 l0.length c0, .slice A1 l1.length c1] 95] w') (ds := []) #[false, false, false, false, false, false, false, false, false, false, false, false, false, false, false, false, false] (by kernel_rfl) rfl rfl (St.drew (S.out)) (fun hS_ => ?_)
  (try clear kg3_0 kg3_1 kg1_0 kg1_1)
  replace S := Aside0.mk S.out.drew
  clear hS_
  generalize w189.drew = w196 at S ⊢
  refine take_ (i := 0) (N := some 137) (v := .agg #[.slice A0 l0.length c0, .slice A1 l1.length c1]) (a' := ?at197) #[true, false, false, false, false, false, false, false, false, false, false, false, false, false, false, false, false] rfl rfl (by kernel_rfl) (fun _ _ _ h => h) (Or.inl ⟨by rfl, ?yt197⟩) (S.out) ?pt197 ?nt197
  case yt197 =>
    intro w' hS
    have kg1_0 : w'.cell? ⟨g1, 0, none⟩ = some (.slice A0 l0.length c0) := (blk_cell (hS.blk 18 rfl) 0).trans rfl
    have kg1_1 : w'.cell? ⟨g1, 1, none⟩ = some (.slice A1 l1.length c1) := (blk_cell (hS.blk 18 rfl) 1).trans rfl
    first | (go_simp; done) | (go_simp; rfl) | (go_simp; exact ⟨rfl, rfl⟩)
  case pt197 =>
    simp only [Act.put, List.setIfInBounds_toArray, List.set_cons_zero, List.set_cons_succ, i64_w, i32_w]
    rfl
  refine take_ (i := 2) (N := some 139) (v := .int .i64 a1) (a' := ?at198) #[true, false, true, false, false, false, false, false, false, false, false, false, false, false, false, false, false] rfl rfl (by kernel_rfl) (fun _ _ _ h => h) (Or.inl ⟨by rfl, ?yt198⟩) (S.out) ?pt198 ?nt198
  case yt198 =>
    intro w' hS
    first | (go_simp; done) | (go_simp; rfl) | (go_simp; exact ⟨rfl, rfl⟩)
  case pt198 =>
    simp only [Act.put, List.setIfInBounds_toArray, List.set_cons_zero, List.set_cons_succ, i64_w, i32_w]
    rfl
  refine take_ (i := 3) (N := some 140) (v := .slice A2 l2.length c2) (a' := ?at199) #[true, false, true, true, false, false, false, false, false, false, false, false, false, false, false, false, false] rfl rfl (by kernel_rfl) (fun _ _ _ h => h) (Or.inl ⟨by rfl, ?yt199⟩) (S.out) ?pt199 ?nt199
  case yt199 =>
    intro w' hS
    first | (go_simp; done) | (go_simp; rfl) | (go_simp; exact ⟨rfl, rfl⟩)
  case pt199 =>
    simp only [Act.put, List.setIfInBounds_toArray, List.set_cons_zero, List.set_cons_succ, i64_w, i32_w]
    rfl
  refine take_ (i := 5) (N := some 142) (v := .agg #[.int .i64 a3_0, .slice A3 l3.length c3]) (a' := ?at200) #[true, false, true, true, false, true, false, false, false, false, false, false, false, false, false, false, false] rfl rfl (by kernel_rfl) (fun _ _ _ h => h) (Or.inl ⟨by rfl, ?yt200⟩) (S.out) ?pt200 ?nt200
  case yt200 =>
    intro w' hS
    have kg3_0 : w'.cell? ⟨g3, 0, none⟩ = some (.int .i64 a3_0) := (blk_cell (hS.blk 17 rfl) 0).trans rfl
    have kg3_1 : w'.cell? ⟨g3, 1, none⟩ = some (.slice A3 l3.length c3) := (blk_cell (hS.blk 17 rfl) 1).trans rfl
    first | (go_simp; done) | (go_simp; rfl) | (go_simp; exact ⟨rfl, rfl⟩)
  case pt200 =>
    simp only [Act.put, List.setIfInBounds_toArray, List.set_cons_zero, List.set_cons_succ, i64_w, i32_w]
    rfl
  refine dag_ (L := [hM w.heap.size (.slice A93 rw.length c94) (.slice A95 rd.length c96) ws2 ds2, hR (Kd.int .i64) 3 w.heap.size (.slice A73 rs.length c74) rs1, hR k166 166 w.heap.size (.slice A69 es.length c70) es1, hM w.heap.size (.slice A60 ws.length c61) (.slice A62 ds.length c63) ws1 ds1, hR (Kd.int .i64) 3 w.heap.size (.slice A159 rs.length c160) rs, hR k166 166 w.heap.size (.slice A145 es.length c146) es, hM w.heap.size (.slice A123 ws.length c124) (.slice A125 ds.length c126) ws ds, hB g99 #[.int .i64 h0, .int .i64 h1, .int .i64 h2, .int .i64 h3] 100, hB g97 #[.slice A93 rw.length c94, .slice A95 rd.length c96] 88, hB g75 #[.int .i64 a3_0, .slice A73 rs.length c74] 70, hB g64 #[.slice A60 ws.length c61, .slice A62 ds.length c63] 88, hB g51 #[.int .i64 h0, .int .i64 h1, .int .i64 h2, .int .i64 h3] 100, hB g47 #[.slice A41 rw.length c42, .slice A43 rd.length c44] 88, hM w.heap.size (.slice A41 rw.length c42) (.slice A43 rd.length c44) rw rd, hR (Kd.int .i64) 3 w.heap.size (.slice A34 rs.length c35) rs, hR k166 166 w.heap.size (.slice A28 es.length c29) es, hM w.heap.size (.slice A20 ws.length c21) (.slice A22 ds.length c23) ws ds, hB g3 #[.int .i64 a3_0, .slice A3 l3.length c3] 62, hB g1 #[.slice A0 l0.length c0, .slice A1 l1.length c1] 95]) [{ i := 1, ext := [], c := 0, prev := none, pre := [], know := [], use := [1], G := fun u => hEx fun v0_ : Value => hEx fun v1_ : Value => hAnd (u 1 = .agg #[v0_, v1_]) (hM w.heap.size v0_ v1_ ws ds) }, { i := 4, ext := [], c := 1, prev := none, pre := [1], know := [], use := [4], G := fun u => hEx fun v0_ : Value => hAnd (u 4 = v0_) (hR k166 166 w.heap.size v0_ es) }, { i := 6, ext := [], c := 2, prev := none, pre := [1, 4], know := [], use := [6], G := fun u => hEx fun v1_ : Value => hAnd (u 6 = .agg #[.int .i64 a3_0, v1_]) (hR (Kd.int .i64) 3 w.heap.size v1_ rs) }, { i := 7, ext := [8, 9, 10, 11], c := 3, prev := none, pre := [1, 4, 6], know := [1, 4, 6], use := [7], G := fun u => hEx fun v0_ : Value => hEx fun v1_ : Value => hAnd (u 7 = .tuple #[.agg #[v0_, v1_], .agg #[.int .i64 h0, .int .i64 h1, .int .i64 h2, .int .i64 h3], .bool b]) (hM w.heap.size v0_ v1_ rw rd) }, { i := 12, ext := [], c := 4, prev := none, pre := [], know := [], use := [12], G := fun u => hEx fun g : Nat => hAnd (u 12 = .pointer (some ⟨g, 0, none⟩)) (hB g #[.slice none 0 0, .slice none 0 0] 88) }, { i := 13, ext := [], c := 5, prev := none, pre := [], know := [], use := [13], G := fun u => hEx fun g : Nat => hAnd (u 13 = .pointer (some ⟨g, 0, none⟩)) (hB g #[.int .i64 0, .int .i64 0, .int .i64 0, .int .i64 0] 100) }] (fun _ => hE) 6 (fun u => { tmps := #[.agg #[.slice A0 l0.length c0, .slice A1 l1.length c1], .int .i64 a1, .slice A2 l2.length c2, .agg #[.int .i64 a3_0, .slice A3 l3.length c3], .pointer (some ⟨g1, 0, none⟩), undef, undef, .pointer (some ⟨g3, 0, none⟩), .bool false, .int .i64 t2, .pointer (some ⟨g47, 0, none⟩), .pointer (some ⟨g51, 0, none⟩), .bool b, .pointer (some ⟨g64, 0, none⟩), .slice A69 es.length c70, .pointer (some ⟨g75, 0, none⟩), .pointer (some ⟨g97, 0, none⟩), .pointer (some ⟨g99, 0, none⟩), .bool b, .int .i64 k3, .int .i64 k4, .int .i64 k4, (u 12), (u 13), undef, .agg #[.slice A0 l0.length c0, .slice A1 l1.length c1], .int .i64 1048576, .int .i64 t0, .int .i64 t0, .bool false, .slice A2 l2.length c2, .int .i64 t0, .int .i64 t1, .int .i64 t1, .bool false, .agg #[.int .i64 a3_0, .slice A3 l3.length c3], .int .i64 t1, .int .i64 t2, .int .i64 t2, .bool false, .tuple #[.agg #[.slice A41 rw.length c42, .slice A43 rd.length c44], .agg #[.int .i64 h0, .int .i64 h1, .int .i64 h2, .int .i64 h3], .bool b], .agg #[.slice A0 l0.length c0, .slice A1 l1.length c1], .agg #[.slice A20 ws.length c21, .slice A22 ds.length c23], .int .i64 a1, .slice A2 l2.length c2, .slice A28 es.length c29, .agg #[.int .i64 a3_0, .slice A3 l3.length c3], .agg #[.int .i64 a3_0, .slice A34 rs.length c35], .tuple #[.agg #[.slice A41 rw.length c42, .slice A43 rd.length c44], .agg #[.int .i64 h0, .int .i64 h1, .int .i64 h2, .int .i64 h3], .bool b], .agg #[.slice A41 rw.length c42, .slice A43 rd.length c44], .agg #[.int .i64 h0, .int .i64 h1, .int .i64 h2, .int .i64 h3], .bool b, .agg #[.slice A0 l0.length c0, .slice A1 l1.length c1], .agg #[.slice A60 ws.length c61, .slice A62 ds.length c63], .slice A2 l2.length c2, .slice A69 es.length c70, .agg #[.int .i64 a3_0, .slice A3 l3.length c3], .agg #[.int .i64 a3_0, .slice A73 rs.length c74], .tuple #[.agg #[.slice A93 rw.length c94, .slice A95 rd.length c96], .agg #[.int .i64 h0, .int .i64 h1, .int .i64 h2, .int .i64 h3], .bool b], .agg #[.slice A60 ws.length c61, .slice A62 ds.length c63], .int .i64 a1, .slice A69 es.length c70, .agg #[.int .i64 a3_0, .slice A73 rs.length c74], .tuple #[.agg #[.slice A93 rw.length c94, .slice A95 rd.length c96], .agg #[.int .i64 h0, .int .i64 h1, .int .i64 h2, .int .i64 h3], .bool b], .agg #[.slice A93 rw.length c94, .slice A95 rd.length c96], .agg #[.int .i64 h0, .int .i64 h1, .int .i64 h2, .int .i64 h3], .bool b, .agg #[.slice A93 rw.length c94, .slice A95 rd.length c96], .agg #[.slice A41 rw.length c42, .slice A43 rd.length c44], .bool true, .bool false, .bool false, .agg #[.int .i64 h0, .int .i64 h1, .int .i64 h2, .int .i64 h3], .agg #[.int .i64 h0, .int .i64 h1, .int .i64 h2, .int .i64 h3], .bool true, .bool false, .bool false, .bool false, .bool b, .bool b, .bool false, .bool false, .agg #[.slice A60 ws.length c61, .slice A62 ds.length c63], .agg #[.slice A0 l0.length c0, .slice A1 l1.length c1], .agg #[.slice A123 ws.length c124, .slice A125 ds.length c126], .bool true, .bool false, .slice A69 es.length c70, .slice A2 l2.length c2, .slice A145 es.length c146, .bool true, .bool false, .agg #[.int .i64 a3_0, .slice A73 rs.length c74], .agg #[.int .i64 a3_0, .slice A3 l3.length c3], .agg #[.int .i64 a3_0, .slice A159 rs.length c160], .bool true, .bool false, .agg #[.slice A60 ws.length c61, .slice A62 ds.length c63], .int .i64 1, .int .i64 k1, .slice A69 es.length c70, .int .i64 k1, .int .i64 k2, .agg #[.int .i64 a3_0, .slice A73 rs.length c74], .int .i64 k2, .int .i64 k3, .int .i64 k3, .bool false, .bool false, .agg #[.slice A93 rw.length c94, .slice A95 rd.length c96], .agg #[.slice A41 rw.length c42, .slice A43 rd.length c44], .bool true, .bool false, .bool false, .bool false, .agg #[.int .i64 h0, .int .i64 h1, .int .i64 h2, .int .i64 h3], .agg #[.int .i64 h0, .int .i64 h1, .int .i64 h2, .int .i64 h3], .bool true, .bool false, .bool false, .bool false, .bool b, .bool b, .bool false, .bool false, .agg #[.slice A93 rw.length c94, .slice A95 rd.length c96], .int .i64 1, .int .i64 k4, .agg #[.slice A93 rw.length c94, .slice A95 rd.length c96], .int .i64 1, .int .i64 k4, .int .i64 k4, .bool false, .int .i64 k4, .int .i64 k4, .bool false, (u 7), .agg #[.slice A0 l0.length c0, .slice A1 l1.length c1], (u 1), .int .i64 a1, .slice A2 l2.length c2, (u 4), .agg #[.int .i64 a3_0, .slice A3 l3.length c3], (u 6), (u 7), (tupAt (u 7) 0), (tupAt (u 7) 1), (tupAt (u 7) 2), undef, undef, undef, undef, undef, undef, undef, undef, undef, undef, undef, undef, undef, undef, undef, undef, undef, undef, undef, undef, undef, undef, undef], defers := [] }) ?sq202 #[true, false, true, true, false, true, false, false, false, false, false, false, false, false, false, false, false] #[true, true, true, true, true, true, true, true, true, true, true, true, true, true, false, false, false] (by kernel_rfl) ?gq202 ?eq202 3 _ rfl (fun _ => undef) _ (S.out.addE.addE.addE.addE.addE.addE) ?lq202
  case sq202 =>
    intro L' w' h
    exact (h.drops L')
  case gq202 =>
    intro e he u i v hi
    simp only [List.mem_cons, List.not_mem_nil, or_false] at he
    rcases he with rfl | rfl | rfl | rfl | rfl | rfl
    · show (fun (u : Nat → Value) => (hEx fun v0_ : Value => hEx fun v1_ : Value => hAnd (u 1 = .agg #[v0_, v1_]) (hM w.heap.size v0_ v1_ ws ds) : HP)) (upds u i v) = (fun (u : Nat → Value) => (hEx fun v0_ : Value => hEx fun v1_ : Value => hAnd (u 1 = .agg #[v0_, v1_]) (hM w.heap.size v0_ v1_ ws ds) : HP)) u
      simp only [upds_ne (j := 1) hi (by rfl)]
    · show (fun (u : Nat → Value) => (hEx fun v0_ : Value => hAnd (u 4 = v0_) (hR k166 166 w.heap.size v0_ es) : HP)) (upds u i v) = (fun (u : Nat → Value) => (hEx fun v0_ : Value => hAnd (u 4 = v0_) (hR k166 166 w.heap.size v0_ es) : HP)) u
      simp only [upds_ne (j := 4) hi (by rfl)]
    · show (fun (u : Nat → Value) => (hEx fun v1_ : Value => hAnd (u 6 = .agg #[.int .i64 a3_0, v1_]) (hR (Kd.int .i64) 3 w.heap.size v1_ rs) : HP)) (upds u i v) = (fun (u : Nat → Value) => (hEx fun v1_ : Value => hAnd (u 6 = .agg #[.int .i64 a3_0, v1_]) (hR (Kd.int .i64) 3 w.heap.size v1_ rs) : HP)) u
      simp only [upds_ne (j := 6) hi (by rfl)]
    · show (fun (u : Nat → Value) => (hEx fun v0_ : Value => hEx fun v1_ : Value => hAnd (u 7 = .tuple #[.agg #[v0_, v1_], .agg #[.int .i64 h0, .int .i64 h1, .int .i64 h2, .int .i64 h3], .bool b]) (hM w.heap.size v0_ v1_ rw rd) : HP)) (upds u i v) = (fun (u : Nat → Value) => (hEx fun v0_ : Value => hEx fun v1_ : Value => hAnd (u 7 = .tuple #[.agg #[v0_, v1_], .agg #[.int .i64 h0, .int .i64 h1, .int .i64 h2, .int .i64 h3], .bool b]) (hM w.heap.size v0_ v1_ rw rd) : HP)) u
      simp only [upds_ne (j := 7) hi (by rfl)]
    · show (fun (u : Nat → Value) => (hEx fun g : Nat => hAnd (u 12 = .pointer (some ⟨g, 0, none⟩)) (hB g #[.slice none 0 0, .slice none 0 0] 88) : HP)) (upds u i v) = (fun (u : Nat → Value) => (hEx fun g : Nat => hAnd (u 12 = .pointer (some ⟨g, 0, none⟩)) (hB g #[.slice none 0 0, .slice none 0 0] 88) : HP)) u
      simp only [upds_ne (j := 12) hi (by rfl)]
    · show (fun (u : Nat → Value) => (hEx fun g : Nat => hAnd (u 13 = .pointer (some ⟨g, 0, none⟩)) (hB g #[.int .i64 0, .int .i64 0, .int .i64 0, .int .i64 0] 100) : HP)) (upds u i v) = (fun (u : Nat → Value) => (hEx fun g : Nat => hAnd (u 13 = .pointer (some ⟨g, 0, none⟩)) (hB g #[.int .i64 0, .int .i64 0, .int .i64 0, .int .i64 0] 100) : HP)) u
      simp only [upds_ne (j := 13) hi (by rfl)]
  case eq202 =>
    intro e he
    simp only [List.mem_cons, List.not_mem_nil, or_false] at he
    rcases he with rfl | rfl | rfl | rfl | rfl | rfl
    · refine ⟨_, rfl, fun u w' LL l fuel hst hL hk hx K hK => ?_⟩
      replace hst : St w w (fun _ => False) ((hE) :: LL) w' := hst
      refine goes_ Try.func64 (by kernel_rfl) rfl #[.agg #[.slice A0 l0.length c0, .slice A1 l1.length c1]] (by rfl) rfl rfl (by (try simp only [List.map_toArray, List.map_cons, List.map_nil]); first | done | rfl | (show (#[.agg #[.slice A0 l0.length c0, .slice A1 l1.length c1]] : Array Value) = _; (try rw [hst]) <;> rfl)) ?_
      (with_reducible refine (laws_toMem.calls k A0 c0 l0 A1 c1 l1 _ _ _ (Kd.C_below HR0.out hst.below) HC0.out (Kd.C_below HR1.out hst.below) HC1.out H4.out).mono ?_)
      rintro e w2_ ⟨z0_, z1_, rfl, h0_, h1_, hb⟩
      refine ⟨_, rfl, ?_⟩
      refine hK _ _ _ ((hst.drop.madeM h0_ h1_ hb).weaken (fun D W h => ⟨z0_, z1_, rfl, h⟩)) (fun hW => ?_)
      exact hW
    · refine ⟨_, rfl, fun u w' LL l fuel hst hL hk hx K hK => ?_⟩
      replace hst : St w w (fun _ => False) ((hE) :: LL) w' := hst
      refine goes_ Try.func65 (by kernel_rfl) rfl #[.slice A2 l2.length c2] (by rfl) rfl rfl (by (try simp only [List.map_toArray, List.map_cons, List.map_nil]); first | done | rfl | (show (#[.slice A2 l2.length c2] : Array Value) = _; (try rw [hst]) <;> rfl)) ?_
      (with_reducible refine (laws_toEntryS.calls k A2 c2 l2 _ _ (Kd.C_below HR2.out hst.below) HC2.out H5.out).mono ?_)
      rintro e w2_ ⟨z0_, rfl, h0_, hb⟩
      refine ⟨_, rfl, ?_⟩
      refine hK _ _ _ ((hst.drop.madeR h0_ hb).weaken (fun D W h => ⟨z0_, rfl, h⟩)) (fun hW => ?_)
      exact hW
    · refine ⟨_, rfl, fun u w' LL l fuel hst hL hk hx K hK => ?_⟩
      replace hst : St w w (fun _ => False) ((hE) :: LL) w' := hst
      refine goes_ Try.func37 (by kernel_rfl) rfl #[.agg #[.int .i64 a3_0, .slice A3 l3.length c3]] (by rfl) rfl rfl (by (try simp only [List.map_toArray, List.map_cons, List.map_nil]); first | done | rfl | (show (#[.agg #[.int .i64 a3_0, .slice A3 l3.length c3]] : Array Value) = _; (try rw [hst]) <;> rfl)) ?_
      (with_reducible refine (laws_toRes.calls k a3_0 A3 c3 l3 _ _ _ (Kd.C_below HR3.out hst.below) HC3.out H6.out).mono ?_)
      rintro e w2_ ⟨z0_, rfl, h0_, hb⟩
      refine ⟨_, rfl, ?_⟩
      refine hK _ _ _ ((hst.drop.madeR h0_ hb).weaken (fun D W h => ⟨z0_, rfl, h⟩)) (fun hW => ?_)
      exact hW
    · refine ⟨_, rfl, fun u w' LL l fuel hst hL hk hx K hK => ?_⟩
      replace hst : St w w (fun _ => False) ((hE) :: LL) w' := hst
      obtain ⟨D1, hD1⟩ := hst.mem (List.mem_cons_of_mem _ (hk 1 (show 1 ∈ [1, 4, 6] from by decide)))
      obtain ⟨v1_0, v1_1, y1, hD1⟩ := (show (hEx fun v0_ : Value => hEx fun v1_ : Value => hAnd (u 1 = .agg #[v0_, v1_]) (hM w.heap.size v0_ v1_ ws ds)) D1 w' from hD1)
      obtain ⟨A1_0, c1_0, A1_1, c1_1, rfl, rfl⟩ := M_forms hD1
      obtain ⟨D4, hD4⟩ := hst.mem (List.mem_cons_of_mem _ (hk 4 (show 4 ∈ [1, 4, 6] from by decide)))
      obtain ⟨v4_0, y4, hD4⟩ := (show (hEx fun v0_ : Value => hAnd (u 4 = v0_) (hR k166 166 w.heap.size v0_ es)) D4 w' from hD4)
      obtain ⟨A4_0, c4_0, rfl⟩ := Kd.R_slice (hR_out hD4)
      obtain ⟨D6, hD6⟩ := hst.mem (List.mem_cons_of_mem _ (hk 6 (show 6 ∈ [1, 4, 6] from by decide)))
      obtain ⟨v6_0, y6, hD6⟩ := (show (hEx fun v1_ : Value => hAnd (u 6 = .agg #[.int .i64 a3_0, v1_]) (hR (Kd.int .i64) 3 w.heap.size v1_ rs)) D6 w' from hD6)
      obtain ⟨A6_0, c6_0, rfl⟩ := Kd.R_slice (hR_out hD6)
      refine goes_ Try.func66 (by kernel_rfl) rfl #[.agg #[.slice A1_0 ws.length c1_0, .slice A1_1 ds.length c1_1], .int .i64 a1, .slice A4_0 es.length c4_0, .agg #[.int .i64 a3_0, .slice A6_0 rs.length c6_0]] (by rfl) rfl rfl (by (try simp only [List.map_toArray, List.map_cons, List.map_nil]); first | done | rfl | (show (#[u 1, .int .i64 a1, u 4, u 6] : Array Value) = _; (try rw [y1, y4, y6]) <;> rfl)) ?_
      (with_reducible refine (impl_Begin.calls k A1_0 c1_0 ws A1_1 c1_1 ds a1 A4_0 c4_0 es a3_0 A6_0 c6_0 rs _ _ _ _ _ _ _ _ (M_read0 hD1).2.2 (M_read0 hD1).2.1 (M_read1 hD1).2.2 (M_read1 hD1).2.1 (Kd.R_reads' (hR_out hD4)).2.2 (Kd.R_reads' (hR_out hD4)).2.1 (Kd.R_reads' (hR_out hD6)).2.2 (Kd.R_reads' (hR_out hD6)).2.1 H8.out).mono ?_)
      rintro e w2_ ⟨z0_, z1_, rfl, h0_, h1_, hb⟩
      refine ⟨_, rfl, ?_⟩
      refine hK _ _ _ ((hst.drop.madeM h0_ h1_ hb).weaken (fun D W h => ⟨z0_, z1_, rfl, h⟩)) (fun hW => ?_)
      obtain ⟨hx0_, hx⟩ := Bool.and_eq_true_iff.mp (show (_ && _) = true from hx)
      refine pure_ (i := 8) (N := some 136) _ rfl rfl hx0_ (fun _ _ _ h => h) (Or.inl ⟨by rfl, fun w => by rfl⟩) rfl ?_
      obtain ⟨hx1_, hx⟩ := Bool.and_eq_true_iff.mp (show (_ && _) = true from hx)
      refine pure_ (i := 9) (N := some 145) _ rfl rfl hx1_ (fun _ _ _ h => h) (Or.inl ⟨by rfl, fun w => by rfl⟩) rfl ?_
      obtain ⟨hx2_, hx⟩ := Bool.and_eq_true_iff.mp (show (_ && _) = true from hx)
      refine pure_ (i := 10) (N := some 146) _ rfl rfl hx2_ (fun _ _ _ h => h) (Or.inl ⟨by rfl, fun w => by rfl⟩) rfl ?_
      obtain ⟨hx3_, hx⟩ := Bool.and_eq_true_iff.mp (show (_ && _) = true from hx)
      refine pure_ (i := 11) (N := some 147) _ rfl rfl hx3_ (fun _ _ _ h => h) (Or.inl ⟨by rfl, fun w => by rfl⟩) rfl ?_
      exact hW
    · refine ⟨_, rfl, fun u w' LL l fuel hst hL hk hx K hK => ?_⟩
      replace hst : St w w (fun _ => False) ((hE) :: LL) w' := hst
      refine value_ (N := some 22) (v := .pointer (some ⟨w'.heap.size, 0, none⟩)) (w1 := w'.alloc (.cells #[.slice none 0 0, .slice none 0 0] 88 (0, 0))) (by rfl) rfl (by first | (go_simp; done) | (go_simp; rfl) | (go_simp; exact ⟨rfl, rfl⟩)) ?_
      refine hK _ _ _ ((hst.drop.box rfl (blk_new _ _) (below_alloc (Below.refl _ _) _)).weaken (fun D W h => ⟨_, rfl, h⟩)) (fun hW => ?_)
      exact hW
    · refine ⟨_, rfl, fun u w' LL l fuel hst hL hk hx K hK => ?_⟩
      replace hst : St w w (fun _ => False) ((hE) :: LL) w' := hst
      refine value_ (N := some 23) (v := .pointer (some ⟨w'.heap.size, 0, none⟩)) (w1 := w'.alloc (.cells #[.int .i64 0, .int .i64 0, .int .i64 0, .int .i64 0] 100 (0, 0))) (by rfl) rfl (by first | (go_simp; done) | (go_simp; rfl) | (go_simp; exact ⟨rfl, rfl⟩)) ?_
      refine hK _ _ _ ((hst.drop.box rfl (blk_new _ _) (below_alloc (Below.refl _ _) _)).weaken (fun D W h => ⟨_, rfl, h⟩)) (fun hW => ?_)
      exact hW
  intro u w203 hS_
  replace S := Aside0.mk (show St w w (fun _ => False) ((hEx fun v0_ : Value => hEx fun v1_ : Value => hAnd (u 1 = .agg #[v0_, v1_]) (hM w.heap.size v0_ v1_ ws ds)) :: (hEx fun v0_ : Value => hAnd (u 4 = v0_) (hR k166 166 w.heap.size v0_ es)) :: (hEx fun v1_ : Value => hAnd (u 6 = .agg #[.int .i64 a3_0, v1_]) (hR (Kd.int .i64) 3 w.heap.size v1_ rs)) :: (hEx fun v0_ : Value => hEx fun v1_ : Value => hAnd (u 7 = .tuple #[.agg #[v0_, v1_], .agg #[.int .i64 h0, .int .i64 h1, .int .i64 h2, .int .i64 h3], .bool b]) (hM w.heap.size v0_ v1_ rw rd)) :: (hEx fun g : Nat => hAnd (u 12 = .pointer (some ⟨g, 0, none⟩)) (hB g #[.slice none 0 0, .slice none 0 0] 88)) :: (hEx fun g : Nat => hAnd (u 13 = .pointer (some ⟨g, 0, none⟩)) (hB g #[.int .i64 0, .int .i64 0, .int .i64 0, .int .i64 0] 100)) :: [hM w.heap.size (.slice A93 rw.length c94) (.slice A95 rd.length c96) ws2 ds2, hR (Kd.int .i64) 3 w.heap.size (.slice A73 rs.length c74) rs1, hR k166 166 w.heap.size (.slice A69 es.length c70) es1, hM w.heap.size (.slice A60 ws.length c61) (.slice A62 ds.length c63) ws1 ds1, hR (Kd.int .i64) 3 w.heap.size (.slice A159 rs.length c160) rs, hR k166 166 w.heap.size (.slice A145 es.length c146) es, hM w.heap.size (.slice A123 ws.length c124) (.slice A125 ds.length c126) ws ds, hB g99 #[.int .i64 h0, .int .i64 h1, .int .i64 h2, .int .i64 h3] 100, hB g97 #[.slice A93 rw.length c94, .slice A95 rd.length c96] 88, hB g75 #[.int .i64 a3_0, .slice A73 rs.length c74] 70, hB g64 #[.slice A60 ws.length c61, .slice A62 ds.length c63] 88, hB g51 #[.int .i64 h0, .int .i64 h1, .int .i64 h2, .int .i64 h3] 100, hB g47 #[.slice A41 rw.length c42, .slice A43 rd.length c44] 88, hM w.heap.size (.slice A41 rw.length c42) (.slice A43 rd.length c44) rw rd, hR (Kd.int .i64) 3 w.heap.size (.slice A34 rs.length c35) rs, hR k166 166 w.heap.size (.slice A28 es.length c29) es, hM w.heap.size (.slice A20 ws.length c21) (.slice A22 ds.length c23) ws ds, hB g3 #[.int .i64 a3_0, .slice A3 l3.length c3] 62, hB g1 #[.slice A0 l0.length c0, .slice A1 l1.length c1] 95]) w203 from hS_)
  clear hS_
  have h204 := S.out.bring 0 rfl
  obtain ⟨v205, h204⟩ := h204.open_ex (fun _ => (cl_ex fun _ => (cl_and (cl_M _ _ _ _ _))))
  obtain ⟨v206, h204⟩ := h204.open_ex (fun _ => (cl_and (cl_M _ _ _ _ _)))
  obtain ⟨y207, h204⟩ := h204.open_and (cl_M _ _ _ _ _)
  obtain ⟨D_, hD_⟩ := h204.nth 0 rfl
  obtain ⟨A208, c209, A210, c211, rfl, rfl⟩ := M_forms hD_
  clear hD_ D_
  replace S := Aside0.mk h204
  clear h204
  obtain ⟨x212, hx212⟩ : ∃ x_, u 1 = x_ := ⟨_, rfl⟩
  (try rw [hx212] at S)
  rw [hx212] at y207
  subst y207
  (try rw [hx212])
  have h213 := S.out.bring 1 rfl
  obtain ⟨v214, h213⟩ := h213.open_ex (fun _ => (cl_and (cl_R _ _ _ _ _)))
  obtain ⟨y215, h213⟩ := h213.open_and (cl_R _ _ _ _ _)
  obtain ⟨D_, hD_⟩ := h213.nth 0 rfl
  obtain ⟨A216, c217, rfl⟩ := Kd.R_slice (hR_out hD_)
  clear hD_ D_
  replace S := Aside0.mk h213
  clear h213
  obtain ⟨x218, hx218⟩ : ∃ x_, u 4 = x_ := ⟨_, rfl⟩
  (try rw [hx218] at S)
  rw [hx218] at y215
  subst y215
  (try rw [hx218])
  have h219 := S.out.bring 2 rfl
  obtain ⟨v220, h219⟩ := h219.open_ex (fun _ => (cl_and (cl_R _ _ _ _ _)))
  obtain ⟨y221, h219⟩ := h219.open_and (cl_R _ _ _ _ _)
  obtain ⟨D_, hD_⟩ := h219.nth 0 rfl
  obtain ⟨A222, c223, rfl⟩ := Kd.R_slice (hR_out hD_)
  clear hD_ D_
  replace S := Aside0.mk h219
  clear h219
  obtain ⟨x224, hx224⟩ : ∃ x_, u 6 = x_ := ⟨_, rfl⟩
  (try rw [hx224] at S)
  rw [hx224] at y221
  subst y221
  (try rw [hx224])
  have h225 := S.out.bring 3 rfl
  obtain ⟨v226, h225⟩ := h225.open_ex (fun _ => (cl_ex fun _ => (cl_and (cl_M _ _ _ _ _))))
  obtain ⟨v227, h225⟩ := h225.open_ex (fun _ => (cl_and (cl_M _ _ _ _ _)))
  obtain ⟨y228, h225⟩ := h225.open_and (cl_M _ _ _ _ _)
  obtain ⟨D_, hD_⟩ := h225.nth 0 rfl
  obtain ⟨A229, c230, A231, c232, rfl, rfl⟩ := M_forms hD_
  clear hD_ D_
  replace S := Aside0.mk h225
  clear h225
  obtain ⟨x233, hx233⟩ : ∃ x_, u 7 = x_ := ⟨_, rfl⟩
  (try rw [hx233] at S)
  rw [hx233] at y228
  subst y228
  (try rw [hx233])
  have h234 := S.out.bring 4 rfl
  obtain ⟨g235, h234⟩ := h234.open_ex (fun _ => cl_and (cl_B _ _ _))
  obtain ⟨y236, h234⟩ := h234.open_and (cl_B _ _ _)
  replace S := Aside0.mk h234
  clear h234
  obtain ⟨x237, hx237⟩ : ∃ x_, u 12 = x_ := ⟨_, rfl⟩
  (try rw [hx237] at S)
  rw [hx237] at y236
  subst y236
  (try rw [hx237])
  have h238 := S.out.bring 5 rfl
  obtain ⟨g239, h238⟩ := h238.open_ex (fun _ => cl_and (cl_B _ _ _))
  obtain ⟨y240, h238⟩ := h238.open_and (cl_B _ _ _)
  replace S := Aside0.mk h238
  clear h238
  obtain ⟨x241, hx241⟩ : ∃ x_, u 13 = x_ := ⟨_, rfl⟩
  (try rw [hx241] at S)
  rw [hx241] at y240
  subst y240
  (try rw [hx241])
  replace S : Aside0 (St w w (fun _ => False) [hB g239 #[.int .i64 0, .int .i64 0, .int .i64 0, .int .i64 0] 100, hB g235 #[.slice none 0 0, .slice none 0 0] 88, hM w.heap.size (.slice A229 rw.length c230) (.slice A231 rd.length c232) rw rd, hR (Kd.int .i64) 3 w.heap.size (.slice A222 rs.length c223) rs, hR k166 166 w.heap.size (.slice A216 es.length c217) es, hM w.heap.size (.slice A208 ws.length c209) (.slice A210 ds.length c211) ws ds, hM w.heap.size (.slice A93 rw.length c94) (.slice A95 rd.length c96) ws2 ds2, hR (Kd.int .i64) 3 w.heap.size (.slice A73 rs.length c74) rs1, hR k166 166 w.heap.size (.slice A69 es.length c70) es1, hM w.heap.size (.slice A60 ws.length c61) (.slice A62 ds.length c63) ws1 ds1, hR (Kd.int .i64) 3 w.heap.size (.slice A159 rs.length c160) rs, hR k166 166 w.heap.size (.slice A145 es.length c146) es, hM w.heap.size (.slice A123 ws.length c124) (.slice A125 ds.length c126) ws ds, hB g99 #[.int .i64 h0, .int .i64 h1, .int .i64 h2, .int .i64 h3] 100, hB g97 #[.slice A93 rw.length c94, .slice A95 rd.length c96] 88, hB g75 #[.int .i64 a3_0, .slice A73 rs.length c74] 70, hB g64 #[.slice A60 ws.length c61, .slice A62 ds.length c63] 88, hB g51 #[.int .i64 h0, .int .i64 h1, .int .i64 h2, .int .i64 h3] 100, hB g47 #[.slice A41 rw.length c42, .slice A43 rd.length c44] 88, hM w.heap.size (.slice A41 rw.length c42) (.slice A43 rd.length c44) rw rd, hR (Kd.int .i64) 3 w.heap.size (.slice A34 rs.length c35) rs, hR k166 166 w.heap.size (.slice A28 es.length c29) es, hM w.heap.size (.slice A20 ws.length c21) (.slice A22 ds.length c23) ws ds, hB g3 #[.int .i64 a3_0, .slice A3 l3.length c3] 62, hB g1 #[.slice A0 l0.length c0, .slice A1 l1.length c1] 95] _) := S
  refine norm_ (a' := { tmps := #[.agg #[.slice A0 l0.length c0, .slice A1 l1.length c1], .int .i64 a1, .slice A2 l2.length c2, .agg #[.int .i64 a3_0, .slice A3 l3.length c3], .pointer (some ⟨g1, 0, none⟩), undef, undef, .pointer (some ⟨g3, 0, none⟩), .bool false, .int .i64 t2, .pointer (some ⟨g47, 0, none⟩), .pointer (some ⟨g51, 0, none⟩), .bool b, .pointer (some ⟨g64, 0, none⟩), .slice A69 es.length c70, .pointer (some ⟨g75, 0, none⟩), .pointer (some ⟨g97, 0, none⟩), .pointer (some ⟨g99, 0, none⟩), .bool b, .int .i64 k3, .int .i64 k4, .int .i64 k4, .pointer (some ⟨g235, 0, none⟩), .pointer (some ⟨g239, 0, none⟩), undef, .agg #[.slice A0 l0.length c0, .slice A1 l1.length c1], .int .i64 1048576, .int .i64 t0, .int .i64 t0, .bool false, .slice A2 l2.length c2, .int .i64 t0, .int .i64 t1, .int .i64 t1, .bool false, .agg #[.int .i64 a3_0, .slice A3 l3.length c3], .int .i64 t1, .int .i64 t2, .int .i64 t2, .bool false, .tuple #[.agg #[.slice A41 rw.length c42, .slice A43 rd.length c44], .agg #[.int .i64 h0, .int .i64 h1, .int .i64 h2, .int .i64 h3], .bool b], .agg #[.slice A0 l0.length c0, .slice A1 l1.length c1], .agg #[.slice A20 ws.length c21, .slice A22 ds.length c23], .int .i64 a1, .slice A2 l2.length c2, .slice A28 es.length c29, .agg #[.int .i64 a3_0, .slice A3 l3.length c3], .agg #[.int .i64 a3_0, .slice A34 rs.length c35], .tuple #[.agg #[.slice A41 rw.length c42, .slice A43 rd.length c44], .agg #[.int .i64 h0, .int .i64 h1, .int .i64 h2, .int .i64 h3], .bool b], .agg #[.slice A41 rw.length c42, .slice A43 rd.length c44], .agg #[.int .i64 h0, .int .i64 h1, .int .i64 h2, .int .i64 h3], .bool b, .agg #[.slice A0 l0.length c0, .slice A1 l1.length c1], .agg #[.slice A60 ws.length c61, .slice A62 ds.length c63], .slice A2 l2.length c2, .slice A69 es.length c70, .agg #[.int .i64 a3_0, .slice A3 l3.length c3], .agg #[.int .i64 a3_0, .slice A73 rs.length c74], .tuple #[.agg #[.slice A93 rw.length c94, .slice A95 rd.length c96], .agg #[.int .i64 h0, .int .i64 h1, .int .i64 h2, .int .i64 h3], .bool b], .agg #[.slice A60 ws.length c61, .slice A62 ds.length c63], .int .i64 a1, .slice A69 es.length c70, .agg #[.int .i64 a3_0, .slice A73 rs.length c74], .tuple #[.agg #[.slice A93 rw.length c94, .slice A95 rd.length c96], .agg #[.int .i64 h0, .int .i64 h1, .int .i64 h2, .int .i64 h3], .bool b], .agg #[.slice A93 rw.length c94, .slice A95 rd.length c96], .agg #[.int .i64 h0, .int .i64 h1, .int .i64 h2, .int .i64 h3], .bool b, .agg #[.slice A93 rw.length c94, .slice A95 rd.length c96], .agg #[.slice A41 rw.length c42, .slice A43 rd.length c44], .bool true, .bool false, .bool false, .agg #[.int .i64 h0, .int .i64 h1, .int .i64 h2, .int .i64 h3], .agg #[.int .i64 h0, .int .i64 h1, .int .i64 h2, .int .i64 h3], .bool true, .bool false, .bool false, .bool false, .bool b, .bool b, .bool false, .bool false, .agg #[.slice A60 ws.length c61, .slice A62 ds.length c63], .agg #[.slice A0 l0.length c0, .slice A1 l1.length c1], .agg #[.slice A123 ws.length c124, .slice A125 ds.length c126], .bool true, .bool false, .slice A69 es.length c70, .slice A2 l2.length c2, .slice A145 es.length c146, .bool true, .bool false, .agg #[.int .i64 a3_0, .slice A73 rs.length c74], .agg #[.int .i64 a3_0, .slice A3 l3.length c3], .agg #[.int .i64 a3_0, .slice A159 rs.length c160], .bool true, .bool false, .agg #[.slice A60 ws.length c61, .slice A62 ds.length c63], .int .i64 1, .int .i64 k1, .slice A69 es.length c70, .int .i64 k1, .int .i64 k2, .agg #[.int .i64 a3_0, .slice A73 rs.length c74], .int .i64 k2, .int .i64 k3, .int .i64 k3, .bool false, .bool false, .agg #[.slice A93 rw.length c94, .slice A95 rd.length c96], .agg #[.slice A41 rw.length c42, .slice A43 rd.length c44], .bool true, .bool false, .bool false, .bool false, .agg #[.int .i64 h0, .int .i64 h1, .int .i64 h2, .int .i64 h3], .agg #[.int .i64 h0, .int .i64 h1, .int .i64 h2, .int .i64 h3], .bool true, .bool false, .bool false, .bool false, .bool b, .bool b, .bool false, .bool false, .agg #[.slice A93 rw.length c94, .slice A95 rd.length c96], .int .i64 1, .int .i64 k4, .agg #[.slice A93 rw.length c94, .slice A95 rd.length c96], .int .i64 1, .int .i64 k4, .int .i64 k4, .bool false, .int .i64 k4, .int .i64 k4, .bool false, .tuple #[.agg #[.slice A229 rw.length c230, .slice A231 rd.length c232], .agg #[.int .i64 h0, .int .i64 h1, .int .i64 h2, .int .i64 h3], .bool b], .agg #[.slice A0 l0.length c0, .slice A1 l1.length c1], .agg #[.slice A208 ws.length c209, .slice A210 ds.length c211], .int .i64 a1, .slice A2 l2.length c2, .slice A216 es.length c217, .agg #[.int .i64 a3_0, .slice A3 l3.length c3], .agg #[.int .i64 a3_0, .slice A222 rs.length c223], .tuple #[.agg #[.slice A229 rw.length c230, .slice A231 rd.length c232], .agg #[.int .i64 h0, .int .i64 h1, .int .i64 h2, .int .i64 h3], .bool b], .agg #[.slice A229 rw.length c230, .slice A231 rd.length c232], .agg #[.int .i64 h0, .int .i64 h1, .int .i64 h2, .int .i64 h3], .bool b, undef, undef, undef, undef, undef, undef, undef, undef, undef, undef, undef, undef, undef, undef, undef, undef, undef, undef, undef, undef, undef, undef, undef], defers := [] }) (by first | rfl | (simp only [tupAt]; rfl)) ?_
  refine one_ (i := 14) (N := none) #[true, true, true, true, true, true, true, true, true, true, true, true, true, true, true, false, false] rfl rfl (by kernel_rfl) (by decide) (fun K hK => ?_)
  replace S := Aside0.mk (show St w w (fun _ => False) [hB g235 #[.slice none 0 0, .slice none 0 0] 88, hB g239 #[.int .i64 0, .int .i64 0, .int .i64 0, .int .i64 0] 100, hM w.heap.size (.slice A229 rw.length c230) (.slice A231 rd.length c232) rw rd, hR (Kd.int .i64) 3 w.heap.size (.slice A222 rs.length c223) rs, hR k166 166 w.heap.size (.slice A216 es.length c217) es, hM w.heap.size (.slice A208 ws.length c209) (.slice A210 ds.length c211) ws ds, hM w.heap.size (.slice A93 rw.length c94) (.slice A95 rd.length c96) ws2 ds2, hR (Kd.int .i64) 3 w.heap.size (.slice A73 rs.length c74) rs1, hR k166 166 w.heap.size (.slice A69 es.length c70) es1, hM w.heap.size (.slice A60 ws.length c61) (.slice A62 ds.length c63) ws1 ds1, hR (Kd.int .i64) 3 w.heap.size (.slice A159 rs.length c160) rs, hR k166 166 w.heap.size (.slice A145 es.length c146) es, hM w.heap.size (.slice A123 ws.length c124) (.slice A125 ds.length c126) ws ds, hB g99 #[.int .i64 h0, .int .i64 h1, .int .i64 h2, .int .i64 h3] 100, hB g97 #[.slice A93 rw.length c94, .slice A95 rd.length c96] 88, hB g75 #[.int .i64 a3_0, .slice A73 rs.length c74] 70, hB g64 #[.slice A60 ws.length c61, .slice A62 ds.length c63] 88, hB g51 #[.int .i64 h0, .int .i64 h1, .int .i64 h2, .int .i64 h3] 100, hB g47 #[.slice A41 rw.length c42, .slice A43 rd.length c44] 88, hM w.heap.size (.slice A41 rw.length c42) (.slice A43 rd.length c44) rw rd, hR (Kd.int .i64) 3 w.heap.size (.slice A34 rs.length c35) rs, hR k166 166 w.heap.size (.slice A28 es.length c29) es, hM w.heap.size (.slice A20 ws.length c21) (.slice A22 ds.length c23) ws ds, hB g3 #[.int .i64 a3_0, .slice A3 l3.length c3] 62, hB g1 #[.slice A0 l0.length c0, .slice A1 l1.length c1] 95] _ from S.out.bring 1 rfl)
  have kg235_0 : w203.cell? ⟨g235, 0, none⟩ = some (.slice none 0 0) := (blk_cell (S.out.blk 0 rfl) 0).trans rfl
  have zg235_0 := blk_frozen (S.out.blk 0 rfl) 0
  have kg235_1 : w203.cell? ⟨g235, 1, none⟩ = some (.slice none 0 0) := (blk_cell (S.out.blk 0 rfl) 1).trans rfl
  have zg235_1 := blk_frozen (S.out.blk 0 rfl) 1
  refine skip_ (w1 := ((w203.setCell ⟨g235, 0, none⟩ (.slice A229 rw.length c230)).setCell ⟨g235, 1, none⟩ (.slice A231 rd.length c232))) (by rfl) rfl (by first | (go_simp; done) | (go_simp; rfl) | (go_simp; exact ⟨rfl, rfl⟩)) ?_
  clear kg235_0 zg235_0 kg235_1 zg235_1
  obtain ⟨w242, hw_⟩ : ∃ x_, x_ = ((w203.setCell ⟨g235, 0, none⟩ (.slice A229 rw.length c230)).setCell ⟨g235, 1, none⟩ (.slice A231 rd.length c232)) := ⟨_, rfl⟩
  rw [← hw_]
  replace S : Aside0 (St w w (fun _ => False) [hB g235 #[.slice A229 rw.length c230, .slice A231 rd.length c232] 88, hB g239 #[.int .i64 0, .int .i64 0, .int .i64 0, .int .i64 0] 100, hM w.heap.size (.slice A229 rw.length c230) (.slice A231 rd.length c232) rw rd, hR (Kd.int .i64) 3 w.heap.size (.slice A222 rs.length c223) rs, hR k166 166 w.heap.size (.slice A216 es.length c217) es, hM w.heap.size (.slice A208 ws.length c209) (.slice A210 ds.length c211) ws ds, hM w.heap.size (.slice A93 rw.length c94) (.slice A95 rd.length c96) ws2 ds2, hR (Kd.int .i64) 3 w.heap.size (.slice A73 rs.length c74) rs1, hR k166 166 w.heap.size (.slice A69 es.length c70) es1, hM w.heap.size (.slice A60 ws.length c61) (.slice A62 ds.length c63) ws1 ds1, hR (Kd.int .i64) 3 w.heap.size (.slice A159 rs.length c160) rs, hR k166 166 w.heap.size (.slice A145 es.length c146) es, hM w.heap.size (.slice A123 ws.length c124) (.slice A125 ds.length c126) ws ds, hB g99 #[.int .i64 h0, .int .i64 h1, .int .i64 h2, .int .i64 h3] 100, hB g97 #[.slice A93 rw.length c94, .slice A95 rd.length c96] 88, hB g75 #[.int .i64 a3_0, .slice A73 rs.length c74] 70, hB g64 #[.slice A60 ws.length c61, .slice A62 ds.length c63] 88, hB g51 #[.int .i64 h0, .int .i64 h1, .int .i64 h2, .int .i64 h3] 100, hB g47 #[.slice A41 rw.length c42, .slice A43 rd.length c44] 88, hM w.heap.size (.slice A41 rw.length c42) (.slice A43 rd.length c44) rw rd, hR (Kd.int .i64) 3 w.heap.size (.slice A34 rs.length c35) rs, hR k166 166 w.heap.size (.slice A28 es.length c29) es, hM w.heap.size (.slice A20 ws.length c21) (.slice A22 ds.length c23) ws ds, hB g3 #[.int .i64 a3_0, .slice A3 l3.length c3] 62, hB g1 #[.slice A0 l0.length c0, .slice A1 l1.length c1] 95] w242) := Aside0.mk (by rw [hw_]; exact ((S.out.put 0 (.slice A229 rw.length c230) rfl).put 1 (.slice A231 rd.length c232) rfl))
  clear hw_
  refine hK _ _ (S.out.drop.drop.drop.drop.drop.drop) (fun _ => ?_)
  refine one_ (i := 15) (N := none) #[true, true, true, true, true, true, true, true, true, true, true, true, true, true, true, true, false] rfl rfl (by kernel_rfl) (by decide) (fun K hK => ?_)
  replace S := Aside0.mk (show St w w (fun _ => False) [hB g239 #[.int .i64 0, .int .i64 0, .int .i64 0, .int .i64 0] 100, hB g235 #[.slice A229 rw.length c230, .slice A231 rd.length c232] 88, hM w.heap.size (.slice A229 rw.length c230) (.slice A231 rd.length c232) rw rd, hR (Kd.int .i64) 3 w.heap.size (.slice A222 rs.length c223) rs, hR k166 166 w.heap.size (.slice A216 es.length c217) es, hM w.heap.size (.slice A208 ws.length c209) (.slice A210 ds.length c211) ws ds, hM w.heap.size (.slice A93 rw.length c94) (.slice A95 rd.length c96) ws2 ds2, hR (Kd.int .i64) 3 w.heap.size (.slice A73 rs.length c74) rs1, hR k166 166 w.heap.size (.slice A69 es.length c70) es1, hM w.heap.size (.slice A60 ws.length c61) (.slice A62 ds.length c63) ws1 ds1, hR (Kd.int .i64) 3 w.heap.size (.slice A159 rs.length c160) rs, hR k166 166 w.heap.size (.slice A145 es.length c146) es, hM w.heap.size (.slice A123 ws.length c124) (.slice A125 ds.length c126) ws ds, hB g99 #[.int .i64 h0, .int .i64 h1, .int .i64 h2, .int .i64 h3] 100, hB g97 #[.slice A93 rw.length c94, .slice A95 rd.length c96] 88, hB g75 #[.int .i64 a3_0, .slice A73 rs.length c74] 70, hB g64 #[.slice A60 ws.length c61, .slice A62 ds.length c63] 88, hB g51 #[.int .i64 h0, .int .i64 h1, .int .i64 h2, .int .i64 h3] 100, hB g47 #[.slice A41 rw.length c42, .slice A43 rd.length c44] 88, hM w.heap.size (.slice A41 rw.length c42) (.slice A43 rd.length c44) rw rd, hR (Kd.int .i64) 3 w.heap.size (.slice A34 rs.length c35) rs, hR k166 166 w.heap.size (.slice A28 es.length c29) es, hM w.heap.size (.slice A20 ws.length c21) (.slice A22 ds.length c23) ws ds, hB g3 #[.int .i64 a3_0, .slice A3 l3.length c3] 62, hB g1 #[.slice A0 l0.length c0, .slice A1 l1.length c1] 95] _ from S.out.bring 1 rfl)
  have kg239_0 : w242.cell? ⟨g239, 0, none⟩ = some (.int .i64 0) := (blk_cell (S.out.blk 0 rfl) 0).trans rfl
  have zg239_0 := blk_frozen (S.out.blk 0 rfl) 0
  have kg239_1 : w242.cell? ⟨g239, 1, none⟩ = some (.int .i64 0) := (blk_cell (S.out.blk 0 rfl) 1).trans rfl
  have zg239_1 := blk_frozen (S.out.blk 0 rfl) 1
  have kg239_2 : w242.cell? ⟨g239, 2, none⟩ = some (.int .i64 0) := (blk_cell (S.out.blk 0 rfl) 2).trans rfl
  have zg239_2 := blk_frozen (S.out.blk 0 rfl) 2
  have kg239_3 : w242.cell? ⟨g239, 3, none⟩ = some (.int .i64 0) := (blk_cell (S.out.blk 0 rfl) 3).trans rfl
  have zg239_3 := blk_frozen (S.out.blk 0 rfl) 3
  refine skip_ (w1 := ((((w242.setCell ⟨g239, 0, none⟩ (.int .i64 h0)).setCell ⟨g239, 1, none⟩ (.int .i64 h1)).setCell ⟨g239, 2, none⟩ (.int .i64 h2)).setCell ⟨g239, 3, none⟩ (.int .i64 h3))) (by rfl) rfl (by first | (go_simp; done) | (go_simp; rfl) | (go_simp; exact ⟨rfl, rfl⟩)) ?_
  clear kg239_0 zg239_0 kg239_1 zg239_1 kg239_2 zg239_2 kg239_3 zg239_3
  obtain ⟨w243, hw_⟩ : ∃ x_, x_ = ((((w242.setCell ⟨g239, 0, none⟩ (.int .i64 h0)).setCell ⟨g239, 1, none⟩ (.int .i64 h1)).setCell ⟨g239, 2, none⟩ (.int .i64 h2)).setCell ⟨g239, 3, none⟩ (.int .i64 h3)) := ⟨_, rfl⟩
  rw [← hw_]
  replace S : Aside0 (St w w (fun _ => False) [hB g239 #[.int .i64 h0, .int .i64 h1, .int .i64 h2, .int .i64 h3] 100, hB g235 #[.slice A229 rw.length c230, .slice A231 rd.length c232] 88, hM w.heap.size (.slice A229 rw.length c230) (.slice A231 rd.length c232) rw rd, hR (Kd.int .i64) 3 w.heap.size (.slice A222 rs.length c223) rs, hR k166 166 w.heap.size (.slice A216 es.length c217) es, hM w.heap.size (.slice A208 ws.length c209) (.slice A210 ds.length c211) ws ds, hM w.heap.size (.slice A93 rw.length c94) (.slice A95 rd.length c96) ws2 ds2, hR (Kd.int .i64) 3 w.heap.size (.slice A73 rs.length c74) rs1, hR k166 166 w.heap.size (.slice A69 es.length c70) es1, hM w.heap.size (.slice A60 ws.length c61) (.slice A62 ds.length c63) ws1 ds1, hR (Kd.int .i64) 3 w.heap.size (.slice A159 rs.length c160) rs, hR k166 166 w.heap.size (.slice A145 es.length c146) es, hM w.heap.size (.slice A123 ws.length c124) (.slice A125 ds.length c126) ws ds, hB g99 #[.int .i64 h0, .int .i64 h1, .int .i64 h2, .int .i64 h3] 100, hB g97 #[.slice A93 rw.length c94, .slice A95 rd.length c96] 88, hB g75 #[.int .i64 a3_0, .slice A73 rs.length c74] 70, hB g64 #[.slice A60 ws.length c61, .slice A62 ds.length c63] 88, hB g51 #[.int .i64 h0, .int .i64 h1, .int .i64 h2, .int .i64 h3] 100, hB g47 #[.slice A41 rw.length c42, .slice A43 rd.length c44] 88, hM w.heap.size (.slice A41 rw.length c42) (.slice A43 rd.length c44) rw rd, hR (Kd.int .i64) 3 w.heap.size (.slice A34 rs.length c35) rs, hR k166 166 w.heap.size (.slice A28 es.length c29) es, hM w.heap.size (.slice A20 ws.length c21) (.slice A22 ds.length c23) ws ds, hB g3 #[.int .i64 a3_0, .slice A3 l3.length c3] 62, hB g1 #[.slice A0 l0.length c0, .slice A1 l1.length c1] 95] w243) := Aside0.mk (by rw [hw_]; exact ((((S.out.put 0 (.int .i64 h0) rfl).put 1 (.int .i64 h1) rfl).put 2 (.int .i64 h2) rfl).put 3 (.int .i64 h3) rfl))
  clear hw_
  refine hK _ _ (S.out.drop.drop.drop.drop.drop.drop) (fun _ => ?_)
  refine take_ (i := 16) (N := some 24) (v := .bool b) (a' := ?at244) #[true, true, true, true, true, true, true, true, true, true, true, true, true, true, true, true, true] rfl rfl (by kernel_rfl) (fun _ _ _ h => h) (Or.inl ⟨by rfl, ?yt244⟩) (S.out.drop.drop.drop.drop.drop.drop) ?pt244 ?nt244
  case yt244 =>
    intro w' hS
    first | (go_simp; done) | (go_simp; rfl) | (go_simp; exact ⟨rfl, rfl⟩)
  case pt244 =>
    simp only [Act.put, List.setIfInBounds_toArray, List.set_cons_zero, List.set_cons_succ, i64_w, i32_w]
    rfl
  refine done_ (by kernel_rfl) ?_
  have kg235_0 : w243.cell? ⟨g235, 0, none⟩ = some (.slice A229 rw.length c230) := (blk_cell (S.out.blk 1 rfl) 0).trans rfl
  have kg235_1 : w243.cell? ⟨g235, 1, none⟩ = some (.slice A231 rd.length c232) := (blk_cell (S.out.blk 1 rfl) 1).trans rfl
  have kg47_0 : w243.cell? ⟨g47, 0, none⟩ = some (.slice A41 rw.length c42) := (blk_cell (S.out.blk 18 rfl) 0).trans rfl
  have kg47_1 : w243.cell? ⟨g47, 1, none⟩ = some (.slice A43 rd.length c44) := (blk_cell (S.out.blk 18 rfl) 1).trans rfl
  go_wp2_with (first
      | ((with_reducible refine gate_callee (f := 58) rfl ?_)
         (try clear kg235_0 kg235_1 kg47_0 kg47_1)
         obtain ⟨e246, q247, c248⟩ := St.readM0 S.out 2 rfl
         obtain ⟨e249, q250, c251⟩ := St.readM1 S.out 2 rfl
         obtain ⟨e252, q253, c254⟩ := St.readM0 S.out 19 rfl
         obtain ⟨e255, q256, c257⟩ := St.readM1 S.out 19 rfl
         refine goesL_ (some 150) rfl rfl Try.func58 (by kernel_rfl) rfl #[.agg #[.slice A229 rw.length c230, .slice A231 rd.length c232], .agg #[.slice A41 rw.length c42, .slice A43 rd.length c44]] rfl (by (try simp only [List.map_toArray, List.map_cons, List.map_nil]); first | done | rfl) ?_
         (with_reducible refine (laws_eqMem.calls k A229 c230 rw A231 c232 rd A41 c42 rw A43 c44 rd _ _ c248 q247 c251 q250 c254 q253 c257 q256 H9.out).mono ?_)
         rintro e w245 ⟨rfl, hb⟩
         refine ⟨_, rfl, ?_⟩
         replace S := Aside0.mk (S.out.moved hb)
         clear hb e246 q247 c248 e249 q250 c251 e252 q253 c254 e255 q256 c257
         have kg239_0 : w245.cell? ⟨g239, 0, none⟩ = some (.int .i64 h0) := (blk_cell (S.out.blk 0 rfl) 0).trans rfl
         have kg239_1 : w245.cell? ⟨g239, 1, none⟩ = some (.int .i64 h1) := (blk_cell (S.out.blk 0 rfl) 1).trans rfl
         have kg239_2 : w245.cell? ⟨g239, 2, none⟩ = some (.int .i64 h2) := (blk_cell (S.out.blk 0 rfl) 2).trans rfl
         have kg239_3 : w245.cell? ⟨g239, 3, none⟩ = some (.int .i64 h3) := (blk_cell (S.out.blk 0 rfl) 3).trans rfl
         have kg51_0 : w245.cell? ⟨g51, 0, none⟩ = some (.int .i64 h0) := (blk_cell (S.out.blk 17 rfl) 0).trans rfl
         have kg51_1 : w245.cell? ⟨g51, 1, none⟩ = some (.int .i64 h1) := (blk_cell (S.out.blk 17 rfl) 1).trans rfl
         have kg51_2 : w245.cell? ⟨g51, 2, none⟩ = some (.int .i64 h2) := (blk_cell (S.out.blk 17 rfl) 2).trans rfl
         have kg51_3 : w245.cell? ⟨g51, 3, none⟩ = some (.int .i64 h3) := (blk_cell (S.out.blk 17 rfl) 3).trans rfl)
      | (go_at_call 67
         (try clear kg239_0 kg239_1 kg239_2 kg239_3 kg51_0 kg51_1 kg51_2 kg51_3)
         (with_reducible refine (laws_eqHelp.calls h0 h1 h2 h3 h0 h1 h2 h3 _ _ H11.out).mono ?_)
         rintro e w258 ⟨rfl, hb⟩
         replace S := Aside0.mk (S.out.moved hb)
         clear hb
         have kg97_0 : w258.cell? ⟨g97, 0, none⟩ = some (.slice A93 rw.length c94) := (blk_cell (S.out.blk 14 rfl) 0).trans rfl
         have kg97_1 : w258.cell? ⟨g97, 1, none⟩ = some (.slice A95 rd.length c96) := (blk_cell (S.out.blk 14 rfl) 1).trans rfl)
      | ((with_reducible refine gate_callee (f := 60) rfl ?_)
         (try clear kg97_0 kg97_1)
         obtain ⟨e260, q261, c262⟩ := St.readM0 S.out 6 rfl
         obtain ⟨e263, q264, c265⟩ := St.readM1 S.out 6 rfl
         refine goesL_ (some 165) rfl rfl Try.func60 (by kernel_rfl) rfl #[.agg #[.slice A93 rw.length c94, .slice A95 rd.length c96], .int .i64 1] rfl (by (try simp only [List.map_toArray, List.map_cons, List.map_nil]); first | done | rfl) ?_
         refine calls_of_args (args' := #[.agg #[.slice A93 ws2.length c94, .slice A95 ds2.length c96], .int .i64 1]) (by rw [e260, e263]) ?_
         (with_reducible refine (laws_heldMem.calls k A93 c94 ws2 A95 c96 ds2 1 _ _ c262 q261 c265 q264 H18.out).mono ?_)
         rintro e w259 ⟨rfl, hb⟩
         refine ⟨_, rfl, ?_⟩
         replace S := Aside0.mk (S.out.moved hb)
         clear hb e260 q261 c262 e263 q264 c265))
  go_ret
  exact ⟨by first | exact er | rfl | (simp; done), S.out.done⟩
end Go.Proofs.Ytopikhjcbcpiaaa.Q
end
