/- Part 10 of the steps by which the law is shown: what each function of the program, of the reference and of the law computes. No condition. -/
import Derived.Test.YtopikhjcbcpiaaaBgn0
import Derived.Test.YtopikhjcbcpiaaaBgn3
import Derived.Test.YtopikhjcbcpiaaaBgn7
import Derived.Test.YtopikhjcbcpiaaaBgn8
section
namespace Go.Proofs.Ytopikhjcbcpiaaa.Q
open Go.RowKit Go.Proofs.YtopikhjcbcpiaaaW.PrintWords Go.Proofs.YtopikhjcbcpiaaaW.PrintLast Go.Proofs.YtopikhjcbcpiaaaW.PrintMore
attribute [local go_sem] max2_int min2_int max_two min_two max_three min_three max_four min_four
set_option linter.unusedVariables false
set_option linter.unusedSimpArgs false
set_option maxHeartbeats 8000000 in
set_option maxRecDepth 100000 in
theorem spec_Begin.way1 (k : Nat) (A0 : Option Addr) (c0 : Nat) (ws : List S141) (A1 : Option Addr) (c1 : Nat) (ds : List S145) (t : Int) (A2 : Option Addr) (c2 : Nat) (es : List S166) (code : Int) (A3 : Option Addr) (c3 : Nat) (rs : List Int) (w : World) (hr0 : Kd.C k141 w A0 ws.length ws) (hc0 : ws.length ≤ c0) (hr1 : Kd.C k145 w A1 ds.length ds) (hc1 : ds.length ≤ c1) (hr2 : Kd.C k166 w A2 es.length es) (hc2 : es.length ≤ c2) (hr3 : Kd.C (Kd.int .i64) w A3 rs.length rs) (hc3 : rs.length ≤ c3)
    (hH1 : spec_l7Copy.f k ws ds = some (ws, ds)) (hH2 : spec_MemOk.f k ws ds = some false) :
    Calls Try.prog 63 #[.agg #[.slice A0 ws.length c0, .slice A1 ds.length c1], .int .i64 t, .slice A2 es.length c2, .agg #[.int .i64 code, .slice A3 rs.length c3]] w fun e w' => ∃ v0_ v1_ : Value, e = .returned (.tuple #[.agg #[v0_, v1_], .agg #[.int .i64 0, .int .i64 0, .int .i64 0, .int .i64 0], .bool false]) ∧ Kd.R k141 141 w' w.heap.size (fun _ => True) v0_ ws ∧ Kd.S k145 145 w' w.heap.size (fun _ => True) v1_ ds ∧ Below w.heap.size w w' := by
  have hu88 := Try.underlying88
  have hu70 := Try.underlying70
  have hu100 := Try.underlying100
  have hu145 := Try.underlying145
  have HR0 := Aside0.mk hr0
  have HC0 := Aside0.mk hc0
  have HR1 := Aside0.mk hr1
  have HC1 := Aside0.mk hc1
  have HR2 := Aside0.mk hr2
  have HC2 := Aside0.mk hc2
  have HR3 := Aside0.mk hr3
  have HC3 := Aside0.mk hc3
  clear hr0 hc0 hr1 hc1 hr2 hc2 hr3 hc3
  have H1 := Aside0.mk hH1
  have H2 := Aside0.mk hH2
  clear hH1 hH2
  have S := Aside0.mk (St.start w)
  go_enter Try.func63, Try.ntmps63
  go_wp2_with (first
      | ((with_reducible refine gate_dst (N := 4) rfl ?_)
         refine box_event ?hg (N := 4) ?hd (cs := #[.slice A0 ws.length c0, .slice A1 ds.length c1]) (t := 88) ?hr ?_
         (case hd => rfl)
         (case hg => rfl)
         (case hr => first | (go_simp; done) | (go_simp; rfl) | (go_simp; exact ⟨rfl, rfl⟩))
         intro g1 hg w2 hbox hb
         replace S := Aside0.mk (S.out.box hg hbox hb)
         clear hg hbox hb)
      | ((with_reducible refine gate_dst (N := 7) rfl ?_)
         refine box_event ?hg (N := 7) ?hd (cs := #[.int .i64 code, .slice A3 rs.length c3]) (t := 70) ?hr ?_
         (case hd => rfl)
         (case hg => rfl)
         (case hr => first | (go_simp; done) | (go_simp; rfl) | (go_simp; exact ⟨rfl, rfl⟩))
         intro g3 hg w4 hbox hb
         replace S := Aside0.mk (S.out.box hg hbox hb)
         clear hg hbox hb)
      | ((with_reducible refine gate_dst (N := 8) rfl ?_)
         refine box_event ?hg (N := 8) ?hd (cs := #[.slice none 0 0, .slice none 0 0]) (t := 88) ?hr ?_
         (case hd => rfl)
         (case hg => rfl)
         (case hr => first | (go_simp; done) | (go_simp; rfl) | (go_simp; exact ⟨rfl, rfl⟩))
         intro g5 hg w6 hbox hb
         replace S := Aside0.mk (S.out.box hg hbox hb)
         clear hg hbox hb)
      | ((with_reducible refine gate_dst (N := 9) rfl ?_)
         refine box_event ?hg (N := 9) ?hd (cs := #[.int .i64 0, .int .i64 0, .int .i64 0, .int .i64 0]) (t := 100) ?hr ?_
         (case hd => rfl)
         (case hg => rfl)
         (case hr => first | (go_simp; done) | (go_simp; rfl) | (go_simp; exact ⟨rfl, rfl⟩))
         intro g7 hg w8 hbox hb
         replace S := Aside0.mk (S.out.box hg hbox hb)
         clear hg hbox hb
         have kg1_0 : w8.cell? ⟨g1, 0, none⟩ = some (.slice A0 ws.length c0) := (blk_cell (S.out.blk 3 rfl) 0).trans rfl
         have kg1_1 : w8.cell? ⟨g1, 1, none⟩ = some (.slice A1 ds.length c1) := (blk_cell (S.out.blk 3 rfl) 1).trans rfl)
      | ((with_reducible refine gate_callee (f := 133) rfl ?_)
         (try clear kg1_0 kg1_1)
         refine goesL_ (some 15) rfl rfl Try.func133 (by kernel_rfl) rfl #[.agg #[.slice A0 ws.length c0, .slice A1 ds.length c1]] rfl (by (try simp only [List.map_toArray, List.map_cons, List.map_nil]); first | done | rfl) ?_
         (with_reducible refine (spec_l7Copy.calls k A0 c0 ws A1 c1 ds _ _ _ (Kd.C_below HR0.out S.out.below) HC0.out (Kd.C_below HR1.out S.out.below) HC1.out H1.out).mono ?_)
         rintro e w9 ⟨v10, v11, rfl, h0, h1, hb⟩
         obtain ⟨A12, c13, rfl⟩ := Kd.R_slice h0
         obtain ⟨A14, c15, rfl⟩ := Kd.S_slice h1
         refine ⟨_, rfl, ?_⟩
         replace S := Aside0.mk (S.out.madeM h0 h1 hb)
         clear hb h0 h1)
      | ((with_reducible refine gate_dst (N := 11) rfl ?_)
         refine box_event ?hg (N := 11) ?hd (cs := #[.slice none 0 0, .slice none 0 0]) (t := 88) ?hr ?_
         (case hd => rfl)
         (case hg => rfl)
         (case hr => first | (go_simp; done) | (go_simp; rfl) | (go_simp; exact ⟨rfl, rfl⟩))
         intro g16 hg w17 hbox hb
         replace S := Aside0.mk (S.out.box hg hbox hb)
         clear hg hbox hb
         have kg16_0 : w17.cell? ⟨g16, 0, none⟩ = some (.slice none 0 0) := (blk_cell (S.out.blk 0 rfl) 0).trans rfl
         have kg16_1 : w17.cell? ⟨g16, 1, none⟩ = some (.slice none 0 0) := (blk_cell (S.out.blk 0 rfl) 1).trans rfl)
      | ((with_reducible refine gate_store (t := 88) (p := 11) rfl ?_)
         have zg16_0 := blk_frozen (S.out.blk 0 rfl) 0
         have zg16_1 := blk_frozen (S.out.blk 0 rfl) 1
         refine store_event (t := 88) (p := 11) (v := ?vo_w18) (w1 := ((w17.setCell ⟨g16, 0, none⟩ (.slice A12 ws.length c13)).setCell ⟨g16, 1, none⟩ (.slice A14 ds.length c15))) ?hg ?ho ?hn ?hr ?_
         (case ho => rfl)
         (case hg => rfl)
         (case hn => rfl)
         (case hr => first | (go_simp; done) | (go_simp; rfl) | (go_simp; exact ⟨rfl, rfl⟩))
         (try clear zg16_0 zg16_1)
         (try clear kg16_0 kg16_1)
         intro w18 hw
         replace S : Aside0 (St w w (fun _ => False) [hB g16 #[.slice A12 ws.length c13, .slice A14 ds.length c15] 88, hM w.heap.size (.slice A12 ws.length c13) (.slice A14 ds.length c15) ws ds, hB g7 #[.int .i64 0, .int .i64 0, .int .i64 0, .int .i64 0] 100, hB g5 #[.slice none 0 0, .slice none 0 0] 88, hB g3 #[.int .i64 code, .slice A3 rs.length c3] 70, hB g1 #[.slice A0 ws.length c0, .slice A1 ds.length c1] 88] w18) := Aside0.mk (by rw [hw]; exact ((S.out.put 0 (.slice A12 ws.length c13) rfl).put 1 (.slice A14 ds.length c15) rfl))
         clear hw
         have kg1_0 : w18.cell? ⟨g1, 0, none⟩ = some (.slice A0 ws.length c0) := (blk_cell (S.out.blk 5 rfl) 0).trans rfl
         have kg1_1 : w18.cell? ⟨g1, 1, none⟩ = some (.slice A1 ds.length c1) := (blk_cell (S.out.blk 5 rfl) 1).trans rfl)
      | ((with_reducible refine gate_callee (f := 128) rfl ?_)
         (try clear kg1_0 kg1_1)
         refine goesL_ (some 17) rfl rfl Try.func128 (by kernel_rfl) rfl #[.agg #[.slice A0 ws.length c0, .slice A1 ds.length c1]] rfl (by (try simp only [List.map_toArray, List.map_cons, List.map_nil]); first | done | rfl) ?_
         (with_reducible refine (spec_MemOk.calls k A0 c0 ws A1 c1 ds _ _ (Kd.C_below HR0.out S.out.below) HC0.out (Kd.C_below HR1.out S.out.below) HC1.out H2.out).mono ?_)
         rintro e w19 ⟨rfl, hb⟩
         refine ⟨_, rfl, ?_⟩
         replace S := Aside0.mk (S.out.moved hb)
         clear hb
         have kg16_0 : w19.cell? ⟨g16, 0, none⟩ = some (.slice A12 ws.length c13) := (blk_cell (S.out.blk 0 rfl) 0).trans rfl
         have kg16_1 : w19.cell? ⟨g16, 1, none⟩ = some (.slice A14 ds.length c15) := (blk_cell (S.out.blk 0 rfl) 1).trans rfl
         have kg5_0 : w19.cell? ⟨g5, 0, none⟩ = some (.slice none 0 0) := (blk_cell (S.out.blk 3 rfl) 0).trans rfl
         have kg5_1 : w19.cell? ⟨g5, 1, none⟩ = some (.slice none 0 0) := (blk_cell (S.out.blk 3 rfl) 1).trans rfl)
      | ((with_reducible refine gate_store (t := 88) (p := 8) rfl ?_)
         have zg5_0 := blk_frozen (S.out.blk 3 rfl) 0
         have zg5_1 := blk_frozen (S.out.blk 3 rfl) 1
         refine store_event (t := 88) (p := 8) (v := ?vo_w20) (w1 := ((w19.setCell ⟨g5, 0, none⟩ (.slice A12 ws.length c13)).setCell ⟨g5, 1, none⟩ (.slice A14 ds.length c15))) ?hg ?ho ?hn ?hr ?_
         (case ho => rfl)
         (case hg => rfl)
         (case hn => rfl)
         (case hr => first | (go_simp; done) | (go_simp; rfl) | (go_simp; exact ⟨rfl, rfl⟩))
         (try clear zg5_0 zg5_1)
         (try clear kg16_0 kg16_1 kg5_0 kg5_1)
         intro w20 hw
         replace S := Aside0.mk (show St w w (fun _ => False) [hB g5 #[.slice none 0 0, .slice none 0 0] 88, hB g16 #[.slice A12 ws.length c13, .slice A14 ds.length c15] 88, hM w.heap.size (.slice A12 ws.length c13) (.slice A14 ds.length c15) ws ds, hB g7 #[.int .i64 0, .int .i64 0, .int .i64 0, .int .i64 0] 100, hB g3 #[.int .i64 code, .slice A3 rs.length c3] 70, hB g1 #[.slice A0 ws.length c0, .slice A1 ds.length c1] 88] _ from S.out.bring 3 rfl)
         replace S : Aside0 (St w w (fun _ => False) [hB g5 #[.slice A12 ws.length c13, .slice A14 ds.length c15] 88, hB g16 #[.slice A12 ws.length c13, .slice A14 ds.length c15] 88, hM w.heap.size (.slice A12 ws.length c13) (.slice A14 ds.length c15) ws ds, hB g7 #[.int .i64 0, .int .i64 0, .int .i64 0, .int .i64 0] 100, hB g3 #[.int .i64 code, .slice A3 rs.length c3] 70, hB g1 #[.slice A0 ws.length c0, .slice A1 ds.length c1] 88] w20) := Aside0.mk (by rw [hw]; exact ((S.out.put 0 (.slice A12 ws.length c13) rfl).put 1 (.slice A14 ds.length c15) rfl))
         clear hw
         have kg7_0 : w20.cell? ⟨g7, 0, none⟩ = some (.int .i64 0) := (blk_cell (S.out.blk 3 rfl) 0).trans rfl
         have kg7_1 : w20.cell? ⟨g7, 1, none⟩ = some (.int .i64 0) := (blk_cell (S.out.blk 3 rfl) 1).trans rfl
         have kg7_2 : w20.cell? ⟨g7, 2, none⟩ = some (.int .i64 0) := (blk_cell (S.out.blk 3 rfl) 2).trans rfl
         have kg7_3 : w20.cell? ⟨g7, 3, none⟩ = some (.int .i64 0) := (blk_cell (S.out.blk 3 rfl) 3).trans rfl)
      | ((with_reducible refine gate_store (t := 100) (p := 9) rfl ?_)
         have zg7_0 := blk_frozen (S.out.blk 3 rfl) 0
         have zg7_1 := blk_frozen (S.out.blk 3 rfl) 1
         have zg7_2 := blk_frozen (S.out.blk 3 rfl) 2
         have zg7_3 := blk_frozen (S.out.blk 3 rfl) 3
         refine store_event (t := 100) (p := 9) (v := ?vo_w21) (w1 := ((((w20.setCell ⟨g7, 0, none⟩ (.int .i64 0)).setCell ⟨g7, 1, none⟩ (.int .i64 0)).setCell ⟨g7, 2, none⟩ (.int .i64 0)).setCell ⟨g7, 3, none⟩ (.int .i64 0))) ?hg ?ho ?hn ?hr ?_
         (case ho => rfl)
         (case hg => rfl)
         (case hn => rfl)
         (case hr => first | (go_simp; done) | (go_simp; rfl) | (go_simp; exact ⟨rfl, rfl⟩))
         (try clear zg7_0 zg7_1 zg7_2 zg7_3)
         (try clear kg7_0 kg7_1 kg7_2 kg7_3)
         intro w21 hw
         replace S := Aside0.mk (show St w w (fun _ => False) [hB g7 #[.int .i64 0, .int .i64 0, .int .i64 0, .int .i64 0] 100, hB g5 #[.slice A12 ws.length c13, .slice A14 ds.length c15] 88, hB g16 #[.slice A12 ws.length c13, .slice A14 ds.length c15] 88, hM w.heap.size (.slice A12 ws.length c13) (.slice A14 ds.length c15) ws ds, hB g3 #[.int .i64 code, .slice A3 rs.length c3] 70, hB g1 #[.slice A0 ws.length c0, .slice A1 ds.length c1] 88] _ from S.out.bring 3 rfl)
         replace S : Aside0 (St w w (fun _ => False) [hB g7 #[.int .i64 0, .int .i64 0, .int .i64 0, .int .i64 0] 100, hB g5 #[.slice A12 ws.length c13, .slice A14 ds.length c15] 88, hB g16 #[.slice A12 ws.length c13, .slice A14 ds.length c15] 88, hM w.heap.size (.slice A12 ws.length c13) (.slice A14 ds.length c15) ws ds, hB g3 #[.int .i64 code, .slice A3 rs.length c3] 70, hB g1 #[.slice A0 ws.length c0, .slice A1 ds.length c1] 88] w21) := Aside0.mk (by rw [hw]; exact ((((S.out.put 0 (.int .i64 0) rfl).put 1 (.int .i64 0) rfl).put 2 (.int .i64 0) rfl).put 3 (.int .i64 0) rfl))
         clear hw))
  refine bodyPost_ret (results_list (rs := [.cell 8 88, .cell 9 100, .tmp 10]) rfl (by simp) (.cell g5 88 #[.slice A12 ws.length c13, .slice A14 ds.length c15] (0, 0) _ rfl (S.out.blk 1 rfl) Try.underlying88 rfl (by kernel_rfl) (.cell g7 100 #[.int .i64 0, .int .i64 0, .int .i64 0, .int .i64 0] (0, 0) _ rfl (S.out.blk 0 rfl) Try.underlying100 rfl (by kernel_rfl) (.tmp .nil)))) rfl ?_
  obtain ⟨D_, hD_⟩ := S.out.nth 3 rfl
  exact ⟨_, _, by first | rfl | (simp; done), Kd.R_mono (M_R hD_) (fun _ _ => trivial), Kd.S_mono (M_S hD_) (fun _ _ => trivial), S.out.done⟩
set_option maxHeartbeats 8000000 in
set_option maxRecDepth 100000 in
theorem spec_Begin.way2 (k : Nat) (A0 : Option Addr) (c0 : Nat) (ws : List S141) (A1 : Option Addr) (c1 : Nat) (ds : List S145) (t : Int) (A2 : Option Addr) (c2 : Nat) (es : List S166) (code : Int) (A3 : Option Addr) (c3 : Nat) (rs : List Int) (w : World) (hr0 : Kd.C k141 w A0 ws.length ws) (hc0 : ws.length ≤ c0) (hr1 : Kd.C k145 w A1 ds.length ds) (hc1 : ds.length ≤ c1) (hr2 : Kd.C k166 w A2 es.length es) (hc2 : es.length ≤ c2) (hr3 : Kd.C (Kd.int .i64) w A3 rs.length rs) (hc3 : rs.length ≤ c3)
    (hH1 : spec_l7Copy.f k ws ds = some (ws, ds)) (hH2 : spec_MemOk.f k ws ds = some true) (hH3 : spec_l1In.f t 0 (wrap64 ((ds.length : Int) - 1)) = some false) :
    Calls Try.prog 63 #[.agg #[.slice A0 ws.length c0, .slice A1 ds.length c1], .int .i64 t, .slice A2 es.length c2, .agg #[.int .i64 code, .slice A3 rs.length c3]] w fun e w' => ∃ v0_ v1_ : Value, e = .returned (.tuple #[.agg #[v0_, v1_], .agg #[.int .i64 0, .int .i64 0, .int .i64 0, .int .i64 0], .bool false]) ∧ Kd.R k141 141 w' w.heap.size (fun _ => True) v0_ ws ∧ Kd.S k145 145 w' w.heap.size (fun _ => True) v1_ ds ∧ Below w.heap.size w w' := by
  have hu88 := Try.underlying88
  have hu70 := Try.underlying70
  have hu100 := Try.underlying100
  have hu145 := Try.underlying145
  have HR0 := Aside0.mk hr0
  have HC0 := Aside0.mk hc0
  have HR1 := Aside0.mk hr1
  have HC1 := Aside0.mk hc1
  have HR2 := Aside0.mk hr2
  have HC2 := Aside0.mk hc2
  have HR3 := Aside0.mk hr3
  have HC3 := Aside0.mk hc3
  clear hr0 hc0 hr1 hc1 hr2 hc2 hr3 hc3
  have H1 := Aside0.mk hH1
  have H2 := Aside0.mk hH2
  have H3 := Aside0.mk hH3
  clear hH1 hH2 hH3
  have S := Aside0.mk (St.start w)
  go_enter Try.func63, Try.ntmps63
  go_wp2_with (first
      | ((with_reducible refine gate_dst (N := 4) rfl ?_)
         refine box_event ?hg (N := 4) ?hd (cs := #[.slice A0 ws.length c0, .slice A1 ds.length c1]) (t := 88) ?hr ?_
         (case hd => rfl)
         (case hg => rfl)
         (case hr => first | (go_simp; done) | (go_simp; rfl) | (go_simp; exact ⟨rfl, rfl⟩))
         intro g1 hg w2 hbox hb
         replace S := Aside0.mk (S.out.box hg hbox hb)
         clear hg hbox hb)
      | ((with_reducible refine gate_dst (N := 7) rfl ?_)
         refine box_event ?hg (N := 7) ?hd (cs := #[.int .i64 code, .slice A3 rs.length c3]) (t := 70) ?hr ?_
         (case hd => rfl)
         (case hg => rfl)
         (case hr => first | (go_simp; done) | (go_simp; rfl) | (go_simp; exact ⟨rfl, rfl⟩))
         intro g3 hg w4 hbox hb
         replace S := Aside0.mk (S.out.box hg hbox hb)
         clear hg hbox hb)
      | ((with_reducible refine gate_dst (N := 8) rfl ?_)
         refine box_event ?hg (N := 8) ?hd (cs := #[.slice none 0 0, .slice none 0 0]) (t := 88) ?hr ?_
         (case hd => rfl)
         (case hg => rfl)
         (case hr => first | (go_simp; done) | (go_simp; rfl) | (go_simp; exact ⟨rfl, rfl⟩))
         intro g5 hg w6 hbox hb
         replace S := Aside0.mk (S.out.box hg hbox hb)
         clear hg hbox hb)
      | ((with_reducible refine gate_dst (N := 9) rfl ?_)
         refine box_event ?hg (N := 9) ?hd (cs := #[.int .i64 0, .int .i64 0, .int .i64 0, .int .i64 0]) (t := 100) ?hr ?_
         (case hd => rfl)
         (case hg => rfl)
         (case hr => first | (go_simp; done) | (go_simp; rfl) | (go_simp; exact ⟨rfl, rfl⟩))
         intro g7 hg w8 hbox hb
         replace S := Aside0.mk (S.out.box hg hbox hb)
         clear hg hbox hb
         have kg1_0 : w8.cell? ⟨g1, 0, none⟩ = some (.slice A0 ws.length c0) := (blk_cell (S.out.blk 3 rfl) 0).trans rfl
         have kg1_1 : w8.cell? ⟨g1, 1, none⟩ = some (.slice A1 ds.length c1) := (blk_cell (S.out.blk 3 rfl) 1).trans rfl)
      | ((with_reducible refine gate_callee (f := 133) rfl ?_)
         (try clear kg1_0 kg1_1)
         refine goesL_ (some 15) rfl rfl Try.func133 (by kernel_rfl) rfl #[.agg #[.slice A0 ws.length c0, .slice A1 ds.length c1]] rfl (by (try simp only [List.map_toArray, List.map_cons, List.map_nil]); first | done | rfl) ?_
         (with_reducible refine (spec_l7Copy.calls k A0 c0 ws A1 c1 ds _ _ _ (Kd.C_below HR0.out S.out.below) HC0.out (Kd.C_below HR1.out S.out.below) HC1.out H1.out).mono ?_)
         rintro e w9 ⟨v10, v11, rfl, h0, h1, hb⟩
         obtain ⟨A12, c13, rfl⟩ := Kd.R_slice h0
         obtain ⟨A14, c15, rfl⟩ := Kd.S_slice h1
         refine ⟨_, rfl, ?_⟩
         replace S := Aside0.mk (S.out.madeM h0 h1 hb)
         clear hb h0 h1)
      | ((with_reducible refine gate_dst (N := 11) rfl ?_)
         refine box_event ?hg (N := 11) ?hd (cs := #[.slice none 0 0, .slice none 0 0]) (t := 88) ?hr ?_
         (case hd => rfl)
         (case hg => rfl)
         (case hr => first | (go_simp; done) | (go_simp; rfl) | (go_simp; exact ⟨rfl, rfl⟩))
         intro g16 hg w17 hbox hb
         replace S := Aside0.mk (S.out.box hg hbox hb)
         clear hg hbox hb
         have kg16_0 : w17.cell? ⟨g16, 0, none⟩ = some (.slice none 0 0) := (blk_cell (S.out.blk 0 rfl) 0).trans rfl
         have kg16_1 : w17.cell? ⟨g16, 1, none⟩ = some (.slice none 0 0) := (blk_cell (S.out.blk 0 rfl) 1).trans rfl)
      | ((with_reducible refine gate_store (t := 88) (p := 11) rfl ?_)
         have zg16_0 := blk_frozen (S.out.blk 0 rfl) 0
         have zg16_1 := blk_frozen (S.out.blk 0 rfl) 1
         refine store_event (t := 88) (p := 11) (v := ?vo_w18) (w1 := ((w17.setCell ⟨g16, 0, none⟩ (.slice A12 ws.length c13)).setCell ⟨g16, 1, none⟩ (.slice A14 ds.length c15))) ?hg ?ho ?hn ?hr ?_
         (case ho => rfl)
         (case hg => rfl)
         (case hn => rfl)
         (case hr => first | (go_simp; done) | (go_simp; rfl) | (go_simp; exact ⟨rfl, rfl⟩))
         (try clear zg16_0 zg16_1)
         (try clear kg16_0 kg16_1)
         intro w18 hw
         replace S : Aside0 (St w w (fun _ => False) [hB g16 #[.slice A12 ws.length c13, .slice A14 ds.length c15] 88, hM w.heap.size (.slice A12 ws.length c13) (.slice A14 ds.length c15) ws ds, hB g7 #[.int .i64 0, .int .i64 0, .int .i64 0, .int .i64 0] 100, hB g5 #[.slice none 0 0, .slice none 0 0] 88, hB g3 #[.int .i64 code, .slice A3 rs.length c3] 70, hB g1 #[.slice A0 ws.length c0, .slice A1 ds.length c1] 88] w18) := Aside0.mk (by rw [hw]; exact ((S.out.put 0 (.slice A12 ws.length c13) rfl).put 1 (.slice A14 ds.length c15) rfl))
         clear hw
         have kg1_0 : w18.cell? ⟨g1, 0, none⟩ = some (.slice A0 ws.length c0) := (blk_cell (S.out.blk 5 rfl) 0).trans rfl
         have kg1_1 : w18.cell? ⟨g1, 1, none⟩ = some (.slice A1 ds.length c1) := (blk_cell (S.out.blk 5 rfl) 1).trans rfl)
      | ((with_reducible refine gate_callee (f := 128) rfl ?_)
         (try clear kg1_0 kg1_1)
         refine goesL_ (some 17) rfl rfl Try.func128 (by kernel_rfl) rfl #[.agg #[.slice A0 ws.length c0, .slice A1 ds.length c1]] rfl (by (try simp only [List.map_toArray, List.map_cons, List.map_nil]); first | done | rfl) ?_
         (with_reducible refine (spec_MemOk.calls k A0 c0 ws A1 c1 ds _ _ (Kd.C_below HR0.out S.out.below) HC0.out (Kd.C_below HR1.out S.out.below) HC1.out H2.out).mono ?_)
         rintro e w19 ⟨rfl, hb⟩
         refine ⟨_, rfl, ?_⟩
         replace S := Aside0.mk (S.out.moved hb)
         clear hb
         have kg1_0 : w19.cell? ⟨g1, 0, none⟩ = some (.slice A0 ws.length c0) := (blk_cell (S.out.blk 5 rfl) 0).trans rfl
         have kg1_1 : w19.cell? ⟨g1, 1, none⟩ = some (.slice A1 ds.length c1) := (blk_cell (S.out.blk 5 rfl) 1).trans rfl)
      | (go_at_call 79
         (try clear kg1_0 kg1_1)
         (with_reducible refine (spec_l1In.calls t 0 (wrap64 ((ds.length : Int) - 1)) _ _ H3.out).mono ?_)
         rintro e w20 ⟨rfl, hb⟩
         replace hb : Below w19.heap.size w19 w20 := by obtain ⟨nd, rfl⟩ := hb; exact pw_below_drewN (Below.refl _ _) nd
         replace S := Aside0.mk (S.out.moved hb)
         clear hb
         have kg16_0 : w20.cell? ⟨g16, 0, none⟩ = some (.slice A12 ws.length c13) := (blk_cell (S.out.blk 0 rfl) 0).trans rfl
         have kg16_1 : w20.cell? ⟨g16, 1, none⟩ = some (.slice A14 ds.length c15) := (blk_cell (S.out.blk 0 rfl) 1).trans rfl
         have kg5_0 : w20.cell? ⟨g5, 0, none⟩ = some (.slice none 0 0) := (blk_cell (S.out.blk 3 rfl) 0).trans rfl
         have kg5_1 : w20.cell? ⟨g5, 1, none⟩ = some (.slice none 0 0) := (blk_cell (S.out.blk 3 rfl) 1).trans rfl)
      | ((with_reducible refine gate_store (t := 88) (p := 8) rfl ?_)
         have zg5_0 := blk_frozen (S.out.blk 3 rfl) 0
         have zg5_1 := blk_frozen (S.out.blk 3 rfl) 1
         refine store_event (t := 88) (p := 8) (v := ?vo_w21) (w1 := ((w20.setCell ⟨g5, 0, none⟩ (.slice A12 ws.length c13)).setCell ⟨g5, 1, none⟩ (.slice A14 ds.length c15))) ?hg ?ho ?hn ?hr ?_
         (case ho => rfl)
         (case hg => rfl)
         (case hn => rfl)
         (case hr => first | (go_simp; done) | (go_simp; rfl) | (go_simp; exact ⟨rfl, rfl⟩))
         (try clear zg5_0 zg5_1)
         (try clear kg16_0 kg16_1 kg5_0 kg5_1)
         intro w21 hw
         replace S := Aside0.mk (show St w w (fun _ => False) [hB g5 #[.slice none 0 0, .slice none 0 0] 88, hB g16 #[.slice A12 ws.length c13, .slice A14 ds.length c15] 88, hM w.heap.size (.slice A12 ws.length c13) (.slice A14 ds.length c15) ws ds, hB g7 #[.int .i64 0, .int .i64 0, .int .i64 0, .int .i64 0] 100, hB g3 #[.int .i64 code, .slice A3 rs.length c3] 70, hB g1 #[.slice A0 ws.length c0, .slice A1 ds.length c1] 88] _ from S.out.bring 3 rfl)
         replace S : Aside0 (St w w (fun _ => False) [hB g5 #[.slice A12 ws.length c13, .slice A14 ds.length c15] 88, hB g16 #[.slice A12 ws.length c13, .slice A14 ds.length c15] 88, hM w.heap.size (.slice A12 ws.length c13) (.slice A14 ds.length c15) ws ds, hB g7 #[.int .i64 0, .int .i64 0, .int .i64 0, .int .i64 0] 100, hB g3 #[.int .i64 code, .slice A3 rs.length c3] 70, hB g1 #[.slice A0 ws.length c0, .slice A1 ds.length c1] 88] w21) := Aside0.mk (by rw [hw]; exact ((S.out.put 0 (.slice A12 ws.length c13) rfl).put 1 (.slice A14 ds.length c15) rfl))
         clear hw
         have kg7_0 : w21.cell? ⟨g7, 0, none⟩ = some (.int .i64 0) := (blk_cell (S.out.blk 3 rfl) 0).trans rfl
         have kg7_1 : w21.cell? ⟨g7, 1, none⟩ = some (.int .i64 0) := (blk_cell (S.out.blk 3 rfl) 1).trans rfl
         have kg7_2 : w21.cell? ⟨g7, 2, none⟩ = some (.int .i64 0) := (blk_cell (S.out.blk 3 rfl) 2).trans rfl
         have kg7_3 : w21.cell? ⟨g7, 3, none⟩ = some (.int .i64 0) := (blk_cell (S.out.blk 3 rfl) 3).trans rfl)
      | ((with_reducible refine gate_store (t := 100) (p := 9) rfl ?_)
         have zg7_0 := blk_frozen (S.out.blk 3 rfl) 0
         have zg7_1 := blk_frozen (S.out.blk 3 rfl) 1
         have zg7_2 := blk_frozen (S.out.blk 3 rfl) 2
         have zg7_3 := blk_frozen (S.out.blk 3 rfl) 3
         refine store_event (t := 100) (p := 9) (v := ?vo_w22) (w1 := ((((w21.setCell ⟨g7, 0, none⟩ (.int .i64 0)).setCell ⟨g7, 1, none⟩ (.int .i64 0)).setCell ⟨g7, 2, none⟩ (.int .i64 0)).setCell ⟨g7, 3, none⟩ (.int .i64 0))) ?hg ?ho ?hn ?hr ?_
         (case ho => rfl)
         (case hg => rfl)
         (case hn => rfl)
         (case hr => first | (go_simp; done) | (go_simp; rfl) | (go_simp; exact ⟨rfl, rfl⟩))
         (try clear zg7_0 zg7_1 zg7_2 zg7_3)
         (try clear kg7_0 kg7_1 kg7_2 kg7_3)
         intro w22 hw
         replace S := Aside0.mk (show St w w (fun _ => False) [hB g7 #[.int .i64 0, .int .i64 0, .int .i64 0, .int .i64 0] 100, hB g5 #[.slice A12 ws.length c13, .slice A14 ds.length c15] 88, hB g16 #[.slice A12 ws.length c13, .slice A14 ds.length c15] 88, hM w.heap.size (.slice A12 ws.length c13) (.slice A14 ds.length c15) ws ds, hB g3 #[.int .i64 code, .slice A3 rs.length c3] 70, hB g1 #[.slice A0 ws.length c0, .slice A1 ds.length c1] 88] _ from S.out.bring 3 rfl)
         replace S : Aside0 (St w w (fun _ => False) [hB g7 #[.int .i64 0, .int .i64 0, .int .i64 0, .int .i64 0] 100, hB g5 #[.slice A12 ws.length c13, .slice A14 ds.length c15] 88, hB g16 #[.slice A12 ws.length c13, .slice A14 ds.length c15] 88, hM w.heap.size (.slice A12 ws.length c13) (.slice A14 ds.length c15) ws ds, hB g3 #[.int .i64 code, .slice A3 rs.length c3] 70, hB g1 #[.slice A0 ws.length c0, .slice A1 ds.length c1] 88] w22) := Aside0.mk (by rw [hw]; exact ((((S.out.put 0 (.int .i64 0) rfl).put 1 (.int .i64 0) rfl).put 2 (.int .i64 0) rfl).put 3 (.int .i64 0) rfl))
         clear hw))
  refine bodyPost_ret (results_list (rs := [.cell 8 88, .cell 9 100, .tmp 10]) rfl (by simp) (.cell g5 88 #[.slice A12 ws.length c13, .slice A14 ds.length c15] (0, 0) _ rfl (S.out.blk 1 rfl) Try.underlying88 rfl (by kernel_rfl) (.cell g7 100 #[.int .i64 0, .int .i64 0, .int .i64 0, .int .i64 0] (0, 0) _ rfl (S.out.blk 0 rfl) Try.underlying100 rfl (by kernel_rfl) (.tmp .nil)))) rfl ?_
  obtain ⟨D_, hD_⟩ := S.out.nth 3 rfl
  exact ⟨_, _, by first | rfl | (simp; done), Kd.R_mono (M_R hD_) (fun _ _ => trivial), Kd.S_mono (M_S hD_) (fun _ _ => trivial), S.out.done⟩
set_option maxHeartbeats 8000000 in
set_option maxRecDepth 100000 in
theorem spec_Begin.way3 (k : Nat) (A0 : Option Addr) (c0 : Nat) (ws : List S141) (A1 : Option Addr) (c1 : Nat) (ds : List S145) (t : Int) (A2 : Option Addr) (c2 : Nat) (es : List S166) (code : Int) (A3 : Option Addr) (c3 : Nat) (rs : List Int) (w : World) (hr0 : Kd.C k141 w A0 ws.length ws) (hc0 : ws.length ≤ c0) (hr1 : Kd.C k145 w A1 ds.length ds) (hc1 : ds.length ≤ c1) (hr2 : Kd.C k166 w A2 es.length es) (hc2 : es.length ≤ c2) (hr3 : Kd.C (Kd.int .i64) w A3 rs.length rs) (hc3 : rs.length ≤ c3)
    (hH1 : spec_l7Copy.f k ws ds = some (ws, ds)) (hH2 : spec_MemOk.f k ws ds = some true) (hH3 : spec_l1In.f t 0 (wrap64 ((ds.length : Int) - 1)) = some true) (hH4 : spec_l7Marks.f k ws ds t = some true) :
    Calls Try.prog 63 #[.agg #[.slice A0 ws.length c0, .slice A1 ds.length c1], .int .i64 t, .slice A2 es.length c2, .agg #[.int .i64 code, .slice A3 rs.length c3]] w fun e w' => ∃ v0_ v1_ : Value, e = .returned (.tuple #[.agg #[v0_, v1_], .agg #[.int .i64 0, .int .i64 0, .int .i64 0, .int .i64 0], .bool false]) ∧ Kd.R k141 141 w' w.heap.size (fun _ => True) v0_ ws ∧ Kd.S k145 145 w' w.heap.size (fun _ => True) v1_ ds ∧ Below w.heap.size w w' := by
  have hu88 := Try.underlying88
  have hu70 := Try.underlying70
  have hu100 := Try.underlying100
  have hu145 := Try.underlying145
  have HR0 := Aside0.mk hr0
  have HC0 := Aside0.mk hc0
  have HR1 := Aside0.mk hr1
  have HC1 := Aside0.mk hc1
  have HR2 := Aside0.mk hr2
  have HC2 := Aside0.mk hc2
  have HR3 := Aside0.mk hr3
  have HC3 := Aside0.mk hc3
  clear hr0 hc0 hr1 hc1 hr2 hc2 hr3 hc3
  have H1 := Aside0.mk hH1
  have H2 := Aside0.mk hH2
  have H3 := Aside0.mk hH3
  have H4 := Aside0.mk hH4
  clear hH1 hH2 hH3 hH4
  have S := Aside0.mk (St.start w)
  go_enter Try.func63, Try.ntmps63
  go_wp2_with (first
      | ((with_reducible refine gate_dst (N := 4) rfl ?_)
         refine box_event ?hg (N := 4) ?hd (cs := #[.slice A0 ws.length c0, .slice A1 ds.length c1]) (t := 88) ?hr ?_
         (case hd => rfl)
         (case hg => rfl)
         (case hr => first | (go_simp; done) | (go_simp; rfl) | (go_simp; exact ⟨rfl, rfl⟩))
         intro g1 hg w2 hbox hb
         replace S := Aside0.mk (S.out.box hg hbox hb)
         clear hg hbox hb)
      | ((with_reducible refine gate_dst (N := 7) rfl ?_)
         refine box_event ?hg (N := 7) ?hd (cs := #[.int .i64 code, .slice A3 rs.length c3]) (t := 70) ?hr ?_
         (case hd => rfl)
         (case hg => rfl)
         (case hr => first | (go_simp; done) | (go_simp; rfl) | (go_simp; exact ⟨rfl, rfl⟩))
         intro g3 hg w4 hbox hb
         replace S := Aside0.mk (S.out.box hg hbox hb)
         clear hg hbox hb)
      | ((with_reducible refine gate_dst (N := 8) rfl ?_)
         refine box_event ?hg (N := 8) ?hd (cs := #[.slice none 0 0, .slice none 0 0]) (t := 88) ?hr ?_
         (case hd => rfl)
         (case hg => rfl)
         (case hr => first | (go_simp; done) | (go_simp; rfl) | (go_simp; exact ⟨rfl, rfl⟩))
         intro g5 hg w6 hbox hb
         replace S := Aside0.mk (S.out.box hg hbox hb)
         clear hg hbox hb)
      | ((with_reducible refine gate_dst (N := 9) rfl ?_)
         refine box_event ?hg (N := 9) ?hd (cs := #[.int .i64 0, .int .i64 0, .int .i64 0, .int .i64 0]) (t := 100) ?hr ?_
         (case hd => rfl)
         (case hg => rfl)
         (case hr => first | (go_simp; done) | (go_simp; rfl) | (go_simp; exact ⟨rfl, rfl⟩))
         intro g7 hg w8 hbox hb
         replace S := Aside0.mk (S.out.box hg hbox hb)
         clear hg hbox hb
         have kg1_0 : w8.cell? ⟨g1, 0, none⟩ = some (.slice A0 ws.length c0) := (blk_cell (S.out.blk 3 rfl) 0).trans rfl
         have kg1_1 : w8.cell? ⟨g1, 1, none⟩ = some (.slice A1 ds.length c1) := (blk_cell (S.out.blk 3 rfl) 1).trans rfl)
      | ((with_reducible refine gate_callee (f := 133) rfl ?_)
         (try clear kg1_0 kg1_1)
         refine goesL_ (some 15) rfl rfl Try.func133 (by kernel_rfl) rfl #[.agg #[.slice A0 ws.length c0, .slice A1 ds.length c1]] rfl (by (try simp only [List.map_toArray, List.map_cons, List.map_nil]); first | done | rfl) ?_
         (with_reducible refine (spec_l7Copy.calls k A0 c0 ws A1 c1 ds _ _ _ (Kd.C_below HR0.out S.out.below) HC0.out (Kd.C_below HR1.out S.out.below) HC1.out H1.out).mono ?_)
         rintro e w9 ⟨v10, v11, rfl, h0, h1, hb⟩
         obtain ⟨A12, c13, rfl⟩ := Kd.R_slice h0
         obtain ⟨A14, c15, rfl⟩ := Kd.S_slice h1
         refine ⟨_, rfl, ?_⟩
         replace S := Aside0.mk (S.out.madeM h0 h1 hb)
         clear hb h0 h1)
      | ((with_reducible refine gate_dst (N := 11) rfl ?_)
         refine box_event ?hg (N := 11) ?hd (cs := #[.slice none 0 0, .slice none 0 0]) (t := 88) ?hr ?_
         (case hd => rfl)
         (case hg => rfl)
         (case hr => first | (go_simp; done) | (go_simp; rfl) | (go_simp; exact ⟨rfl, rfl⟩))
         intro g16 hg w17 hbox hb
         replace S := Aside0.mk (S.out.box hg hbox hb)
         clear hg hbox hb
         have kg16_0 : w17.cell? ⟨g16, 0, none⟩ = some (.slice none 0 0) := (blk_cell (S.out.blk 0 rfl) 0).trans rfl
         have kg16_1 : w17.cell? ⟨g16, 1, none⟩ = some (.slice none 0 0) := (blk_cell (S.out.blk 0 rfl) 1).trans rfl)
      | ((with_reducible refine gate_store (t := 88) (p := 11) rfl ?_)
         have zg16_0 := blk_frozen (S.out.blk 0 rfl) 0
         have zg16_1 := blk_frozen (S.out.blk 0 rfl) 1
         refine store_event (t := 88) (p := 11) (v := ?vo_w18) (w1 := ((w17.setCell ⟨g16, 0, none⟩ (.slice A12 ws.length c13)).setCell ⟨g16, 1, none⟩ (.slice A14 ds.length c15))) ?hg ?ho ?hn ?hr ?_
         (case ho => rfl)
         (case hg => rfl)
         (case hn => rfl)
         (case hr => first | (go_simp; done) | (go_simp; rfl) | (go_simp; exact ⟨rfl, rfl⟩))
         (try clear zg16_0 zg16_1)
         (try clear kg16_0 kg16_1)
         intro w18 hw
         replace S : Aside0 (St w w (fun _ => False) [hB g16 #[.slice A12 ws.length c13, .slice A14 ds.length c15] 88, hM w.heap.size (.slice A12 ws.length c13) (.slice A14 ds.length c15) ws ds, hB g7 #[.int .i64 0, .int .i64 0, .int .i64 0, .int .i64 0] 100, hB g5 #[.slice none 0 0, .slice none 0 0] 88, hB g3 #[.int .i64 code, .slice A3 rs.length c3] 70, hB g1 #[.slice A0 ws.length c0, .slice A1 ds.length c1] 88] w18) := Aside0.mk (by rw [hw]; exact ((S.out.put 0 (.slice A12 ws.length c13) rfl).put 1 (.slice A14 ds.length c15) rfl))
         clear hw
         have kg1_0 : w18.cell? ⟨g1, 0, none⟩ = some (.slice A0 ws.length c0) := (blk_cell (S.out.blk 5 rfl) 0).trans rfl
         have kg1_1 : w18.cell? ⟨g1, 1, none⟩ = some (.slice A1 ds.length c1) := (blk_cell (S.out.blk 5 rfl) 1).trans rfl)
      | ((with_reducible refine gate_callee (f := 128) rfl ?_)
         (try clear kg1_0 kg1_1)
         refine goesL_ (some 17) rfl rfl Try.func128 (by kernel_rfl) rfl #[.agg #[.slice A0 ws.length c0, .slice A1 ds.length c1]] rfl (by (try simp only [List.map_toArray, List.map_cons, List.map_nil]); first | done | rfl) ?_
         (with_reducible refine (spec_MemOk.calls k A0 c0 ws A1 c1 ds _ _ (Kd.C_below HR0.out S.out.below) HC0.out (Kd.C_below HR1.out S.out.below) HC1.out H2.out).mono ?_)
         rintro e w19 ⟨rfl, hb⟩
         refine ⟨_, rfl, ?_⟩
         replace S := Aside0.mk (S.out.moved hb)
         clear hb
         have kg1_0 : w19.cell? ⟨g1, 0, none⟩ = some (.slice A0 ws.length c0) := (blk_cell (S.out.blk 5 rfl) 0).trans rfl
         have kg1_1 : w19.cell? ⟨g1, 1, none⟩ = some (.slice A1 ds.length c1) := (blk_cell (S.out.blk 5 rfl) 1).trans rfl)
      | (go_at_call 79
         (try clear kg1_0 kg1_1)
         (with_reducible refine (spec_l1In.calls t 0 (wrap64 ((ds.length : Int) - 1)) _ _ H3.out).mono ?_)
         rintro e w20 ⟨rfl, hb⟩
         replace hb : Below w19.heap.size w19 w20 := by obtain ⟨nd, rfl⟩ := hb; exact pw_below_drewN (Below.refl _ _) nd
         replace S := Aside0.mk (S.out.moved hb)
         clear hb
         have kg1_0 : w20.cell? ⟨g1, 0, none⟩ = some (.slice A0 ws.length c0) := (blk_cell (S.out.blk 5 rfl) 0).trans rfl
         have kg1_1 : w20.cell? ⟨g1, 1, none⟩ = some (.slice A1 ds.length c1) := (blk_cell (S.out.blk 5 rfl) 1).trans rfl)
      | (go_at_call 134
         (try clear kg1_0 kg1_1)
         (with_reducible refine (spec_l7Marks.calls k A0 c0 ws A1 c1 ds t _ _ (Kd.C_below HR0.out S.out.below) HC0.out (Kd.C_below HR1.out S.out.below) HC1.out H4.out).mono ?_)
         rintro e w21 ⟨rfl, hb⟩
         replace S := Aside0.mk (S.out.moved hb)
         clear hb
         have kg16_0 : w21.cell? ⟨g16, 0, none⟩ = some (.slice A12 ws.length c13) := (blk_cell (S.out.blk 0 rfl) 0).trans rfl
         have kg16_1 : w21.cell? ⟨g16, 1, none⟩ = some (.slice A14 ds.length c15) := (blk_cell (S.out.blk 0 rfl) 1).trans rfl
         have kg5_0 : w21.cell? ⟨g5, 0, none⟩ = some (.slice none 0 0) := (blk_cell (S.out.blk 3 rfl) 0).trans rfl
         have kg5_1 : w21.cell? ⟨g5, 1, none⟩ = some (.slice none 0 0) := (blk_cell (S.out.blk 3 rfl) 1).trans rfl)
      | ((with_reducible refine gate_store (t := 88) (p := 8) rfl ?_)
         have zg5_0 := blk_frozen (S.out.blk 3 rfl) 0
         have zg5_1 := blk_frozen (S.out.blk 3 rfl) 1
         refine store_event (t := 88) (p := 8) (v := ?vo_w22) (w1 := ((w21.setCell ⟨g5, 0, none⟩ (.slice A12 ws.length c13)).setCell ⟨g5, 1, none⟩ (.slice A14 ds.length c15))) ?hg ?ho ?hn ?hr ?_
         (case ho => rfl)
         (case hg => rfl)
         (case hn => rfl)
         (case hr => first | (go_simp; done) | (go_simp; rfl) | (go_simp; exact ⟨rfl, rfl⟩))
         (try clear zg5_0 zg5_1)
         (try clear kg16_0 kg16_1 kg5_0 kg5_1)
         intro w22 hw
         replace S := Aside0.mk (show St w w (fun _ => False) [hB g5 #[.slice none 0 0, .slice none 0 0] 88, hB g16 #[.slice A12 ws.length c13, .slice A14 ds.length c15] 88, hM w.heap.size (.slice A12 ws.length c13) (.slice A14 ds.length c15) ws ds, hB g7 #[.int .i64 0, .int .i64 0, .int .i64 0, .int .i64 0] 100, hB g3 #[.int .i64 code, .slice A3 rs.length c3] 70, hB g1 #[.slice A0 ws.length c0, .slice A1 ds.length c1] 88] _ from S.out.bring 3 rfl)
         replace S : Aside0 (St w w (fun _ => False) [hB g5 #[.slice A12 ws.length c13, .slice A14 ds.length c15] 88, hB g16 #[.slice A12 ws.length c13, .slice A14 ds.length c15] 88, hM w.heap.size (.slice A12 ws.length c13) (.slice A14 ds.length c15) ws ds, hB g7 #[.int .i64 0, .int .i64 0, .int .i64 0, .int .i64 0] 100, hB g3 #[.int .i64 code, .slice A3 rs.length c3] 70, hB g1 #[.slice A0 ws.length c0, .slice A1 ds.length c1] 88] w22) := Aside0.mk (by rw [hw]; exact ((S.out.put 0 (.slice A12 ws.length c13) rfl).put 1 (.slice A14 ds.length c15) rfl))
         clear hw
         have kg7_0 : w22.cell? ⟨g7, 0, none⟩ = some (.int .i64 0) := (blk_cell (S.out.blk 3 rfl) 0).trans rfl
         have kg7_1 : w22.cell? ⟨g7, 1, none⟩ = some (.int .i64 0) := (blk_cell (S.out.blk 3 rfl) 1).trans rfl
         have kg7_2 : w22.cell? ⟨g7, 2, none⟩ = some (.int .i64 0) := (blk_cell (S.out.blk 3 rfl) 2).trans rfl
         have kg7_3 : w22.cell? ⟨g7, 3, none⟩ = some (.int .i64 0) := (blk_cell (S.out.blk 3 rfl) 3).trans rfl)
      | ((with_reducible refine gate_store (t := 100) (p := 9) rfl ?_)
         have zg7_0 := blk_frozen (S.out.blk 3 rfl) 0
         have zg7_1 := blk_frozen (S.out.blk 3 rfl) 1
         have zg7_2 := blk_frozen (S.out.blk 3 rfl) 2
         have zg7_3 := blk_frozen (S.out.blk 3 rfl) 3
         refine store_event (t := 100) (p := 9) (v := ?vo_w23) (w1 := ((((w22.setCell ⟨g7, 0, none⟩ (.int .i64 0)).setCell ⟨g7, 1, none⟩ (.int .i64 0)).setCell ⟨g7, 2, none⟩ (.int .i64 0)).setCell ⟨g7, 3, none⟩ (.int .i64 0))) ?hg ?ho ?hn ?hr ?_
         (case ho => rfl)
         (case hg => rfl)
         (case hn => rfl)
         (case hr => first | (go_simp; done) | (go_simp; rfl) | (go_simp; exact ⟨rfl, rfl⟩))
         (try clear zg7_0 zg7_1 zg7_2 zg7_3)
         (try clear kg7_0 kg7_1 kg7_2 kg7_3)
         intro w23 hw
         replace S := Aside0.mk (show St w w (fun _ => False) [hB g7 #[.int .i64 0, .int .i64 0, .int .i64 0, .int .i64 0] 100, hB g5 #[.slice A12 ws.length c13, .slice A14 ds.length c15] 88, hB g16 #[.slice A12 ws.length c13, .slice A14 ds.length c15] 88, hM w.heap.size (.slice A12 ws.length c13) (.slice A14 ds.length c15) ws ds, hB g3 #[.int .i64 code, .slice A3 rs.length c3] 70, hB g1 #[.slice A0 ws.length c0, .slice A1 ds.length c1] 88] _ from S.out.bring 3 rfl)
         replace S : Aside0 (St w w (fun _ => False) [hB g7 #[.int .i64 0, .int .i64 0, .int .i64 0, .int .i64 0] 100, hB g5 #[.slice A12 ws.length c13, .slice A14 ds.length c15] 88, hB g16 #[.slice A12 ws.length c13, .slice A14 ds.length c15] 88, hM w.heap.size (.slice A12 ws.length c13) (.slice A14 ds.length c15) ws ds, hB g3 #[.int .i64 code, .slice A3 rs.length c3] 70, hB g1 #[.slice A0 ws.length c0, .slice A1 ds.length c1] 88] w23) := Aside0.mk (by rw [hw]; exact ((((S.out.put 0 (.int .i64 0) rfl).put 1 (.int .i64 0) rfl).put 2 (.int .i64 0) rfl).put 3 (.int .i64 0) rfl))
         clear hw))
  refine bodyPost_ret (results_list (rs := [.cell 8 88, .cell 9 100, .tmp 10]) rfl (by simp) (.cell g5 88 #[.slice A12 ws.length c13, .slice A14 ds.length c15] (0, 0) _ rfl (S.out.blk 1 rfl) Try.underlying88 rfl (by kernel_rfl) (.cell g7 100 #[.int .i64 0, .int .i64 0, .int .i64 0, .int .i64 0] (0, 0) _ rfl (S.out.blk 0 rfl) Try.underlying100 rfl (by kernel_rfl) (.tmp .nil)))) rfl ?_
  obtain ⟨D_, hD_⟩ := S.out.nth 3 rfl
  exact ⟨_, _, by first | rfl | (simp; done), Kd.R_mono (M_R hD_) (fun _ _ => trivial), Kd.S_mono (M_S hD_) (fun _ _ => trivial), S.out.done⟩
set_option maxHeartbeats 8000000 in
set_option maxRecDepth 100000 in
theorem spec_Begin.way4 (k : Nat) (A0 : Option Addr) (c0 : Nat) (ws : List S141) (A1 : Option Addr) (c1 : Nat) (ds : List S145) (t : Int) (A2 : Option Addr) (c2 : Nat) (es : List S166) (code : Int) (A3 : Option Addr) (c3 : Nat) (rs : List Int) (w : World) (hr0 : Kd.C k141 w A0 ws.length ws) (hc0 : ws.length ≤ c0) (hr1 : Kd.C k145 w A1 ds.length ds) (hc1 : ds.length ≤ c1) (hr2 : Kd.C k166 w A2 es.length es) (hc2 : es.length ≤ c2) (hr3 : Kd.C (Kd.int .i64) w A3 rs.length rs) (hc3 : rs.length ≤ c3)
    (hH1 : spec_l7Copy.f k ws ds = some (ws, ds)) (hH2 : spec_MemOk.f k ws ds = some true) (hH3 : spec_l1In.f t 0 (wrap64 ((ds.length : Int) - 1)) = some true) (hH4 : spec_l7Marks.f k ws ds t = some false) (hH6 : spec_l6Res.f code rs = some (code, rs)) (hH7 : spec_MemOk.f k ws (ds.set t.toNat ⟨(wrap64 ((rd_T145 ds t).f0 + 1)), 1, es, ⟨code, rs⟩⟩) = some false) (hb0 : 0 ≤ t) (hb1 : t < (ds.length : Int)) (hes : es.length ≤ 1048576) :
    Calls Try.prog 63 #[.agg #[.slice A0 ws.length c0, .slice A1 ds.length c1], .int .i64 t, .slice A2 es.length c2, .agg #[.int .i64 code, .slice A3 rs.length c3]] w fun e w' => ∃ v0_ v1_ : Value, e = .returned (.tuple #[.agg #[v0_, v1_], .agg #[.int .i64 0, .int .i64 0, .int .i64 0, .int .i64 0], .bool false]) ∧ Kd.R k141 141 w' w.heap.size (fun _ => True) v0_ ws ∧ Kd.S k145 145 w' w.heap.size (fun _ => True) v1_ ds ∧ Below w.heap.size w w' := by
  have hu88 := Try.underlying88
  have hu70 := Try.underlying70
  have hu100 := Try.underlying100
  have hu145 := Try.underlying145
  obtain ⟨ad1, E2_, d2_, E4_, d4_, rfl, X0, _⟩ := at_T145 hr1 t hb0 hb1
  have X0_ := Aside0.mk X0
  clear X0
  have p1 := eq_true hb0
  have q1 := eq_true hb1
  have HR0 := Aside0.mk hr0
  have HC0 := Aside0.mk hc0
  have HR1 := Aside0.mk hr1
  have HC1 := Aside0.mk hc1
  have HR2 := Aside0.mk hr2
  have HC2 := Aside0.mk hc2
  have HR3 := Aside0.mk hr3
  have HC3 := Aside0.mk hc3
  clear hr0 hc0 hr1 hc1 hr2 hc2 hr3 hc3
  have H1 := Aside0.mk hH1
  have H2 := Aside0.mk hH2
  have H3 := Aside0.mk hH3
  have H4 := Aside0.mk hH4
  have H6 := Aside0.mk hH6
  have H7 := Aside0.mk hH7
  clear hH1 hH2 hH3 hH4 hH6 hH7
  have S := Aside0.mk (St.start w)
  go_enter Try.func63, Try.ntmps63
  go_wp2_with (first
      | ((with_reducible refine gate_dst (N := 4) rfl ?_)
         refine box_event ?hg (N := 4) ?hd (cs := #[.slice A0 ws.length c0, .slice (some ad1) ds.length c1]) (t := 88) ?hr ?_
         (case hd => rfl)
         (case hg => rfl)
         (case hr => first | (go_simp; done) | (go_simp; rfl) | (go_simp; exact ⟨rfl, rfl⟩))
         intro g1 hg w2 hbox hb
         replace S := Aside0.mk (S.out.box hg hbox hb)
         clear hg hbox hb)
      | ((with_reducible refine gate_dst (N := 7) rfl ?_)
         refine box_event ?hg (N := 7) ?hd (cs := #[.int .i64 code, .slice A3 rs.length c3]) (t := 70) ?hr ?_
         (case hd => rfl)
         (case hg => rfl)
         (case hr => first | (go_simp; done) | (go_simp; rfl) | (go_simp; exact ⟨rfl, rfl⟩))
         intro g3 hg w4 hbox hb
         replace S := Aside0.mk (S.out.box hg hbox hb)
         clear hg hbox hb)
      | ((with_reducible refine gate_dst (N := 8) rfl ?_)
         refine box_event ?hg (N := 8) ?hd (cs := #[.slice none 0 0, .slice none 0 0]) (t := 88) ?hr ?_
         (case hd => rfl)
         (case hg => rfl)
         (case hr => first | (go_simp; done) | (go_simp; rfl) | (go_simp; exact ⟨rfl, rfl⟩))
         intro g5 hg w6 hbox hb
         replace S := Aside0.mk (S.out.box hg hbox hb)
         clear hg hbox hb)
      | ((with_reducible refine gate_dst (N := 9) rfl ?_)
         refine box_event ?hg (N := 9) ?hd (cs := #[.int .i64 0, .int .i64 0, .int .i64 0, .int .i64 0]) (t := 100) ?hr ?_
         (case hd => rfl)
         (case hg => rfl)
         (case hr => first | (go_simp; done) | (go_simp; rfl) | (go_simp; exact ⟨rfl, rfl⟩))
         intro g7 hg w8 hbox hb
         replace S := Aside0.mk (S.out.box hg hbox hb)
         clear hg hbox hb
         have kg1_0 : w8.cell? ⟨g1, 0, none⟩ = some (.slice A0 ws.length c0) := (blk_cell (S.out.blk 3 rfl) 0).trans rfl
         have kg1_1 : w8.cell? ⟨g1, 1, none⟩ = some (.slice (some ad1) ds.length c1) := (blk_cell (S.out.blk 3 rfl) 1).trans rfl)
      | ((with_reducible refine gate_callee (f := 133) rfl ?_)
         (try clear kg1_0 kg1_1)
         refine goesL_ (some 15) rfl rfl Try.func133 (by kernel_rfl) rfl #[.agg #[.slice A0 ws.length c0, .slice (some ad1) ds.length c1]] rfl (by (try simp only [List.map_toArray, List.map_cons, List.map_nil]); first | done | rfl) ?_
         (with_reducible refine (spec_l7Copy.calls k A0 c0 ws (some ad1) c1 ds _ _ _ (Kd.C_below HR0.out S.out.below) HC0.out (Kd.C_below HR1.out S.out.below) HC1.out H1.out).mono ?_)
         rintro e w9 ⟨v10, v11, rfl, h0, h1, hb⟩
         obtain ⟨A12, c13, rfl⟩ := Kd.R_slice h0
         obtain ⟨A14, c15, rfl⟩ := Kd.S_slice h1
         refine ⟨_, rfl, ?_⟩
         replace S := Aside0.mk (S.out.madeM h0 h1 hb)
         clear hb h0 h1)
      | ((with_reducible refine gate_dst (N := 11) rfl ?_)
         refine box_event ?hg (N := 11) ?hd (cs := #[.slice none 0 0, .slice none 0 0]) (t := 88) ?hr ?_
         (case hd => rfl)
         (case hg => rfl)
         (case hr => first | (go_simp; done) | (go_simp; rfl) | (go_simp; exact ⟨rfl, rfl⟩))
         intro g16 hg w17 hbox hb
         replace S := Aside0.mk (S.out.box hg hbox hb)
         clear hg hbox hb
         have kg16_0 : w17.cell? ⟨g16, 0, none⟩ = some (.slice none 0 0) := (blk_cell (S.out.blk 0 rfl) 0).trans rfl
         have kg16_1 : w17.cell? ⟨g16, 1, none⟩ = some (.slice none 0 0) := (blk_cell (S.out.blk 0 rfl) 1).trans rfl)
      | ((with_reducible refine gate_store (t := 88) (p := 11) rfl ?_)
         have zg16_0 := blk_frozen (S.out.blk 0 rfl) 0
         have zg16_1 := blk_frozen (S.out.blk 0 rfl) 1
         refine store_event (t := 88) (p := 11) (v := ?vo_w18) (w1 := ((w17.setCell ⟨g16, 0, none⟩ (.slice A12 ws.length c13)).setCell ⟨g16, 1, none⟩ (.slice A14 ds.length c15))) ?hg ?ho ?hn ?hr ?_
         (case ho => rfl)
         (case hg => rfl)
         (case hn => rfl)
         (case hr => first | (go_simp; done) | (go_simp; rfl) | (go_simp; exact ⟨rfl, rfl⟩))
         (try clear zg16_0 zg16_1)
         (try clear kg16_0 kg16_1)
         intro w18 hw
         replace S : Aside0 (St w w (fun _ => False) [hB g16 #[.slice A12 ws.length c13, .slice A14 ds.length c15] 88, hM w.heap.size (.slice A12 ws.length c13) (.slice A14 ds.length c15) ws ds, hB g7 #[.int .i64 0, .int .i64 0, .int .i64 0, .int .i64 0] 100, hB g5 #[.slice none 0 0, .slice none 0 0] 88, hB g3 #[.int .i64 code, .slice A3 rs.length c3] 70, hB g1 #[.slice A0 ws.length c0, .slice (some ad1) ds.length c1] 88] w18) := Aside0.mk (by rw [hw]; exact ((S.out.put 0 (.slice A12 ws.length c13) rfl).put 1 (.slice A14 ds.length c15) rfl))
         clear hw
         have kg1_0 : w18.cell? ⟨g1, 0, none⟩ = some (.slice A0 ws.length c0) := (blk_cell (S.out.blk 5 rfl) 0).trans rfl
         have kg1_1 : w18.cell? ⟨g1, 1, none⟩ = some (.slice (some ad1) ds.length c1) := (blk_cell (S.out.blk 5 rfl) 1).trans rfl)
      | ((with_reducible refine gate_callee (f := 128) rfl ?_)
         (try clear kg1_0 kg1_1)
         refine goesL_ (some 17) rfl rfl Try.func128 (by kernel_rfl) rfl #[.agg #[.slice A0 ws.length c0, .slice (some ad1) ds.length c1]] rfl (by (try simp only [List.map_toArray, List.map_cons, List.map_nil]); first | done | rfl) ?_
         (with_reducible refine (spec_MemOk.calls k A0 c0 ws (some ad1) c1 ds _ _ (Kd.C_below HR0.out S.out.below) HC0.out (Kd.C_below HR1.out S.out.below) HC1.out H2.out).mono ?_)
         rintro e w19 ⟨rfl, hb⟩
         refine ⟨_, rfl, ?_⟩
         replace S := Aside0.mk (S.out.moved hb)
         clear hb
         have kg1_0 : w19.cell? ⟨g1, 0, none⟩ = some (.slice A0 ws.length c0) := (blk_cell (S.out.blk 5 rfl) 0).trans rfl
         have kg1_1 : w19.cell? ⟨g1, 1, none⟩ = some (.slice (some ad1) ds.length c1) := (blk_cell (S.out.blk 5 rfl) 1).trans rfl)
      | (go_at_call 79
         (try clear kg1_0 kg1_1)
         (with_reducible refine (spec_l1In.calls t 0 (wrap64 ((ds.length : Int) - 1)) _ _ H3.out).mono ?_)
         rintro e w20 ⟨rfl, hb⟩
         replace hb : Below w19.heap.size w19 w20 := by obtain ⟨nd, rfl⟩ := hb; exact pw_below_drewN (Below.refl _ _) nd
         replace S := Aside0.mk (S.out.moved hb)
         clear hb
         have kg1_0 : w20.cell? ⟨g1, 0, none⟩ = some (.slice A0 ws.length c0) := (blk_cell (S.out.blk 5 rfl) 0).trans rfl
         have kg1_1 : w20.cell? ⟨g1, 1, none⟩ = some (.slice (some ad1) ds.length c1) := (blk_cell (S.out.blk 5 rfl) 1).trans rfl)
      | (go_at_call 134
         (try clear kg1_0 kg1_1)
         (with_reducible refine (spec_l7Marks.calls k A0 c0 ws (some ad1) c1 ds t _ _ (Kd.C_below HR0.out S.out.below) HC0.out (Kd.C_below HR1.out S.out.below) HC1.out H4.out).mono ?_)
         rintro e w21 ⟨rfl, hb⟩
         replace S := Aside0.mk (S.out.moved hb)
         clear hb
         have kg1_0 : w21.cell? ⟨g1, 0, none⟩ = some (.slice A0 ws.length c0) := (blk_cell (S.out.blk 5 rfl) 0).trans rfl
         have kg1_1 : w21.cell? ⟨g1, 1, none⟩ = some (.slice (some ad1) ds.length c1) := (blk_cell (S.out.blk 5 rfl) 1).trans rfl)
      | ((with_reducible refine gate_callee (f := 133) rfl ?_)
         (try clear kg1_0 kg1_1)
         refine goesL_ (some 36) rfl rfl Try.func133 (by kernel_rfl) rfl #[.agg #[.slice A0 ws.length c0, .slice (some ad1) ds.length c1]] rfl (by (try simp only [List.map_toArray, List.map_cons, List.map_nil]); first | done | rfl) ?_
         (with_reducible refine (spec_l7Copy.calls k A0 c0 ws (some ad1) c1 ds _ _ _ (Kd.C_below HR0.out S.out.below) HC0.out (Kd.C_below HR1.out S.out.below) HC1.out H1.out).mono ?_)
         rintro e w22 ⟨v23, v24, rfl, h0, h1, hb⟩
         obtain ⟨A25, c26, rfl⟩ := Kd.R_slice h0
         obtain ⟨b29, c28, rfl, _, _, _⟩ := Kd.S_form h1 (by omega)
         refine ⟨_, rfl, ?_⟩
         replace S := Aside0.mk (S.out.madeM h0 h1 hb)
         clear hb h0 h1)
      | ((with_reducible refine gate_dst (N := 12) rfl ?_)
         refine box_event ?hg (N := 12) ?hd (cs := #[.slice none 0 0, .slice none 0 0]) (t := 88) ?hr ?_
         (case hd => rfl)
         (case hg => rfl)
         (case hr => first | (go_simp; done) | (go_simp; rfl) | (go_simp; exact ⟨rfl, rfl⟩))
         intro g30 hg w31 hbox hb
         replace S := Aside0.mk (S.out.box hg hbox hb)
         clear hg hbox hb
         have kg30_0 : w31.cell? ⟨g30, 0, none⟩ = some (.slice none 0 0) := (blk_cell (S.out.blk 0 rfl) 0).trans rfl
         have kg30_1 : w31.cell? ⟨g30, 1, none⟩ = some (.slice none 0 0) := (blk_cell (S.out.blk 0 rfl) 1).trans rfl)
      | ((with_reducible refine gate_store (t := 88) (p := 12) rfl ?_)
         have zg30_0 := blk_frozen (S.out.blk 0 rfl) 0
         have zg30_1 := blk_frozen (S.out.blk 0 rfl) 1
         refine store_event (t := 88) (p := 12) (v := ?vo_w32) (w1 := ((w31.setCell ⟨g30, 0, none⟩ (.slice A25 ws.length c26)).setCell ⟨g30, 1, none⟩ (.slice (some ⟨b29, 0, none⟩) ds.length c28))) ?hg ?ho ?hn ?hr ?_
         (case ho => rfl)
         (case hg => rfl)
         (case hn => rfl)
         (case hr => first | (go_simp; done) | (go_simp; rfl) | (go_simp; exact ⟨rfl, rfl⟩))
         (try clear zg30_0 zg30_1)
         (try clear kg30_0 kg30_1)
         intro w32 hw
         replace S : Aside0 (St w w (fun _ => False) [hB g30 #[.slice A25 ws.length c26, .slice (some ⟨b29, 0, none⟩) ds.length c28] 88, hM w.heap.size (.slice A25 ws.length c26) (.slice (some ⟨b29, 0, none⟩) ds.length c28) ws ds, hB g16 #[.slice A12 ws.length c13, .slice A14 ds.length c15] 88, hM w.heap.size (.slice A12 ws.length c13) (.slice A14 ds.length c15) ws ds, hB g7 #[.int .i64 0, .int .i64 0, .int .i64 0, .int .i64 0] 100, hB g5 #[.slice none 0 0, .slice none 0 0] 88, hB g3 #[.int .i64 code, .slice A3 rs.length c3] 70, hB g1 #[.slice A0 ws.length c0, .slice (some ad1) ds.length c1] 88] w32) := Aside0.mk (by rw [hw]; exact ((S.out.put 0 (.slice A25 ws.length c26) rfl).put 1 (.slice (some ⟨b29, 0, none⟩) ds.length c28) rfl))
         clear hw
         have kg30_0 : w32.cell? ⟨g30, 0, none⟩ = some (.slice A25 ws.length c26) := (blk_cell (S.out.blk 0 rfl) 0).trans rfl
         have kg30_1 : w32.cell? ⟨g30, 1, none⟩ = some (.slice (some ⟨b29, 0, none⟩) ds.length c28) := (blk_cell (S.out.blk 0 rfl) 1).trans rfl
         have kg3_0 : w32.cell? ⟨g3, 0, none⟩ = some (.int .i64 code) := (blk_cell (S.out.blk 6 rfl) 0).trans rfl
         have kg3_1 : w32.cell? ⟨g3, 1, none⟩ = some (.slice A3 rs.length c3) := (blk_cell (S.out.blk 6 rfl) 1).trans rfl
         have kg1_0 : w32.cell? ⟨g1, 0, none⟩ = some (.slice A0 ws.length c0) := (blk_cell (S.out.blk 7 rfl) 0).trans rfl
         have kg1_1 : w32.cell? ⟨g1, 1, none⟩ = some (.slice (some ad1) ds.length c1) := (blk_cell (S.out.blk 7 rfl) 1).trans rfl
         have x0h : w32.cell? (ad1.add (t.toNat * 5)) = some (.int .i64 (rd_T145 ds t).f0) := St.cell S.out X0_.out))
  refine start_ (n := 12) (S := fun w' => St w w (fun _ => False) [hB g30 #[.slice A25 ws.length c26, .slice (some ⟨b29, 0, none⟩) ds.length c28] 88, hB g16 #[.slice A12 ws.length c13, .slice A14 ds.length c15] 88, hM w.heap.size (.slice A12 ws.length c13) (.slice A14 ds.length c15) ws ds, hB g7 #[.int .i64 0, .int .i64 0, .int .i64 0, .int .i64 0] 100, hB g5 #[.slice none 0 0, .slice none 0 0] 88, hB g3 #[.int .i64 code, .slice A3 rs.length c3] 70, hB g1 #[.slice A0 ws.length c0, .slice (some ad1) ds.length c1] 88] w') (ds := []) #[false, false, false, false, false, false, false, false, false, false, false, false] (by kernel_rfl) rfl rfl (St.drew ((S.out.bring 1 rfl).drop)) (fun hS_ => ?_)
  (try clear kg30_0 kg30_1 kg3_0 kg3_1 kg1_0 kg1_1 x0h)
  replace S := Aside0.mk S.out.drew
  clear hS_
  generalize w32.drew = w33 at S ⊢
  refine take_ (i := 0) (N := some 44) (v := .pointer (some ⟨g30, 1, none⟩)) (a' := ?at34) #[true, false, false, false, false, false, false, false, false, false, false, false] rfl rfl (by kernel_rfl) (fun _ _ _ h => h) (Or.inl ⟨by rfl, ?yt34⟩) ((S.out.bring 1 rfl).drop) ?pt34 ?nt34
  case yt34 =>
    intro w' hS
    first | (go_simp; done) | (go_simp; rfl) | (go_simp; exact ⟨rfl, rfl⟩)
  case pt34 =>
    simp only [Act.put, List.setIfInBounds_toArray, List.set_cons_zero, List.set_cons_succ, i64_w, i32_w]
    rfl
  refine take_ (i := 1) (N := some 45) (v := .slice (some ⟨b29, 0, none⟩) ds.length c28) (a' := ?at35) #[true, true, false, false, false, false, false, false, false, false, false, false] rfl rfl (by kernel_rfl) (fun _ _ _ h => h) (Or.inl ⟨by rfl, ?yt35⟩) ((S.out.bring 1 rfl).drop) ?pt35 ?nt35
  case yt35 =>
    intro w' hS
    have kg30_0 : w'.cell? ⟨g30, 0, none⟩ = some (.slice A25 ws.length c26) := (blk_cell (hS.blk 0 rfl) 0).trans rfl
    have kg30_1 : w'.cell? ⟨g30, 1, none⟩ = some (.slice (some ⟨b29, 0, none⟩) ds.length c28) := (blk_cell (hS.blk 0 rfl) 1).trans rfl
    have x0h : w'.cell? (ad1.add (t.toNat * 5)) = some (.int .i64 (rd_T145 ds t).f0) := St.cell hS X0_.out
    first | (go_simp; done) | (go_simp; rfl) | (go_simp; exact ⟨rfl, rfl⟩)
  case pt35 =>
    simp only [Act.put, List.setIfInBounds_toArray, List.set_cons_zero, List.set_cons_succ, i64_w, i32_w]
    rfl
  refine take_ (i := 2) (N := some 46) (v := .int .i64 t) (a' := ?at36) #[true, true, true, false, false, false, false, false, false, false, false, false] rfl rfl (by kernel_rfl) (fun _ _ _ h => h) (Or.inl ⟨by rfl, ?yt36⟩) ((S.out.bring 1 rfl).drop) ?pt36 ?nt36
  case yt36 =>
    intro w' hS
    first | (go_simp; done) | (go_simp; rfl) | (go_simp; exact ⟨rfl, rfl⟩)
  case pt36 =>
    simp only [Act.put, List.setIfInBounds_toArray, List.set_cons_zero, List.set_cons_succ, i64_w, i32_w]
    rfl
  refine take_ (i := 3) (N := some 47) (v := .int .i64 (wrap64 (((rd_T145 ds t).f0) + 1))) (a' := ?at37) #[true, true, true, true, false, false, false, false, false, false, false, false] rfl rfl (by kernel_rfl) (fun _ _ _ h => h) (Or.inl ⟨by rfl, ?yt37⟩) ((S.out.bring 1 rfl).drop) ?pt37 ?nt37
  case yt37 =>
    intro w' hS
    first | (go_simp; done) | (go_simp; rfl) | (go_simp; exact ⟨rfl, rfl⟩)
  case pt37 =>
    simp only [Act.put, List.setIfInBounds_toArray, List.set_cons_zero, List.set_cons_succ, i64_w, i32_w]
    rfl
  refine take_ (i := 5) (N := some 49) (v := .slice A2 es.length c2) (a' := ?at38) #[true, true, true, true, false, true, false, false, false, false, false, false] rfl rfl (by kernel_rfl) (fun _ _ _ h => h) (Or.inl ⟨by rfl, ?yt38⟩) ((S.out.bring 1 rfl).drop) ?pt38 ?nt38
  case yt38 =>
    intro w' hS
    first | (go_simp; done) | (go_simp; rfl) | (go_simp; exact ⟨rfl, rfl⟩)
  case pt38 =>
    simp only [Act.put, List.setIfInBounds_toArray, List.set_cons_zero, List.set_cons_succ, i64_w, i32_w]
    rfl
  refine take_ (i := 7) (N := some 51) (v := .agg #[.int .i64 code, .slice A3 rs.length c3]) (a' := ?at39) #[true, true, true, true, false, true, false, true, false, false, false, false] rfl rfl (by kernel_rfl) (fun _ _ _ h => h) (Or.inl ⟨by rfl, ?yt39⟩) ((S.out.bring 1 rfl).drop) ?pt39 ?nt39
  case yt39 =>
    intro w' hS
    have kg3_0 : w'.cell? ⟨g3, 0, none⟩ = some (.int .i64 code) := (blk_cell (hS.blk 5 rfl) 0).trans rfl
    have kg3_1 : w'.cell? ⟨g3, 1, none⟩ = some (.slice A3 rs.length c3) := (blk_cell (hS.blk 5 rfl) 1).trans rfl
    have x0h : w'.cell? (ad1.add (t.toNat * 5)) = some (.int .i64 (rd_T145 ds t).f0) := St.cell hS X0_.out
    first | (go_simp; done) | (go_simp; rfl) | (go_simp; exact ⟨rfl, rfl⟩)
  case pt39 =>
    simp only [Act.put, List.setIfInBounds_toArray, List.set_cons_zero, List.set_cons_succ, i64_w, i32_w]
    rfl
  refine one_ (i := 4) (N := some 48) #[true, true, true, true, true, true, false, true, false, false, false, false] rfl rfl (by kernel_rfl) (by decide) (fun K hK => ?_)
  refine S.out.lit_step k166 166 (by rfl) (N := 48) rfl (xs := ([] : List S166)) (inner := []) (by first | (go_simp; done) | (go_simp; rfl) | (go_simp; exact ⟨rfl, rfl⟩)) (Reps.none _ _) (by simp) ?_
  intro v43 w40 hS_
  obtain ⟨D_, hD_⟩ := hS_.nth 0 rfl
  obtain ⟨A41, c42, rfl⟩ := Kd.R_slice (hR_out hD_)
  clear hD_ D_
  replace S := Aside0.mk hS_
  clear hS_
  refine hK _ _ ((S.out.drop.bring 1 rfl).drop) (fun _ => ?_)
  refine norm_ (a' := ?at44) ?pt44 ?nt44
  case pt44 =>
    show Act.put _ (some 48) _ = _
    simp only [Act.put, List.setIfInBounds_toArray, List.set_cons_zero, List.set_cons_succ, i64_w, i32_w]
    rfl
  refine one_ (i := 6) (N := some 50) #[true, true, true, true, true, true, true, true, false, false, false, false] rfl rfl (by kernel_rfl) (by decide) (fun K hK => ?_)
  refine S.out.append_step (by rfl) (.tmp 48) (.tmp 49) 104 (.agg #[(.int .i64 0), (.int .i64 0), (.int .i64 0)]) 24 rfl Try.underlying104 info166 rfl (by decide) (by omega) es _ _ _ rfl rfl (Kd.C_below HR2.out S.out.below) (fun _ _ h => h) (by have := hes; simp; omega) ?_
  intro v48 w45 hS_
  obtain ⟨D_, hD_⟩ := hS_.nth 0 rfl
  obtain ⟨A46, c47, rfl⟩ := Kd.R_slice (hR_out hD_)
  clear hD_ D_
  replace S : Aside0 (St w w (fun _ => False) [hR k166 166 w.heap.size (.slice A46 es.length c47) es, hB g30 #[.slice A25 ws.length c26, .slice (some ⟨b29, 0, none⟩) ds.length c28] 88, hM w.heap.size (.slice A25 ws.length c26) (.slice (some ⟨b29, 0, none⟩) ds.length c28) ws ds, hB g16 #[.slice A12 ws.length c13, .slice A14 ds.length c15] 88, hM w.heap.size (.slice A12 ws.length c13) (.slice A14 ds.length c15) ws ds, hB g7 #[.int .i64 0, .int .i64 0, .int .i64 0, .int .i64 0] 100, hB g5 #[.slice none 0 0, .slice none 0 0] 88, hB g3 #[.int .i64 code, .slice A3 rs.length c3] 70, hB g1 #[.slice A0 ws.length c0, .slice (some ad1) ds.length c1] 88] _) := Aside0.mk hS_
  clear hS_
  refine hK _ _ ((S.out.drop.bring 1 rfl).drop) (fun _ => ?_)
  refine norm_ (a' := ?at49) ?pt49 ?nt49
  case pt49 =>
    show Act.put _ (some 50) _ = _
    simp only [Act.put, List.setIfInBounds_toArray, List.set_cons_zero, List.set_cons_succ, i64_w, i32_w]
    rfl
  refine one_ (i := 8) (N := some 52) #[true, true, true, true, true, true, true, true, true, false, false, false] rfl rfl (by kernel_rfl) (by decide) (fun K hK => ?_)
  refine goes_ Try.func135 (by kernel_rfl) rfl #[.agg #[.int .i64 code, .slice A3 rs.length c3]] (by rfl) rfl rfl (by (try simp only [List.map_toArray, List.map_cons, List.map_nil]); first | done | rfl) ?_
  (with_reducible refine (spec_l6Res.calls code A3 c3 rs _ _ _ (Kd.C_below HR3.out S.out.below) HC3.out H6.out).mono ?_)
  rintro e w50 ⟨v51, rfl, h0, hb⟩
  obtain ⟨A52, c53, rfl⟩ := Kd.R_slice h0
  refine ⟨_, rfl, ?_⟩
  replace S := Aside0.mk (S.out.madeR h0 hb)
  clear hb h0
  refine hK _ _ ((S.out.drop.drop.bring 1 rfl).drop) (fun _ => ?_)
  refine norm_ (a' := ?at54) ?pt54 ?nt54
  case pt54 =>
    show Act.put _ (some 52) _ = _
    simp only [Act.put, List.setIfInBounds_toArray, List.set_cons_zero, List.set_cons_succ, i64_w, i32_w]
    rfl
  refine take_ (i := 9) (N := some 53) (v := .agg #[.int .i64 (wrap64 (((rd_T145 ds t).f0) + 1)), .int .i64 1, .slice A46 es.length c47, .int .i64 code, .slice A52 rs.length c53]) (a' := ?at55) #[true, true, true, true, true, true, true, true, true, true, false, false] rfl rfl (by kernel_rfl) (fun _ _ _ h => h) (Or.inl ⟨by rfl, ?yt55⟩) ((S.out.drop.drop.bring 1 rfl).drop) ?pt55 ?nt55
  case yt55 =>
    intro w' hS
    first | (go_simp; done) | (go_simp; rfl) | (go_simp; exact ⟨rfl, rfl⟩)
  case pt55 =>
    simp only [Act.put, List.setIfInBounds_toArray, List.set_cons_zero, List.set_cons_succ, i64_w, i32_w]
    rfl
  refine take_ (i := 10) (N := some 54) (v := .pointer (some ⟨b29, t.toNat * 5, none⟩)) (a' := ?at56) #[true, true, true, true, true, true, true, true, true, true, true, false] rfl rfl (by kernel_rfl) (fun _ _ _ h => h) (Or.inl ⟨by rfl, ?yt56⟩) ((S.out.drop.drop.bring 1 rfl).drop) ?pt56 ?nt56
  case yt56 =>
    intro w' hS
    first | (go_simp; done) | (go_simp; rfl) | (go_simp; exact ⟨rfl, rfl⟩)
  case pt56 =>
    simp only [Act.put, List.setIfInBounds_toArray, List.set_cons_zero, List.set_cons_succ, i64_w, i32_w]
    rfl
  refine one_ (i := 11) (N := none) #[true, true, true, true, true, true, true, true, true, true, true, true] rfl rfl (by kernel_rfl) (by decide) (fun K hK => ?_)
  replace S := Aside0.mk (show St w w (fun _ => False) [hR k166 166 w.heap.size (.slice A46 es.length c47) es, hR (Kd.int .i64) 3 w.heap.size (.slice A52 rs.length c53) rs, hB g30 #[.slice A25 ws.length c26, .slice (some ⟨b29, 0, none⟩) ds.length c28] 88, hM w.heap.size (.slice A25 ws.length c26) (.slice (some ⟨b29, 0, none⟩) ds.length c28) ws ds, hB g16 #[.slice A12 ws.length c13, .slice A14 ds.length c15] 88, hM w.heap.size (.slice A12 ws.length c13) (.slice A14 ds.length c15) ws ds, hB g7 #[.int .i64 0, .int .i64 0, .int .i64 0, .int .i64 0] 100, hB g5 #[.slice none 0 0, .slice none 0 0] 88, hB g3 #[.int .i64 code, .slice A3 rs.length c3] 70, hB g1 #[.slice A0 ws.length c0, .slice (some ad1) ds.length c1] 88] _ from S.out.bring 1 rfl)
  replace S := Aside0.mk (show St w w (fun _ => False) [hM w.heap.size (.slice A25 ws.length c26) (.slice (some ⟨b29, 0, none⟩) ds.length c28) ws ds, hR k166 166 w.heap.size (.slice A46 es.length c47) es, hR (Kd.int .i64) 3 w.heap.size (.slice A52 rs.length c53) rs, hB g30 #[.slice A25 ws.length c26, .slice (some ⟨b29, 0, none⟩) ds.length c28] 88, hB g16 #[.slice A12 ws.length c13, .slice A14 ds.length c15] 88, hM w.heap.size (.slice A12 ws.length c13) (.slice A14 ds.length c15) ws ds, hB g7 #[.int .i64 0, .int .i64 0, .int .i64 0, .int .i64 0] 100, hB g5 #[.slice none 0 0, .slice none 0 0] 88, hB g3 #[.int .i64 code, .slice A3 rs.length c3] 70, hB g1 #[.slice A0 ws.length c0, .slice (some ad1) ds.length c1] 88] _ from S.out.bring 3 rfl)
  obtain ⟨D_, hD_⟩ := S.out.nth 0 rfl
  obtain ⟨E2_, d2_, E4_, d4_, oki_, hE_⟩ := El_open (M_S hD_) hb0 hb1
  obtain ⟨⟨x0_, x1_, x2_, x3_, x4_⟩, y0_, y1_, y2_, y3_, y4_⟩ := El_cells hE_ hb0 hb1
  refine skip_ (w1 := (((((w50.setCell ⟨b29, t.toNat * 5, none⟩ (.int .i64 (wrap64 (((rd_T145 ds t).f0) + 1)))).setCell ⟨b29, t.toNat * 5 + 1, none⟩ (.int .i64 1)).setCell ⟨b29, t.toNat * 5 + 2, none⟩ (.slice A46 es.length c47)).setCell ⟨b29, t.toNat * 5 + 3, none⟩ (.int .i64 code)).setCell ⟨b29, t.toNat * 5 + 4, none⟩ (.slice A52 rs.length c53))) (by rfl) rfl (by first | (go_simp; done) | (go_simp; rfl) | (go_simp; exact ⟨rfl, rfl⟩)) ?_
  clear x0_ x1_ x2_ x3_ x4_ y0_ y1_ y2_ y3_ y4_ hE_ hD_
  obtain ⟨w57, hw_⟩ : ∃ x_, x_ = (((((w50.setCell ⟨b29, t.toNat * 5, none⟩ (.int .i64 (wrap64 (((rd_T145 ds t).f0) + 1)))).setCell ⟨b29, t.toNat * 5 + 1, none⟩ (.int .i64 1)).setCell ⟨b29, t.toNat * 5 + 2, none⟩ (.slice A46 es.length c47)).setCell ⟨b29, t.toNat * 5 + 3, none⟩ (.int .i64 code)).setCell ⟨b29, t.toNat * 5 + 4, none⟩ (.slice A52 rs.length c53)) := ⟨_, rfl⟩
  rw [← hw_]
  replace S : Aside0 (St w w (fun _ => False) [hM w.heap.size (.slice A25 ws.length c26) (.slice (some ⟨b29, 0, none⟩) ds.length c28) ws (ds.set t.toNat ⟨wrap64 (((rd_T145 ds t).f0) + 1), 1, es, ⟨code, rs⟩⟩), hB g30 #[.slice A25 ws.length c26, .slice (some ⟨b29, 0, none⟩) ds.length c28] 88, hB g16 #[.slice A12 ws.length c13, .slice A14 ds.length c15] 88, hM w.heap.size (.slice A12 ws.length c13) (.slice A14 ds.length c15) ws ds, hB g7 #[.int .i64 0, .int .i64 0, .int .i64 0, .int .i64 0] 100, hB g5 #[.slice none 0 0, .slice none 0 0] 88, hB g3 #[.int .i64 code, .slice A3 rs.length c3] 70, hB g1 #[.slice A0 ws.length c0, .slice (some ad1) ds.length c1] 88] w57) := Aside0.mk (by rw [hw_]; exact S.out.setDesc t hb0 hb1 (wrap64 (((rd_T145 ds t).f0) + 1)) 1 code)
  clear hw_
  refine hK _ _ (S.out.drop) (fun _ => ?_)
  refine done_ (by kernel_rfl) ?_
  have kg30_0 : w57.cell? ⟨g30, 0, none⟩ = some (.slice A25 ws.length c26) := (blk_cell (S.out.blk 1 rfl) 0).trans rfl
  have kg30_1 : w57.cell? ⟨g30, 1, none⟩ = some (.slice (some ⟨b29, 0, none⟩) ds.length c28) := (blk_cell (S.out.blk 1 rfl) 1).trans rfl
  go_wp2_with (first
      | ((with_reducible refine gate_callee (f := 128) rfl ?_)
         (try clear kg30_0 kg30_1)
         obtain ⟨e59, q60, c61⟩ := St.readM0 S.out 0 rfl
         obtain ⟨e62, q63, c64⟩ := St.readM1 S.out 0 rfl
         refine goesL_ (some 56) rfl rfl Try.func128 (by kernel_rfl) rfl #[.agg #[.slice A25 ws.length c26, .slice (some ⟨b29, 0, none⟩) ds.length c28]] rfl (by (try simp only [List.map_toArray, List.map_cons, List.map_nil]); first | done | rfl) ?_
         refine calls_of_args (args' := #[.agg #[.slice A25 ws.length c26, .slice (some ⟨b29, 0, none⟩) (ds.set t.toNat ⟨wrap64 (((rd_T145 ds t).f0) + 1), 1, es, ⟨code, rs⟩⟩).length c28]]) (by rw [e62]) ?_
         (with_reducible refine (spec_MemOk.calls k A25 c26 ws (some ⟨b29, 0, none⟩) c28 (ds.set t.toNat ⟨wrap64 (((rd_T145 ds t).f0) + 1), 1, es, ⟨code, rs⟩⟩) _ _ c61 q60 c64 q63 H7.out).mono ?_)
         rintro e w58 ⟨rfl, hb⟩
         refine ⟨_, rfl, ?_⟩
         replace S := Aside0.mk (S.out.moved hb)
         clear hb e59 q60 c61 e62 q63 c64
         have kg16_0 : w58.cell? ⟨g16, 0, none⟩ = some (.slice A12 ws.length c13) := (blk_cell (S.out.blk 2 rfl) 0).trans rfl
         have kg16_1 : w58.cell? ⟨g16, 1, none⟩ = some (.slice A14 ds.length c15) := (blk_cell (S.out.blk 2 rfl) 1).trans rfl
         have kg5_0 : w58.cell? ⟨g5, 0, none⟩ = some (.slice none 0 0) := (blk_cell (S.out.blk 5 rfl) 0).trans rfl
         have kg5_1 : w58.cell? ⟨g5, 1, none⟩ = some (.slice none 0 0) := (blk_cell (S.out.blk 5 rfl) 1).trans rfl)
      | ((with_reducible refine gate_store (t := 88) (p := 8) rfl ?_)
         have zg5_0 := blk_frozen (S.out.blk 5 rfl) 0
         have zg5_1 := blk_frozen (S.out.blk 5 rfl) 1
         refine store_event (t := 88) (p := 8) (v := ?vo_w65) (w1 := ((w58.setCell ⟨g5, 0, none⟩ (.slice A12 ws.length c13)).setCell ⟨g5, 1, none⟩ (.slice A14 ds.length c15))) ?hg ?ho ?hn ?hr ?_
         (case ho => rfl)
         (case hg => rfl)
         (case hn => rfl)
         (case hr => first | (go_simp; done) | (go_simp; rfl) | (go_simp; exact ⟨rfl, rfl⟩))
         (try clear zg5_0 zg5_1)
         (try clear kg16_0 kg16_1 kg5_0 kg5_1)
         intro w65 hw
         replace S := Aside0.mk (show St w w (fun _ => False) [hB g5 #[.slice none 0 0, .slice none 0 0] 88, hM w.heap.size (.slice A25 ws.length c26) (.slice (some ⟨b29, 0, none⟩) ds.length c28) ws (ds.set t.toNat ⟨wrap64 (((rd_T145 ds t).f0) + 1), 1, es, ⟨code, rs⟩⟩), hB g30 #[.slice A25 ws.length c26, .slice (some ⟨b29, 0, none⟩) ds.length c28] 88, hB g16 #[.slice A12 ws.length c13, .slice A14 ds.length c15] 88, hM w.heap.size (.slice A12 ws.length c13) (.slice A14 ds.length c15) ws ds, hB g7 #[.int .i64 0, .int .i64 0, .int .i64 0, .int .i64 0] 100, hB g3 #[.int .i64 code, .slice A3 rs.length c3] 70, hB g1 #[.slice A0 ws.length c0, .slice (some ad1) ds.length c1] 88] _ from S.out.bring 5 rfl)
         replace S : Aside0 (St w w (fun _ => False) [hB g5 #[.slice A12 ws.length c13, .slice A14 ds.length c15] 88, hM w.heap.size (.slice A25 ws.length c26) (.slice (some ⟨b29, 0, none⟩) ds.length c28) ws (ds.set t.toNat ⟨wrap64 (((rd_T145 ds t).f0) + 1), 1, es, ⟨code, rs⟩⟩), hB g30 #[.slice A25 ws.length c26, .slice (some ⟨b29, 0, none⟩) ds.length c28] 88, hB g16 #[.slice A12 ws.length c13, .slice A14 ds.length c15] 88, hM w.heap.size (.slice A12 ws.length c13) (.slice A14 ds.length c15) ws ds, hB g7 #[.int .i64 0, .int .i64 0, .int .i64 0, .int .i64 0] 100, hB g3 #[.int .i64 code, .slice A3 rs.length c3] 70, hB g1 #[.slice A0 ws.length c0, .slice (some ad1) ds.length c1] 88] w65) := Aside0.mk (by rw [hw]; exact ((S.out.put 0 (.slice A12 ws.length c13) rfl).put 1 (.slice A14 ds.length c15) rfl))
         clear hw
         have kg7_0 : w65.cell? ⟨g7, 0, none⟩ = some (.int .i64 0) := (blk_cell (S.out.blk 5 rfl) 0).trans rfl
         have kg7_1 : w65.cell? ⟨g7, 1, none⟩ = some (.int .i64 0) := (blk_cell (S.out.blk 5 rfl) 1).trans rfl
         have kg7_2 : w65.cell? ⟨g7, 2, none⟩ = some (.int .i64 0) := (blk_cell (S.out.blk 5 rfl) 2).trans rfl
         have kg7_3 : w65.cell? ⟨g7, 3, none⟩ = some (.int .i64 0) := (blk_cell (S.out.blk 5 rfl) 3).trans rfl)
      | ((with_reducible refine gate_store (t := 100) (p := 9) rfl ?_)
         have zg7_0 := blk_frozen (S.out.blk 5 rfl) 0
         have zg7_1 := blk_frozen (S.out.blk 5 rfl) 1
         have zg7_2 := blk_frozen (S.out.blk 5 rfl) 2
         have zg7_3 := blk_frozen (S.out.blk 5 rfl) 3
         refine store_event (t := 100) (p := 9) (v := ?vo_w66) (w1 := ((((w65.setCell ⟨g7, 0, none⟩ (.int .i64 0)).setCell ⟨g7, 1, none⟩ (.int .i64 0)).setCell ⟨g7, 2, none⟩ (.int .i64 0)).setCell ⟨g7, 3, none⟩ (.int .i64 0))) ?hg ?ho ?hn ?hr ?_
         (case ho => rfl)
         (case hg => rfl)
         (case hn => rfl)
         (case hr => first | (go_simp; done) | (go_simp; rfl) | (go_simp; exact ⟨rfl, rfl⟩))
         (try clear zg7_0 zg7_1 zg7_2 zg7_3)
         (try clear kg7_0 kg7_1 kg7_2 kg7_3)
         intro w66 hw
         replace S := Aside0.mk (show St w w (fun _ => False) [hB g7 #[.int .i64 0, .int .i64 0, .int .i64 0, .int .i64 0] 100, hB g5 #[.slice A12 ws.length c13, .slice A14 ds.length c15] 88, hM w.heap.size (.slice A25 ws.length c26) (.slice (some ⟨b29, 0, none⟩) ds.length c28) ws (ds.set t.toNat ⟨wrap64 (((rd_T145 ds t).f0) + 1), 1, es, ⟨code, rs⟩⟩), hB g30 #[.slice A25 ws.length c26, .slice (some ⟨b29, 0, none⟩) ds.length c28] 88, hB g16 #[.slice A12 ws.length c13, .slice A14 ds.length c15] 88, hM w.heap.size (.slice A12 ws.length c13) (.slice A14 ds.length c15) ws ds, hB g3 #[.int .i64 code, .slice A3 rs.length c3] 70, hB g1 #[.slice A0 ws.length c0, .slice (some ad1) ds.length c1] 88] _ from S.out.bring 5 rfl)
         replace S : Aside0 (St w w (fun _ => False) [hB g7 #[.int .i64 0, .int .i64 0, .int .i64 0, .int .i64 0] 100, hB g5 #[.slice A12 ws.length c13, .slice A14 ds.length c15] 88, hM w.heap.size (.slice A25 ws.length c26) (.slice (some ⟨b29, 0, none⟩) ds.length c28) ws (ds.set t.toNat ⟨wrap64 (((rd_T145 ds t).f0) + 1), 1, es, ⟨code, rs⟩⟩), hB g30 #[.slice A25 ws.length c26, .slice (some ⟨b29, 0, none⟩) ds.length c28] 88, hB g16 #[.slice A12 ws.length c13, .slice A14 ds.length c15] 88, hM w.heap.size (.slice A12 ws.length c13) (.slice A14 ds.length c15) ws ds, hB g3 #[.int .i64 code, .slice A3 rs.length c3] 70, hB g1 #[.slice A0 ws.length c0, .slice (some ad1) ds.length c1] 88] w66) := Aside0.mk (by rw [hw]; exact ((((S.out.put 0 (.int .i64 0) rfl).put 1 (.int .i64 0) rfl).put 2 (.int .i64 0) rfl).put 3 (.int .i64 0) rfl))
         clear hw))
  refine bodyPost_ret (results_list (rs := [.cell 8 88, .cell 9 100, .tmp 10]) rfl (by simp) (.cell g5 88 #[.slice A12 ws.length c13, .slice A14 ds.length c15] (0, 0) _ rfl (S.out.blk 1 rfl) Try.underlying88 rfl (by kernel_rfl) (.cell g7 100 #[.int .i64 0, .int .i64 0, .int .i64 0, .int .i64 0] (0, 0) _ rfl (S.out.blk 0 rfl) Try.underlying100 rfl (by kernel_rfl) (.tmp .nil)))) rfl ?_
  obtain ⟨D_, hD_⟩ := S.out.nth 5 rfl
  exact ⟨_, _, by first | rfl | (simp; done), Kd.R_mono (M_R hD_) (fun _ _ => trivial), Kd.S_mono (M_S hD_) (fun _ _ => trivial), S.out.done⟩
set_option maxHeartbeats 8000000 in
set_option maxRecDepth 100000 in
theorem spec_Begin.way5 (k : Nat) (A0 : Option Addr) (c0 : Nat) (ws : List S141) (A1 : Option Addr) (c1 : Nat) (ds : List S145) (t : Int) (A2 : Option Addr) (c2 : Nat) (es : List S166) (code : Int) (A3 : Option Addr) (c3 : Nat) (rs : List Int) (w : World) (hr0 : Kd.C k141 w A0 ws.length ws) (hc0 : ws.length ≤ c0) (hr1 : Kd.C k145 w A1 ds.length ds) (hc1 : ds.length ≤ c1) (hr2 : Kd.C k166 w A2 es.length es) (hc2 : es.length ≤ c2) (hr3 : Kd.C (Kd.int .i64) w A3 rs.length rs) (hc3 : rs.length ≤ c3)
    (hH1 : spec_l7Copy.f k ws ds = some (ws, ds)) (hH2 : spec_MemOk.f k ws ds = some true) (hH3 : spec_l1In.f t 0 (wrap64 ((ds.length : Int) - 1)) = some true) (hH4 : spec_l7Marks.f k ws ds t = some false) (hH6 : spec_l6Res.f code rs = some (code, rs)) (hH7 : spec_MemOk.f k ws (ds.set t.toNat ⟨(wrap64 ((rd_T145 ds t).f0 + 1)), 1, es, ⟨code, rs⟩⟩) = some true) (hb0 : 0 ≤ t) (hb1 : t < (ds.length : Int)) (hes : es.length ≤ 1048576) :
    Calls Try.prog 63 #[.agg #[.slice A0 ws.length c0, .slice A1 ds.length c1], .int .i64 t, .slice A2 es.length c2, .agg #[.int .i64 code, .slice A3 rs.length c3]] w fun e w' => ∃ v0_ v1_ : Value, e = .returned (.tuple #[.agg #[v0_, v1_], .agg #[.int .i64 t, .int .i64 (wrap64 ((rd_T145 ds t).f0 + 1)), .int .i64 0, .int .i64 0], .bool true]) ∧ Kd.R k141 141 w' w.heap.size (fun _ => True) v0_ ws ∧ Kd.S k145 145 w' w.heap.size (fun _ => True) v1_ (ds.set t.toNat ⟨(wrap64 ((rd_T145 ds t).f0 + 1)), 1, es, ⟨code, rs⟩⟩) ∧ Below w.heap.size w w' := by
  have hu88 := Try.underlying88
  have hu70 := Try.underlying70
  have hu100 := Try.underlying100
  have hu145 := Try.underlying145
  obtain ⟨ad1, E2_, d2_, E4_, d4_, rfl, X0, _⟩ := at_T145 hr1 t hb0 hb1
  have X0_ := Aside0.mk X0
  clear X0
  have p1 := eq_true hb0
  have q1 := eq_true hb1
  have HR0 := Aside0.mk hr0
  have HC0 := Aside0.mk hc0
  have HR1 := Aside0.mk hr1
  have HC1 := Aside0.mk hc1
  have HR2 := Aside0.mk hr2
  have HC2 := Aside0.mk hc2
  have HR3 := Aside0.mk hr3
  have HC3 := Aside0.mk hc3
  clear hr0 hc0 hr1 hc1 hr2 hc2 hr3 hc3
  have H1 := Aside0.mk hH1
  have H2 := Aside0.mk hH2
  have H3 := Aside0.mk hH3
  have H4 := Aside0.mk hH4
  have H6 := Aside0.mk hH6
  have H7 := Aside0.mk hH7
  clear hH1 hH2 hH3 hH4 hH6 hH7
  have S := Aside0.mk (St.start w)
  go_enter Try.func63, Try.ntmps63
  go_wp2_with (first
      | ((with_reducible refine gate_dst (N := 4) rfl ?_)
         refine box_event ?hg (N := 4) ?hd (cs := #[.slice A0 ws.length c0, .slice (some ad1) ds.length c1]) (t := 88) ?hr ?_
         (case hd => rfl)
         (case hg => rfl)
         (case hr => first | (go_simp; done) | (go_simp; rfl) | (go_simp; exact ⟨rfl, rfl⟩))
         intro g1 hg w2 hbox hb
         replace S := Aside0.mk (S.out.box hg hbox hb)
         clear hg hbox hb)
      | ((with_reducible refine gate_dst (N := 7) rfl ?_)
         refine box_event ?hg (N := 7) ?hd (cs := #[.int .i64 code, .slice A3 rs.length c3]) (t := 70) ?hr ?_
         (case hd => rfl)
         (case hg => rfl)
         (case hr => first | (go_simp; done) | (go_simp; rfl) | (go_simp; exact ⟨rfl, rfl⟩))
         intro g3 hg w4 hbox hb
         replace S := Aside0.mk (S.out.box hg hbox hb)
         clear hg hbox hb)
      | ((with_reducible refine gate_dst (N := 8) rfl ?_)
         refine box_event ?hg (N := 8) ?hd (cs := #[.slice none 0 0, .slice none 0 0]) (t := 88) ?hr ?_
         (case hd => rfl)
         (case hg => rfl)
         (case hr => first | (go_simp; done) | (go_simp; rfl) | (go_simp; exact ⟨rfl, rfl⟩))
         intro g5 hg w6 hbox hb
         replace S := Aside0.mk (S.out.box hg hbox hb)
         clear hg hbox hb)
      | ((with_reducible refine gate_dst (N := 9) rfl ?_)
         refine box_event ?hg (N := 9) ?hd (cs := #[.int .i64 0, .int .i64 0, .int .i64 0, .int .i64 0]) (t := 100) ?hr ?_
         (case hd => rfl)
         (case hg => rfl)
         (case hr => first | (go_simp; done) | (go_simp; rfl) | (go_simp; exact ⟨rfl, rfl⟩))
         intro g7 hg w8 hbox hb
         replace S := Aside0.mk (S.out.box hg hbox hb)
         clear hg hbox hb
         have kg1_0 : w8.cell? ⟨g1, 0, none⟩ = some (.slice A0 ws.length c0) := (blk_cell (S.out.blk 3 rfl) 0).trans rfl
         have kg1_1 : w8.cell? ⟨g1, 1, none⟩ = some (.slice (some ad1) ds.length c1) := (blk_cell (S.out.blk 3 rfl) 1).trans rfl)
      | ((with_reducible refine gate_callee (f := 133) rfl ?_)
         (try clear kg1_0 kg1_1)
         refine goesL_ (some 15) rfl rfl Try.func133 (by kernel_rfl) rfl #[.agg #[.slice A0 ws.length c0, .slice (some ad1) ds.length c1]] rfl (by (try simp only [List.map_toArray, List.map_cons, List.map_nil]); first | done | rfl) ?_
         (with_reducible refine (spec_l7Copy.calls k A0 c0 ws (some ad1) c1 ds _ _ _ (Kd.C_below HR0.out S.out.below) HC0.out (Kd.C_below HR1.out S.out.below) HC1.out H1.out).mono ?_)
         rintro e w9 ⟨v10, v11, rfl, h0, h1, hb⟩
         obtain ⟨A12, c13, rfl⟩ := Kd.R_slice h0
         obtain ⟨A14, c15, rfl⟩ := Kd.S_slice h1
         refine ⟨_, rfl, ?_⟩
         replace S := Aside0.mk (S.out.madeM h0 h1 hb)
         clear hb h0 h1)
      | ((with_reducible refine gate_dst (N := 11) rfl ?_)
         refine box_event ?hg (N := 11) ?hd (cs := #[.slice none 0 0, .slice none 0 0]) (t := 88) ?hr ?_
         (case hd => rfl)
         (case hg => rfl)
         (case hr => first | (go_simp; done) | (go_simp; rfl) | (go_simp; exact ⟨rfl, rfl⟩))
         intro g16 hg w17 hbox hb
         replace S := Aside0.mk (S.out.box hg hbox hb)
         clear hg hbox hb
         have kg16_0 : w17.cell? ⟨g16, 0, none⟩ = some (.slice none 0 0) := (blk_cell (S.out.blk 0 rfl) 0).trans rfl
         have kg16_1 : w17.cell? ⟨g16, 1, none⟩ = some (.slice none 0 0) := (blk_cell (S.out.blk 0 rfl) 1).trans rfl)
      | ((with_reducible refine gate_store (t := 88) (p := 11) rfl ?_)
         have zg16_0 := blk_frozen (S.out.blk 0 rfl) 0
         have zg16_1 := blk_frozen (S.out.blk 0 rfl) 1
         refine store_event (t := 88) (p := 11) (v := ?vo_w18) (w1 := ((w17.setCell ⟨g16, 0, none⟩ (.slice A12 ws.length c13)).setCell ⟨g16, 1, none⟩ (.slice A14 ds.length c15))) ?hg ?ho ?hn ?hr ?_
         (case ho => rfl)
         (case hg => rfl)
         (case hn => rfl)
         (case hr => first | (go_simp; done) | (go_simp; rfl) | (go_simp; exact ⟨rfl, rfl⟩))
         (try clear zg16_0 zg16_1)
         (try clear kg16_0 kg16_1)
         intro w18 hw
         replace S : Aside0 (St w w (fun _ => False) [hB g16 #[.slice A12 ws.length c13, .slice A14 ds.length c15] 88, hM w.heap.size (.slice A12 ws.length c13) (.slice A14 ds.length c15) ws ds, hB g7 #[.int .i64 0, .int .i64 0, .int .i64 0, .int .i64 0] 100, hB g5 #[.slice none 0 0, .slice none 0 0] 88, hB g3 #[.int .i64 code, .slice A3 rs.length c3] 70, hB g1 #[.slice A0 ws.length c0, .slice (some ad1) ds.length c1] 88] w18) := Aside0.mk (by rw [hw]; exact ((S.out.put 0 (.slice A12 ws.length c13) rfl).put 1 (.slice A14 ds.length c15) rfl))
         clear hw
         have kg1_0 : w18.cell? ⟨g1, 0, none⟩ = some (.slice A0 ws.length c0) := (blk_cell (S.out.blk 5 rfl) 0).trans rfl
         have kg1_1 : w18.cell? ⟨g1, 1, none⟩ = some (.slice (some ad1) ds.length c1) := (blk_cell (S.out.blk 5 rfl) 1).trans rfl)
      | ((with_reducible refine gate_callee (f := 128) rfl ?_)
         (try clear kg1_0 kg1_1)
         refine goesL_ (some 17) rfl rfl Try.func128 (by kernel_rfl) rfl #[.agg #[.slice A0 ws.length c0, .slice (some ad1) ds.length c1]] rfl (by (try simp only [List.map_toArray, List.map_cons, List.map_nil]); first | done | rfl) ?_
         (with_reducible refine (spec_MemOk.calls k A0 c0 ws (some ad1) c1 ds _ _ (Kd.C_below HR0.out S.out.below) HC0.out (Kd.C_below HR1.out S.out.below) HC1.out H2.out).mono ?_)
         rintro e w19 ⟨rfl, hb⟩
         refine ⟨_, rfl, ?_⟩
         replace S := Aside0.mk (S.out.moved hb)
         clear hb
         have kg1_0 : w19.cell? ⟨g1, 0, none⟩ = some (.slice A0 ws.length c0) := (blk_cell (S.out.blk 5 rfl) 0).trans rfl
         have kg1_1 : w19.cell? ⟨g1, 1, none⟩ = some (.slice (some ad1) ds.length c1) := (blk_cell (S.out.blk 5 rfl) 1).trans rfl)
      | (go_at_call 79
         (try clear kg1_0 kg1_1)
         (with_reducible refine (spec_l1In.calls t 0 (wrap64 ((ds.length : Int) - 1)) _ _ H3.out).mono ?_)
         rintro e w20 ⟨rfl, hb⟩
         replace hb : Below w19.heap.size w19 w20 := by obtain ⟨nd, rfl⟩ := hb; exact pw_below_drewN (Below.refl _ _) nd
         replace S := Aside0.mk (S.out.moved hb)
         clear hb
         have kg1_0 : w20.cell? ⟨g1, 0, none⟩ = some (.slice A0 ws.length c0) := (blk_cell (S.out.blk 5 rfl) 0).trans rfl
         have kg1_1 : w20.cell? ⟨g1, 1, none⟩ = some (.slice (some ad1) ds.length c1) := (blk_cell (S.out.blk 5 rfl) 1).trans rfl)
      | (go_at_call 134
         (try clear kg1_0 kg1_1)
         (with_reducible refine (spec_l7Marks.calls k A0 c0 ws (some ad1) c1 ds t _ _ (Kd.C_below HR0.out S.out.below) HC0.out (Kd.C_below HR1.out S.out.below) HC1.out H4.out).mono ?_)
         rintro e w21 ⟨rfl, hb⟩
         replace S := Aside0.mk (S.out.moved hb)
         clear hb
         have kg1_0 : w21.cell? ⟨g1, 0, none⟩ = some (.slice A0 ws.length c0) := (blk_cell (S.out.blk 5 rfl) 0).trans rfl
         have kg1_1 : w21.cell? ⟨g1, 1, none⟩ = some (.slice (some ad1) ds.length c1) := (blk_cell (S.out.blk 5 rfl) 1).trans rfl)
      | ((with_reducible refine gate_callee (f := 133) rfl ?_)
         (try clear kg1_0 kg1_1)
         refine goesL_ (some 36) rfl rfl Try.func133 (by kernel_rfl) rfl #[.agg #[.slice A0 ws.length c0, .slice (some ad1) ds.length c1]] rfl (by (try simp only [List.map_toArray, List.map_cons, List.map_nil]); first | done | rfl) ?_
         (with_reducible refine (spec_l7Copy.calls k A0 c0 ws (some ad1) c1 ds _ _ _ (Kd.C_below HR0.out S.out.below) HC0.out (Kd.C_below HR1.out S.out.below) HC1.out H1.out).mono ?_)
         rintro e w22 ⟨v23, v24, rfl, h0, h1, hb⟩
         obtain ⟨A25, c26, rfl⟩ := Kd.R_slice h0
         obtain ⟨b29, c28, rfl, _, _, _⟩ := Kd.S_form h1 (by omega)
         refine ⟨_, rfl, ?_⟩
         replace S := Aside0.mk (S.out.madeM h0 h1 hb)
         clear hb h0 h1)
      | ((with_reducible refine gate_dst (N := 12) rfl ?_)
         refine box_event ?hg (N := 12) ?hd (cs := #[.slice none 0 0, .slice none 0 0]) (t := 88) ?hr ?_
         (case hd => rfl)
         (case hg => rfl)
         (case hr => first | (go_simp; done) | (go_simp; rfl) | (go_simp; exact ⟨rfl, rfl⟩))
         intro g30 hg w31 hbox hb
         replace S := Aside0.mk (S.out.box hg hbox hb)
         clear hg hbox hb
         have kg30_0 : w31.cell? ⟨g30, 0, none⟩ = some (.slice none 0 0) := (blk_cell (S.out.blk 0 rfl) 0).trans rfl
         have kg30_1 : w31.cell? ⟨g30, 1, none⟩ = some (.slice none 0 0) := (blk_cell (S.out.blk 0 rfl) 1).trans rfl)
      | ((with_reducible refine gate_store (t := 88) (p := 12) rfl ?_)
         have zg30_0 := blk_frozen (S.out.blk 0 rfl) 0
         have zg30_1 := blk_frozen (S.out.blk 0 rfl) 1
         refine store_event (t := 88) (p := 12) (v := ?vo_w32) (w1 := ((w31.setCell ⟨g30, 0, none⟩ (.slice A25 ws.length c26)).setCell ⟨g30, 1, none⟩ (.slice (some ⟨b29, 0, none⟩) ds.length c28))) ?hg ?ho ?hn ?hr ?_
         (case ho => rfl)
         (case hg => rfl)
         (case hn => rfl)
         (case hr => first | (go_simp; done) | (go_simp; rfl) | (go_simp; exact ⟨rfl, rfl⟩))
         (try clear zg30_0 zg30_1)
         (try clear kg30_0 kg30_1)
         intro w32 hw
         replace S : Aside0 (St w w (fun _ => False) [hB g30 #[.slice A25 ws.length c26, .slice (some ⟨b29, 0, none⟩) ds.length c28] 88, hM w.heap.size (.slice A25 ws.length c26) (.slice (some ⟨b29, 0, none⟩) ds.length c28) ws ds, hB g16 #[.slice A12 ws.length c13, .slice A14 ds.length c15] 88, hM w.heap.size (.slice A12 ws.length c13) (.slice A14 ds.length c15) ws ds, hB g7 #[.int .i64 0, .int .i64 0, .int .i64 0, .int .i64 0] 100, hB g5 #[.slice none 0 0, .slice none 0 0] 88, hB g3 #[.int .i64 code, .slice A3 rs.length c3] 70, hB g1 #[.slice A0 ws.length c0, .slice (some ad1) ds.length c1] 88] w32) := Aside0.mk (by rw [hw]; exact ((S.out.put 0 (.slice A25 ws.length c26) rfl).put 1 (.slice (some ⟨b29, 0, none⟩) ds.length c28) rfl))
         clear hw
         have kg30_0 : w32.cell? ⟨g30, 0, none⟩ = some (.slice A25 ws.length c26) := (blk_cell (S.out.blk 0 rfl) 0).trans rfl
         have kg30_1 : w32.cell? ⟨g30, 1, none⟩ = some (.slice (some ⟨b29, 0, none⟩) ds.length c28) := (blk_cell (S.out.blk 0 rfl) 1).trans rfl
         have kg3_0 : w32.cell? ⟨g3, 0, none⟩ = some (.int .i64 code) := (blk_cell (S.out.blk 6 rfl) 0).trans rfl
         have kg3_1 : w32.cell? ⟨g3, 1, none⟩ = some (.slice A3 rs.length c3) := (blk_cell (S.out.blk 6 rfl) 1).trans rfl
         have kg1_0 : w32.cell? ⟨g1, 0, none⟩ = some (.slice A0 ws.length c0) := (blk_cell (S.out.blk 7 rfl) 0).trans rfl
         have kg1_1 : w32.cell? ⟨g1, 1, none⟩ = some (.slice (some ad1) ds.length c1) := (blk_cell (S.out.blk 7 rfl) 1).trans rfl
         have x0h : w32.cell? (ad1.add (t.toNat * 5)) = some (.int .i64 (rd_T145 ds t).f0) := St.cell S.out X0_.out))
  refine start_ (n := 12) (S := fun w' => St w w (fun _ => False) [hB g30 #[.slice A25 ws.length c26, .slice (some ⟨b29, 0, none⟩) ds.length c28] 88, hB g16 #[.slice A12 ws.length c13, .slice A14 ds.length c15] 88, hM w.heap.size (.slice A12 ws.length c13) (.slice A14 ds.length c15) ws ds, hB g7 #[.int .i64 0, .int .i64 0, .int .i64 0, .int .i64 0] 100, hB g5 #[.slice none 0 0, .slice none 0 0] 88, hB g3 #[.int .i64 code, .slice A3 rs.length c3] 70, hB g1 #[.slice A0 ws.length c0, .slice (some ad1) ds.length c1] 88] w') (ds := []) #[false, false, false, false, false, false, false, false, false, false, false, false] (by kernel_rfl) rfl rfl (St.drew ((S.out.bring 1 rfl).drop)) (fun hS_ => ?_)
  (try clear kg30_0 kg30_1 kg3_0 kg3_1 kg1_0 kg1_1 x0h)
  replace S := Aside0.mk S.out.drew
  clear hS_
  generalize w32.drew = w33 at S ⊢
  refine take_ (i := 0) (N := some 44) (v := .pointer (some ⟨g30, 1, none⟩)) (a' := ?at34) #[true, false, false, false, false, false, false, false, false, false, false, false] rfl rfl (by kernel_rfl) (fun _ _ _ h => h) (Or.inl ⟨by rfl, ?yt34⟩) ((S.out.bring 1 rfl).drop) ?pt34 ?nt34
  case yt34 =>
    intro w' hS
    first | (go_simp; done) | (go_simp; rfl) | (go_simp; exact ⟨rfl, rfl⟩)
  case pt34 =>
    simp only [Act.put, List.setIfInBounds_toArray, List.set_cons_zero, List.set_cons_succ, i64_w, i32_w]
    rfl
  refine take_ (i := 1) (N := some 45) (v := .slice (some ⟨b29, 0, none⟩) ds.length c28) (a' := ?at35) #[true, true, false, false, false, false, false, false, false, false, false, false] rfl rfl (by kernel_rfl) (fun _ _ _ h => h) (Or.inl ⟨by rfl, ?yt35⟩) ((S.out.bring 1 rfl).drop) ?pt35 ?nt35
  case yt35 =>
    intro w' hS
    have kg30_0 : w'.cell? ⟨g30, 0, none⟩ = some (.slice A25 ws.length c26) := (blk_cell (hS.blk 0 rfl) 0).trans rfl
    have kg30_1 : w'.cell? ⟨g30, 1, none⟩ = some (.slice (some ⟨b29, 0, none⟩) ds.length c28) := (blk_cell (hS.blk 0 rfl) 1).trans rfl
    have x0h : w'.cell? (ad1.add (t.toNat * 5)) = some (.int .i64 (rd_T145 ds t).f0) := St.cell hS X0_.out
    first | (go_simp; done) | (go_simp; rfl) | (go_simp; exact ⟨rfl, rfl⟩)
  case pt35 =>
    simp only [Act.put, List.setIfInBounds_toArray, List.set_cons_zero, List.set_cons_succ, i64_w, i32_w]
    rfl
  refine take_ (i := 2) (N := some 46) (v := .int .i64 t) (a' := ?at36) #[true, true, true, false, false, false, false, false, false, false, false, false] rfl rfl (by kernel_rfl) (fun _ _ _ h => h) (Or.inl ⟨by rfl, ?yt36⟩) ((S.out.bring 1 rfl).drop) ?pt36 ?nt36
  case yt36 =>
    intro w' hS
    first | (go_simp; done) | (go_simp; rfl) | (go_simp; exact ⟨rfl, rfl⟩)
  case pt36 =>
    simp only [Act.put, List.setIfInBounds_toArray, List.set_cons_zero, List.set_cons_succ, i64_w, i32_w]
    rfl
  refine take_ (i := 3) (N := some 47) (v := .int .i64 (wrap64 (((rd_T145 ds t).f0) + 1))) (a' := ?at37) #[true, true, true, true, false, false, false, false, false, false, false, false] rfl rfl (by kernel_rfl) (fun _ _ _ h => h) (Or.inl ⟨by rfl, ?yt37⟩) ((S.out.bring 1 rfl).drop) ?pt37 ?nt37
  case yt37 =>
    intro w' hS
    first | (go_simp; done) | (go_simp; rfl) | (go_simp; exact ⟨rfl, rfl⟩)
  case pt37 =>
    simp only [Act.put, List.setIfInBounds_toArray, List.set_cons_zero, List.set_cons_succ, i64_w, i32_w]
    rfl
  refine take_ (i := 5) (N := some 49) (v := .slice A2 es.length c2) (a' := ?at38) #[true, true, true, true, false, true, false, false, false, false, false, false] rfl rfl (by kernel_rfl) (fun _ _ _ h => h) (Or.inl ⟨by rfl, ?yt38⟩) ((S.out.bring 1 rfl).drop) ?pt38 ?nt38
  case yt38 =>
    intro w' hS
    first | (go_simp; done) | (go_simp; rfl) | (go_simp; exact ⟨rfl, rfl⟩)
  case pt38 =>
    simp only [Act.put, List.setIfInBounds_toArray, List.set_cons_zero, List.set_cons_succ, i64_w, i32_w]
    rfl
  refine take_ (i := 7) (N := some 51) (v := .agg #[.int .i64 code, .slice A3 rs.length c3]) (a' := ?at39) #[true, true, true, true, false, true, false, true, false, false, false, false] rfl rfl (by kernel_rfl) (fun _ _ _ h => h) (Or.inl ⟨by rfl, ?yt39⟩) ((S.out.bring 1 rfl).drop) ?pt39 ?nt39
  case yt39 =>
    intro w' hS
    have kg3_0 : w'.cell? ⟨g3, 0, none⟩ = some (.int .i64 code) := (blk_cell (hS.blk 5 rfl) 0).trans rfl
    have kg3_1 : w'.cell? ⟨g3, 1, none⟩ = some (.slice A3 rs.length c3) := (blk_cell (hS.blk 5 rfl) 1).trans rfl
    have x0h : w'.cell? (ad1.add (t.toNat * 5)) = some (.int .i64 (rd_T145 ds t).f0) := St.cell hS X0_.out
    first | (go_simp; done) | (go_simp; rfl) | (go_simp; exact ⟨rfl, rfl⟩)
  case pt39 =>
    simp only [Act.put, List.setIfInBounds_toArray, List.set_cons_zero, List.set_cons_succ, i64_w, i32_w]
    rfl
  refine one_ (i := 4) (N := some 48) #[true, true, true, true, true, true, false, true, false, false, false, false] rfl rfl (by kernel_rfl) (by decide) (fun K hK => ?_)
  refine S.out.lit_step k166 166 (by rfl) (N := 48) rfl (xs := ([] : List S166)) (inner := []) (by first | (go_simp; done) | (go_simp; rfl) | (go_simp; exact ⟨rfl, rfl⟩)) (Reps.none _ _) (by simp) ?_
  intro v43 w40 hS_
  obtain ⟨D_, hD_⟩ := hS_.nth 0 rfl
  obtain ⟨A41, c42, rfl⟩ := Kd.R_slice (hR_out hD_)
  clear hD_ D_
  replace S := Aside0.mk hS_
  clear hS_
  refine hK _ _ ((S.out.drop.bring 1 rfl).drop) (fun _ => ?_)
  refine norm_ (a' := ?at44) ?pt44 ?nt44
  case pt44 =>
    show Act.put _ (some 48) _ = _
    simp only [Act.put, List.setIfInBounds_toArray, List.set_cons_zero, List.set_cons_succ, i64_w, i32_w]
    rfl
  refine one_ (i := 6) (N := some 50) #[true, true, true, true, true, true, true, true, false, false, false, false] rfl rfl (by kernel_rfl) (by decide) (fun K hK => ?_)
  refine S.out.append_step (by rfl) (.tmp 48) (.tmp 49) 104 (.agg #[(.int .i64 0), (.int .i64 0), (.int .i64 0)]) 24 rfl Try.underlying104 info166 rfl (by decide) (by omega) es _ _ _ rfl rfl (Kd.C_below HR2.out S.out.below) (fun _ _ h => h) (by have := hes; simp; omega) ?_
  intro v48 w45 hS_
  obtain ⟨D_, hD_⟩ := hS_.nth 0 rfl
  obtain ⟨A46, c47, rfl⟩ := Kd.R_slice (hR_out hD_)
  clear hD_ D_
  replace S : Aside0 (St w w (fun _ => False) [hR k166 166 w.heap.size (.slice A46 es.length c47) es, hB g30 #[.slice A25 ws.length c26, .slice (some ⟨b29, 0, none⟩) ds.length c28] 88, hM w.heap.size (.slice A25 ws.length c26) (.slice (some ⟨b29, 0, none⟩) ds.length c28) ws ds, hB g16 #[.slice A12 ws.length c13, .slice A14 ds.length c15] 88, hM w.heap.size (.slice A12 ws.length c13) (.slice A14 ds.length c15) ws ds, hB g7 #[.int .i64 0, .int .i64 0, .int .i64 0, .int .i64 0] 100, hB g5 #[.slice none 0 0, .slice none 0 0] 88, hB g3 #[.int .i64 code, .slice A3 rs.length c3] 70, hB g1 #[.slice A0 ws.length c0, .slice (some ad1) ds.length c1] 88] _) := Aside0.mk hS_
  clear hS_
  refine hK _ _ ((S.out.drop.bring 1 rfl).drop) (fun _ => ?_)
  refine norm_ (a' := ?at49) ?pt49 ?nt49
  case pt49 =>
    show Act.put _ (some 50) _ = _
    simp only [Act.put, List.setIfInBounds_toArray, List.set_cons_zero, List.set_cons_succ, i64_w, i32_w]
    rfl
  refine one_ (i := 8) (N := some 52) #[true, true, true, true, true, true, true, true, true, false, false, false] rfl rfl (by kernel_rfl) (by decide) (fun K hK => ?_)
  refine goes_ Try.func135 (by kernel_rfl) rfl #[.agg #[.int .i64 code, .slice A3 rs.length c3]] (by rfl) rfl rfl (by (try simp only [List.map_toArray, List.map_cons, List.map_nil]); first | done | rfl) ?_
  (with_reducible refine (spec_l6Res.calls code A3 c3 rs _ _ _ (Kd.C_below HR3.out S.out.below) HC3.out H6.out).mono ?_)
  rintro e w50 ⟨v51, rfl, h0, hb⟩
  obtain ⟨A52, c53, rfl⟩ := Kd.R_slice h0
  refine ⟨_, rfl, ?_⟩
  replace S := Aside0.mk (S.out.madeR h0 hb)
  clear hb h0
  refine hK _ _ ((S.out.drop.drop.bring 1 rfl).drop) (fun _ => ?_)
  refine norm_ (a' := ?at54) ?pt54 ?nt54
  case pt54 =>
    show Act.put _ (some 52) _ = _
    simp only [Act.put, List.setIfInBounds_toArray, List.set_cons_zero, List.set_cons_succ, i64_w, i32_w]
    rfl
  refine take_ (i := 9) (N := some 53) (v := .agg #[.int .i64 (wrap64 (((rd_T145 ds t).f0) + 1)), .int .i64 1, .slice A46 es.length c47, .int .i64 code, .slice A52 rs.length c53]) (a' := ?at55) #[true, true, true, true, true, true, true, true, true, true, false, false] rfl rfl (by kernel_rfl) (fun _ _ _ h => h) (Or.inl ⟨by rfl, ?yt55⟩) ((S.out.drop.drop.bring 1 rfl).drop) ?pt55 ?nt55
  case yt55 =>
    intro w' hS
    first | (go_simp; done) | (go_simp; rfl) | (go_simp; exact ⟨rfl, rfl⟩)
  case pt55 =>
    simp only [Act.put, List.setIfInBounds_toArray, List.set_cons_zero, List.set_cons_succ, i64_w, i32_w]
    rfl
  refine take_ (i := 10) (N := some 54) (v := .pointer (some ⟨b29, t.toNat * 5, none⟩)) (a' := ?at56) #[true, true, true, true, true, true, true, true, true, true, true, false] rfl rfl (by kernel_rfl) (fun _ _ _ h => h) (Or.inl ⟨by rfl, ?yt56⟩) ((S.out.drop.drop.bring 1 rfl).drop) ?pt56 ?nt56
  case yt56 =>
    intro w' hS
    first | (go_simp; done) | (go_simp; rfl) | (go_simp; exact ⟨rfl, rfl⟩)
  case pt56 =>
    simp only [Act.put, List.setIfInBounds_toArray, List.set_cons_zero, List.set_cons_succ, i64_w, i32_w]
    rfl
  refine one_ (i := 11) (N := none) #[true, true, true, true, true, true, true, true, true, true, true, true] rfl rfl (by kernel_rfl) (by decide) (fun K hK => ?_)
  replace S := Aside0.mk (show St w w (fun _ => False) [hR k166 166 w.heap.size (.slice A46 es.length c47) es, hR (Kd.int .i64) 3 w.heap.size (.slice A52 rs.length c53) rs, hB g30 #[.slice A25 ws.length c26, .slice (some ⟨b29, 0, none⟩) ds.length c28] 88, hM w.heap.size (.slice A25 ws.length c26) (.slice (some ⟨b29, 0, none⟩) ds.length c28) ws ds, hB g16 #[.slice A12 ws.length c13, .slice A14 ds.length c15] 88, hM w.heap.size (.slice A12 ws.length c13) (.slice A14 ds.length c15) ws ds, hB g7 #[.int .i64 0, .int .i64 0, .int .i64 0, .int .i64 0] 100, hB g5 #[.slice none 0 0, .slice none 0 0] 88, hB g3 #[.int .i64 code, .slice A3 rs.length c3] 70, hB g1 #[.slice A0 ws.length c0, .slice (some ad1) ds.length c1] 88] _ from S.out.bring 1 rfl)
  replace S := Aside0.mk (show St w w (fun _ => False) [hM w.heap.size (.slice A25 ws.length c26) (.slice (some ⟨b29, 0, none⟩) ds.length c28) ws ds, hR k166 166 w.heap.size (.slice A46 es.length c47) es, hR (Kd.int .i64) 3 w.heap.size (.slice A52 rs.length c53) rs, hB g30 #[.slice A25 ws.length c26, .slice (some ⟨b29, 0, none⟩) ds.length c28] 88, hB g16 #[.slice A12 ws.length c13, .slice A14 ds.length c15] 88, hM w.heap.size (.slice A12 ws.length c13) (.slice A14 ds.length c15) ws ds, hB g7 #[.int .i64 0, .int .i64 0, .int .i64 0, .int .i64 0] 100, hB g5 #[.slice none 0 0, .slice none 0 0] 88, hB g3 #[.int .i64 code, .slice A3 rs.length c3] 70, hB g1 #[.slice A0 ws.length c0, .slice (some ad1) ds.length c1] 88] _ from S.out.bring 3 rfl)
  obtain ⟨D_, hD_⟩ := S.out.nth 0 rfl
  obtain ⟨E2_, d2_, E4_, d4_, oki_, hE_⟩ := El_open (M_S hD_) hb0 hb1
  obtain ⟨⟨x0_, x1_, x2_, x3_, x4_⟩, y0_, y1_, y2_, y3_, y4_⟩ := El_cells hE_ hb0 hb1
  refine skip_ (w1 := (((((w50.setCell ⟨b29, t.toNat * 5, none⟩ (.int .i64 (wrap64 (((rd_T145 ds t).f0) + 1)))).setCell ⟨b29, t.toNat * 5 + 1, none⟩ (.int .i64 1)).setCell ⟨b29, t.toNat * 5 + 2, none⟩ (.slice A46 es.length c47)).setCell ⟨b29, t.toNat * 5 + 3, none⟩ (.int .i64 code)).setCell ⟨b29, t.toNat * 5 + 4, none⟩ (.slice A52 rs.length c53))) (by rfl) rfl (by first | (go_simp; done) | (go_simp; rfl) | (go_simp; exact ⟨rfl, rfl⟩)) ?_
  clear x0_ x1_ x2_ x3_ x4_ y0_ y1_ y2_ y3_ y4_ hE_ hD_
  obtain ⟨w57, hw_⟩ : ∃ x_, x_ = (((((w50.setCell ⟨b29, t.toNat * 5, none⟩ (.int .i64 (wrap64 (((rd_T145 ds t).f0) + 1)))).setCell ⟨b29, t.toNat * 5 + 1, none⟩ (.int .i64 1)).setCell ⟨b29, t.toNat * 5 + 2, none⟩ (.slice A46 es.length c47)).setCell ⟨b29, t.toNat * 5 + 3, none⟩ (.int .i64 code)).setCell ⟨b29, t.toNat * 5 + 4, none⟩ (.slice A52 rs.length c53)) := ⟨_, rfl⟩
  rw [← hw_]
  replace S : Aside0 (St w w (fun _ => False) [hM w.heap.size (.slice A25 ws.length c26) (.slice (some ⟨b29, 0, none⟩) ds.length c28) ws (ds.set t.toNat ⟨wrap64 (((rd_T145 ds t).f0) + 1), 1, es, ⟨code, rs⟩⟩), hB g30 #[.slice A25 ws.length c26, .slice (some ⟨b29, 0, none⟩) ds.length c28] 88, hB g16 #[.slice A12 ws.length c13, .slice A14 ds.length c15] 88, hM w.heap.size (.slice A12 ws.length c13) (.slice A14 ds.length c15) ws ds, hB g7 #[.int .i64 0, .int .i64 0, .int .i64 0, .int .i64 0] 100, hB g5 #[.slice none 0 0, .slice none 0 0] 88, hB g3 #[.int .i64 code, .slice A3 rs.length c3] 70, hB g1 #[.slice A0 ws.length c0, .slice (some ad1) ds.length c1] 88] w57) := Aside0.mk (by rw [hw_]; exact S.out.setDesc t hb0 hb1 (wrap64 (((rd_T145 ds t).f0) + 1)) 1 code)
  clear hw_
  refine hK _ _ (S.out.drop) (fun _ => ?_)
  refine done_ (by kernel_rfl) ?_
  have kg30_0 : w57.cell? ⟨g30, 0, none⟩ = some (.slice A25 ws.length c26) := (blk_cell (S.out.blk 1 rfl) 0).trans rfl
  have kg30_1 : w57.cell? ⟨g30, 1, none⟩ = some (.slice (some ⟨b29, 0, none⟩) ds.length c28) := (blk_cell (S.out.blk 1 rfl) 1).trans rfl
  go_wp2_with (first
      | ((with_reducible refine gate_callee (f := 128) rfl ?_)
         (try clear kg30_0 kg30_1)
         obtain ⟨e59, q60, c61⟩ := St.readM0 S.out 0 rfl
         obtain ⟨e62, q63, c64⟩ := St.readM1 S.out 0 rfl
         refine goesL_ (some 56) rfl rfl Try.func128 (by kernel_rfl) rfl #[.agg #[.slice A25 ws.length c26, .slice (some ⟨b29, 0, none⟩) ds.length c28]] rfl (by (try simp only [List.map_toArray, List.map_cons, List.map_nil]); first | done | rfl) ?_
         refine calls_of_args (args' := #[.agg #[.slice A25 ws.length c26, .slice (some ⟨b29, 0, none⟩) (ds.set t.toNat ⟨wrap64 (((rd_T145 ds t).f0) + 1), 1, es, ⟨code, rs⟩⟩).length c28]]) (by rw [e62]) ?_
         (with_reducible refine (spec_MemOk.calls k A25 c26 ws (some ⟨b29, 0, none⟩) c28 (ds.set t.toNat ⟨wrap64 (((rd_T145 ds t).f0) + 1), 1, es, ⟨code, rs⟩⟩) _ _ c61 q60 c64 q63 H7.out).mono ?_)
         rintro e w58 ⟨rfl, hb⟩
         refine ⟨_, rfl, ?_⟩
         replace S := Aside0.mk (S.out.moved hb)
         clear hb e59 q60 c61 e62 q63 c64
         have kg30_0 : w58.cell? ⟨g30, 0, none⟩ = some (.slice A25 ws.length c26) := (blk_cell (S.out.blk 1 rfl) 0).trans rfl
         have kg30_1 : w58.cell? ⟨g30, 1, none⟩ = some (.slice (some ⟨b29, 0, none⟩) ds.length c28) := (blk_cell (S.out.blk 1 rfl) 1).trans rfl
         have kg5_0 : w58.cell? ⟨g5, 0, none⟩ = some (.slice none 0 0) := (blk_cell (S.out.blk 5 rfl) 0).trans rfl
         have kg5_1 : w58.cell? ⟨g5, 1, none⟩ = some (.slice none 0 0) := (blk_cell (S.out.blk 5 rfl) 1).trans rfl)
      | ((with_reducible refine gate_store (t := 88) (p := 8) rfl ?_)
         have zg5_0 := blk_frozen (S.out.blk 5 rfl) 0
         have zg5_1 := blk_frozen (S.out.blk 5 rfl) 1
         refine store_event (t := 88) (p := 8) (v := ?vo_w65) (w1 := ((w58.setCell ⟨g5, 0, none⟩ (.slice A25 ws.length c26)).setCell ⟨g5, 1, none⟩ (.slice (some ⟨b29, 0, none⟩) ds.length c28))) ?hg ?ho ?hn ?hr ?_
         (case ho => rfl)
         (case hg => rfl)
         (case hn => rfl)
         (case hr => first | (go_simp; done) | (go_simp; rfl) | (go_simp; exact ⟨rfl, rfl⟩))
         (try clear zg5_0 zg5_1)
         (try clear kg30_0 kg30_1 kg5_0 kg5_1)
         intro w65 hw
         replace S := Aside0.mk (show St w w (fun _ => False) [hB g5 #[.slice none 0 0, .slice none 0 0] 88, hM w.heap.size (.slice A25 ws.length c26) (.slice (some ⟨b29, 0, none⟩) ds.length c28) ws (ds.set t.toNat ⟨wrap64 (((rd_T145 ds t).f0) + 1), 1, es, ⟨code, rs⟩⟩), hB g30 #[.slice A25 ws.length c26, .slice (some ⟨b29, 0, none⟩) ds.length c28] 88, hB g16 #[.slice A12 ws.length c13, .slice A14 ds.length c15] 88, hM w.heap.size (.slice A12 ws.length c13) (.slice A14 ds.length c15) ws ds, hB g7 #[.int .i64 0, .int .i64 0, .int .i64 0, .int .i64 0] 100, hB g3 #[.int .i64 code, .slice A3 rs.length c3] 70, hB g1 #[.slice A0 ws.length c0, .slice (some ad1) ds.length c1] 88] _ from S.out.bring 5 rfl)
         replace S : Aside0 (St w w (fun _ => False) [hB g5 #[.slice A25 ws.length c26, .slice (some ⟨b29, 0, none⟩) ds.length c28] 88, hM w.heap.size (.slice A25 ws.length c26) (.slice (some ⟨b29, 0, none⟩) ds.length c28) ws (ds.set t.toNat ⟨wrap64 (((rd_T145 ds t).f0) + 1), 1, es, ⟨code, rs⟩⟩), hB g30 #[.slice A25 ws.length c26, .slice (some ⟨b29, 0, none⟩) ds.length c28] 88, hB g16 #[.slice A12 ws.length c13, .slice A14 ds.length c15] 88, hM w.heap.size (.slice A12 ws.length c13) (.slice A14 ds.length c15) ws ds, hB g7 #[.int .i64 0, .int .i64 0, .int .i64 0, .int .i64 0] 100, hB g3 #[.int .i64 code, .slice A3 rs.length c3] 70, hB g1 #[.slice A0 ws.length c0, .slice (some ad1) ds.length c1] 88] w65) := Aside0.mk (by rw [hw]; exact ((S.out.put 0 (.slice A25 ws.length c26) rfl).put 1 (.slice (some ⟨b29, 0, none⟩) ds.length c28) rfl))
         clear hw
         have kg7_0 : w65.cell? ⟨g7, 0, none⟩ = some (.int .i64 0) := (blk_cell (S.out.blk 5 rfl) 0).trans rfl
         have kg7_1 : w65.cell? ⟨g7, 1, none⟩ = some (.int .i64 0) := (blk_cell (S.out.blk 5 rfl) 1).trans rfl
         have kg7_2 : w65.cell? ⟨g7, 2, none⟩ = some (.int .i64 0) := (blk_cell (S.out.blk 5 rfl) 2).trans rfl
         have kg7_3 : w65.cell? ⟨g7, 3, none⟩ = some (.int .i64 0) := (blk_cell (S.out.blk 5 rfl) 3).trans rfl)
      | ((with_reducible refine gate_store (t := 100) (p := 9) rfl ?_)
         have zg7_0 := blk_frozen (S.out.blk 5 rfl) 0
         have zg7_1 := blk_frozen (S.out.blk 5 rfl) 1
         have zg7_2 := blk_frozen (S.out.blk 5 rfl) 2
         have zg7_3 := blk_frozen (S.out.blk 5 rfl) 3
         refine store_event (t := 100) (p := 9) (v := ?vo_w66) (w1 := ((((w65.setCell ⟨g7, 0, none⟩ (.int .i64 t)).setCell ⟨g7, 1, none⟩ (.int .i64 (wrap64 (((rd_T145 ds t).f0) + 1)))).setCell ⟨g7, 2, none⟩ (.int .i64 0)).setCell ⟨g7, 3, none⟩ (.int .i64 0))) ?hg ?ho ?hn ?hr ?_
         (case ho => rfl)
         (case hg => rfl)
         (case hn => rfl)
         (case hr => first | (go_simp; done) | (go_simp; rfl) | (go_simp; exact ⟨rfl, rfl⟩))
         (try clear zg7_0 zg7_1 zg7_2 zg7_3)
         (try clear kg7_0 kg7_1 kg7_2 kg7_3)
         intro w66 hw
         replace S := Aside0.mk (show St w w (fun _ => False) [hB g7 #[.int .i64 0, .int .i64 0, .int .i64 0, .int .i64 0] 100, hB g5 #[.slice A25 ws.length c26, .slice (some ⟨b29, 0, none⟩) ds.length c28] 88, hM w.heap.size (.slice A25 ws.length c26) (.slice (some ⟨b29, 0, none⟩) ds.length c28) ws (ds.set t.toNat ⟨wrap64 (((rd_T145 ds t).f0) + 1), 1, es, ⟨code, rs⟩⟩), hB g30 #[.slice A25 ws.length c26, .slice (some ⟨b29, 0, none⟩) ds.length c28] 88, hB g16 #[.slice A12 ws.length c13, .slice A14 ds.length c15] 88, hM w.heap.size (.slice A12 ws.length c13) (.slice A14 ds.length c15) ws ds, hB g3 #[.int .i64 code, .slice A3 rs.length c3] 70, hB g1 #[.slice A0 ws.length c0, .slice (some ad1) ds.length c1] 88] _ from S.out.bring 5 rfl)
         replace S : Aside0 (St w w (fun _ => False) [hB g7 #[.int .i64 t, .int .i64 (wrap64 (((rd_T145 ds t).f0) + 1)), .int .i64 0, .int .i64 0] 100, hB g5 #[.slice A25 ws.length c26, .slice (some ⟨b29, 0, none⟩) ds.length c28] 88, hM w.heap.size (.slice A25 ws.length c26) (.slice (some ⟨b29, 0, none⟩) ds.length c28) ws (ds.set t.toNat ⟨wrap64 (((rd_T145 ds t).f0) + 1), 1, es, ⟨code, rs⟩⟩), hB g30 #[.slice A25 ws.length c26, .slice (some ⟨b29, 0, none⟩) ds.length c28] 88, hB g16 #[.slice A12 ws.length c13, .slice A14 ds.length c15] 88, hM w.heap.size (.slice A12 ws.length c13) (.slice A14 ds.length c15) ws ds, hB g3 #[.int .i64 code, .slice A3 rs.length c3] 70, hB g1 #[.slice A0 ws.length c0, .slice (some ad1) ds.length c1] 88] w66) := Aside0.mk (by rw [hw]; exact ((((S.out.put 0 (.int .i64 t) rfl).put 1 (.int .i64 (wrap64 (((rd_T145 ds t).f0) + 1))) rfl).put 2 (.int .i64 0) rfl).put 3 (.int .i64 0) rfl))
         clear hw))
  refine bodyPost_ret (results_list (rs := [.cell 8 88, .cell 9 100, .tmp 10]) rfl (by simp) (.cell g5 88 #[.slice A25 ws.length c26, .slice (some ⟨b29, 0, none⟩) ds.length c28] (0, 0) _ rfl (S.out.blk 1 rfl) Try.underlying88 rfl (by kernel_rfl) (.cell g7 100 #[.int .i64 t, .int .i64 (wrap64 (((rd_T145 ds t).f0) + 1)), .int .i64 0, .int .i64 0] (0, 0) _ rfl (S.out.blk 0 rfl) Try.underlying100 rfl (by kernel_rfl) (.tmp .nil)))) rfl ?_
  obtain ⟨D_, hD_⟩ := S.out.nth 2 rfl
  exact ⟨_, _, by first | rfl | (simp; done), Kd.R_mono (M_R hD_) (fun _ _ => trivial), Kd.S_mono (M_S hD_) (fun _ _ => trivial), S.out.done⟩
end Go.Proofs.Ytopikhjcbcpiaaa.Q
end
