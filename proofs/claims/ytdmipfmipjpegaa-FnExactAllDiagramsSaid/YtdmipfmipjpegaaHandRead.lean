/- Contracts of spec.l01Place, impl.placeOf and spec.l01Read. No condition. -/
import Derived.Test.YtdmipfmipjpegaaHandGen2
import Derived.Deep.AppendLies
import Derived.Maps.AppendAt
import Derived.Laws.BytesArg
import Derived.Laws.MakeOwn
import Derived.Laws.OwnMore
import Derived.Deep.OwnRows
import Derived.Tactics
import Derived.Lib.ConvBytes
import Derived.Laws.Slices
import Derived.RowKit3
import Derived.BigQuiet
import Derived.WideLaws
import Derived.Laws.Rows
import Derived.Laws.Tables
import Derived.Laws.ResultCell
import Derived.Laws.CopyOwn
import Derived.StillTailTactics
namespace Go.Proofs.Ytdmipfmipjpegaa.Hand
open Go.RowKit Go.Proofs.YtdmipfmipjpegaaW.PrintWords Go.Proofs.YtdmipfmipjpegaaW.PrintLast Go.Proofs.YtdmipfmipjpegaaW.PrintMore
set_option linter.unusedVariables false
set_option linter.unusedSimpArgs false

theorem infoI64 : (Try.prog.info? 2).map (fun i => (i.zero, i.size, i.bytes)) = some (some (.int .i64 0), 1, 8) := by kernel_rfl
theorem R_empty {w : World} {base g e : Nat} {ok : Nat → Prop} (hg : w.heap[g]? = some (.cells #[] e (0, 0))) (hb : base ≤ g) (hok : ok g) : Kd.R (Kd.int .i64) e w base ok (.slice (some ⟨g, 0, none⟩) 0 0) [] := by
  refine ⟨fun k hk => ?_, [], ?_, Reps.none _ _⟩
  · simp [Value.ownBlock] at hk
    subst hk
    exact hok
  · exact ⟨by simp, .inr ⟨g, 0, #[], rfl, hb, hg, Nat.le_refl _, by unfold maxLen; omega, by simp, by simp⟩⟩
/-- The place of a point, and the point of a place. -/
def pl (n i : Nat) : Nat := if i < n then i else 3 * n - 1 - i
theorem pl_lt {n i : Nat} (h : i < 2 * n) : pl n i < 2 * n := by unfold pl; split <;> omega
set_option maxHeartbeats 2000000 in
theorem sPlace_calls (n i : Nat) (hn : n ≤ 8) (hi : i < 2 * n) (w : World) :
    Calls Try.prog 44 #[.int .i64 (n : Int), .int .i64 (i : Int)] w fun e w' => e = .returned (.int .i64 ((pl n i : Nat) : Int)) ∧ w' = w := by
  by_cases h : i < n
  · have b1 : decide ((i : Int) < (n : Int)) = true := decide_eq_true (by omega)
    have b1' : decide (i < n) = true := decide_eq_true h
    rw [show pl n i = i by unfold pl; rw [if_pos h]]
    clear h hn hi
    go_enter Try.func44, Try.ntmps44
    go_wp2
    go_ret
    exact ⟨by first | rfl | (simp [*]; done), rfl⟩
  · have b1 : decide ((i : Int) < (n : Int)) = false := decide_eq_false (by omega)
    have b1' : decide (i < n) = false := decide_eq_false h
    have hw := Aside0.mk (show wrap64 (wrap64 (wrap64 (3 * (n : Int)) - 1) - (i : Int)) = ((pl n i : Nat) : Int) by unfold pl; rw [if_neg h]; unfold wrap64; omega)
    clear h hn hi
    go_enter Try.func44, Try.ntmps44
    go_wp2
    go_ret
    exact ⟨by rw [← hw.out]; first | rfl | (simp [*]; done), rfl⟩
set_option maxHeartbeats 2000000 in
theorem gPlace_calls (n i : Nat) (hn : n ≤ 8) (hi : i < 2 * n) (w : World) :
    Calls Try.prog 49 #[.int .i64 (n : Int), .int .i64 (i : Int)] w fun e w' => e = .returned (.int .i64 ((pl n i : Nat) : Int)) ∧ w' = w := by
  by_cases h : i < n
  · have b1 : decide ((i : Int) < (n : Int)) = true := decide_eq_true (by omega)
    have b1' : decide (i < n) = true := decide_eq_true h
    rw [show pl n i = i by unfold pl; rw [if_pos h]]
    clear h hn hi
    go_enter Try.func49, Try.ntmps49
    go_wp2
    go_ret
    exact ⟨by first | rfl | (simp [*]; done), rfl⟩
  · have b1 : decide ((i : Int) < (n : Int)) = false := decide_eq_false (by omega)
    have b1' : decide (i < n) = false := decide_eq_false h
    have hw := Aside0.mk (show wrap64 (wrap64 (wrap64 (3 * (n : Int)) - 1) - (i : Int)) = ((pl n i : Nat) : Int) by unfold pl; rw [if_neg h]; unfold wrap64; omega)
    clear h hn hi
    go_enter Try.func49, Try.ntmps49
    go_wp2
    go_ret
    exact ⟨by rw [← hw.out]; first | rfl | (simp [*]; done), rfl⟩
theorem getD_appN (a b : List Nat) (j : Nat) (h : j < a.length) : (a ++ b).getD j 0 = a.getD j 0 := by
  rw [List.getD_eq_getElem?_getD, List.getElem?_append_left h, ← List.getD_eq_getElem?_getD]
section
variable {P : Program} {ops : Array Oper}
theorem wpStill_do {Q : Act → Prop} {a : Act} {w : World} {o : Oper} {rest : List Oper} (hw : Region.wanted o (yielded ops a.tmps) = true) (h : o.still P a w (wpStill P ops w Q rest)) : wpStill P ops w Q (o :: rest) a := by
  unfold wpStill
  rw [if_pos hw]
  exact h
/-- A load of a whole row, in the quiet head of a region that draws its order. -/
theorem still_load_row {o : Oper} {a : Act} {w : World} {K : Act → Prop} (ty : TypeId) (x : Operand) (ho : o.op = .load ty x)
    (g : Nat) (hx : a.eval x = .pointer (some ⟨g, 0, none⟩)) (t : TypeId) (cs : Array Value) (fr : Nat × Nat) (d : TypeDesc) (hg : w.heap[g]? = some (.cells cs t fr))
    (hu : P.underlying ty = some d) (hd : (match d with | .struct _ | .array _ _ => true | _ => false) = true) (hi : (P.info? ty).map (·.size) = some cs.size)
    (h : K (a.put o.dst (.agg cs))) : o.still P a w K := by
  unfold Oper.still execOp
  simp only [ho, hx, Instr.loadAt, Instr.sureAddr, Sem.run_bind, Sem.run_pure, Result.andThen_ok, run_loadVar_row w g t ty cs fr d hg hu hd hi]
  exact ⟨rfl, h⟩
end
/-- The letters of a text, read from the left: the bytes of a diagram of the size n and the places of the brackets that are open. -/
def scan (n : Nat) (t : Nat → Int) : Nat → Option (List Int × List Nat)
  | 0 => some (List.replicate 16 0, [])
  | i + 1 => match scan n t i with
    | none => none
    | some (b, st) => if t i = 40 then some (b, st ++ [i]) else if t i = 41 ∧ st ≠ [] then some (jn b (pl n (st.getD (st.length - 1) 0)) (pl n i), st.take (st.length - 1)) else none
theorem scan_ok (n : Nat) (t : Nat → Int) : ∀ i b st, scan n t i = some (b, st) → b.length = 16 ∧ st.length ≤ i ∧ ∀ j, j < st.length → st.getD j 0 < i := by
  intro i
  induction i with
  | zero =>
    intro b st h
    simp only [scan, Option.some.injEq, Prod.mk.injEq] at h
    obtain ⟨rfl, rfl⟩ := h
    exact ⟨by simp, by simp, fun j hj => by simp at hj⟩
  | succ i ih =>
    intro b st h
    simp only [scan] at h
    cases hs : scan n t i with
    | none => rw [hs] at h; simp at h
    | some p =>
      obtain ⟨b0, st0⟩ := p
      obtain ⟨h1, h2, h3⟩ := ih b0 st0 hs
      rw [hs] at h
      simp only at h
      split at h
      · simp only [Option.some.injEq, Prod.mk.injEq] at h
        obtain ⟨rfl, rfl⟩ := h
        refine ⟨h1, by simp; omega, fun j hj => ?_⟩
        rw [List.length_append, List.length_singleton] at hj
        by_cases hj2 : j < st0.length
        · rw [getD_appN _ _ _ hj2]
          have := h3 j hj2
          omega
        · have : j = st0.length := by omega
          subst this
          simp [List.getD_eq_getElem?_getD]
      · split at h
        · simp only [Option.some.injEq, Prod.mk.injEq] at h
          obtain ⟨rfl, rfl⟩ := h
          refine ⟨by rw [jn_len]; exact h1, by rw [List.length_take]; omega, fun j hj => ?_⟩
          rw [List.length_take] at hj
          have hj2 : j < st0.length - 1 := by omega
          have h4 := h3 j (by omega)
          rw [List.getD_eq_getElem?_getD, List.getElem?_take_of_lt hj2, ← List.getD_eq_getElem?_getD]
          omega
        · simp at h
/-- What is read: the bytes of the diagram, and whether there is one. -/
def readB (n : Nat) (t : Nat → Int) : List Int × Bool := match scan n t (2 * n) with
  | some (b, []) => (b, true)
  | _ => (List.replicate 16 0, false)
theorem scan_none {n : Nat} {t : Nat → Int} {i : Nat} (h : scan n t i = none) : ∀ j, i ≤ j → scan n t j = none := by
  intro j hj
  induction j with
  | zero => rw [show (0 : Nat) = i by omega]; exact h
  | succ j ih =>
    by_cases e : i = j + 1
    · rw [← e]; exact h
    · simp only [scan, ih (by omega)]
theorem readB_none {n : Nat} {t : Nat → Int} {i : Nat} {b : List Int} {st : List Nat} (hi : i < 2 * n) (h : scan n t i = some (b, st)) (h1 : ¬t i = 40) (h2 : ¬(t i = 41 ∧ st ≠ [])) : readB n t = (List.replicate 16 0, false) := by
  have : scan n t (i + 1) = none := by simp only [scan, h]; rw [if_neg h1, if_neg h2]
  unfold readB
  rw [scan_none this (2 * n) (by omega)]
theorem readB_open {n : Nat} {t : Nat → Int} {b : List Int} {st : List Nat} (h : scan n t (2 * n) = some (b, st)) (h1 : 0 < st.length) : readB n t = (List.replicate 16 0, false) := by
  unfold readB
  rw [h]
  cases st with
  | nil => simp at h1
  | cons a l => rfl
theorem readB_shut {n : Nat} {t : Nat → Int} {b : List Int} {st : List Nat} (h : scan n t (2 * n) = some (b, st)) (h1 : st.length = 0) : readB n t = (b, true) := by
  unfold readB
  rw [h]
  cases st with
  | nil => rfl
  | cons a l => simp at h1
/-- A result of two, the first of them a row in memory. -/
theorem results_arr {P : Program} {fn : Func} {p u : Tmp} {ty : TypeId} (h : fn.results = #[.cell p ty, .tmp u]) (tmps : Array Value) (W : World) (g : Nat) (t : TypeId) (cs : Array Value) {d : TypeDesc}
    (hp : tmps.getD p undef = .pointer (some ⟨g, 0, none⟩)) (hg : W.heap[g]? = some (.cells cs t (0, 0))) (hu : P.underlying ty = some d) (hd : (match d with | .struct _ | .array _ _ => true | _ => false) = true) (hi : (P.info? ty).map (·.size) = some cs.size) :
    (results fn tmps).run P W = .ok (.tuple #[.agg cs, tmps.getD u undef]) W := by
  rw [results_cell_tmp h, hp]
  simp [asAddr, Result.andThen, run_loadVar_row W g t ty cs (0, 0) d hg hu hd hi]
set_option maxHeartbeats 8000000 in
theorem sread_in (a0 : ByteArray) (n : Nat) (h1 : 1 ≤ n) (h8 : n ≤ 8) (hs : a0.size = 2 * n) (m : Int) (rb : List Int) (ok : Bool) (hm : m = if (readB n (fun i => bt a0 (i : Int))).2 then (n : Int) else 0) (hrb : rb = (readB n (fun i => bt a0 (i : Int))).1) (hok : ok = (readB n (fun i => bt a0 (i : Int))).2) (w : World) :
    Calls Try.prog 36 #[.string a0] w fun e w' => e = .returned (.tuple #[.agg (dia m rb), .bool ok]) ∧ Below w.heap.size w w' := by
  have HM := Aside0.mk hm
  have HRR := Aside0.mk hrb
  have HOK := Aside0.mk hok
  clear hm hrb hok
  have e0 : ((a0.size : Nat) : Int) = 2 * (n : Int) := by omega
  have e1 : Int.tdiv ((a0.size : Nat) : Int) 2 = (n : Int) := by rw [Int.tdiv_eq_ediv_of_nonneg (by omega)]; omega
  have e2 : Int.tmod ((a0.size : Nat) : Int) 2 = 0 := by rw [Int.tmod_eq_emod_of_nonneg (by omega)]; omega
  have HI := Aside0.mk (fun W => sIn_calls (n : Int) 1 8 true (decide_eq_true (by omega)) W)
  go_enter Try.func36, Try.ntmps36
  go_wp2_with fail
  refine (HI.out _).mono ?_
  rintro e w0 ⟨rfl, ⟨q, rfl⟩⟩
  have HB0 := Aside0.mk (pw_below_drewN ((Below.refl _ w).alloc (Nat.le_refl _) (.cells (dia 0 (List.replicate 16 0)) 24)) q)
  have HI2 := Aside0.mk hs
  have HN := Aside0.mk h8
  clear h1 h8 HI e0 e1 e2 hs
  go_wp2_with fail
  go_loopg [6, 7] (2 * n + 1) (fun kq v6 v7 w' => ∃ (i : Int) (iN : Nat) (b : List Int) (st : List Nat), v7 = .int .i64 i ∧ Aside0 (i = (iN : Int)) ∧ Aside0 (kq + iN = 2 * n + 1) ∧ Aside0 (iN ≤ 2 * n) ∧ Aside0 (scan n (fun i => bt a0 (i : Int)) iN = some (b, st)) ∧ Aside0 (w'.heap[w.heap.size]? = some (.cells (dia 0 (List.replicate 16 0)) 24 (0, 0))) ∧ Aside0 (w'.heap[w.heap.size + 1 + 1]? = some (.cells (dia n b) 24 (0, 0))) ∧ Aside0 (Kd.R (Kd.int .i64) 2 w' w.heap.size (fun k_ => k_ ≠ w.heap.size ∧ k_ ≠ w.heap.size + 1 + 1) v6 (st.map (fun (x : Nat) => (x : Int)))) ∧ Aside0 (w.heap.size + 3 ≤ w'.heap.size) ∧ Aside0 (Below w.heap.size w w'))
  case atStart =>
    refine ⟨0, 0, List.replicate 16 0, [], rfl, ⟨rfl⟩, ⟨rfl⟩, ⟨Nat.zero_le _⟩, ⟨rfl⟩, ⟨?_⟩, ⟨?_⟩, ⟨?_⟩, ⟨by simp⟩, ⟨(HB0.out.alloc (by simp) _).alloc (by simp; omega) _⟩⟩
    · rw [Below.heap_alloc _ _ _ (by simp; omega), Below.heap_alloc _ _ _ (by simp)]
      exact heap_alloc_new w _
    · have h_ := heap_alloc_new (((w.alloc (.cells (dia 0 (List.replicate 16 0)) 24)).drewN q).alloc (.cells #[] 2)) (.cells (dia n (List.replicate 16 0)) 24)
      rw [show (((w.alloc (.cells (dia 0 (List.replicate 16 0)) 24)).drewN q).alloc (.cells #[] 2)).heap.size = w.heap.size + 1 + 1 by simp] at h_
      exact h_
    · refine R_empty ?_ (by omega) (by omega)
      rw [Below.heap_alloc _ _ _ (by simp)]
      have h_ := heap_alloc_new ((w.alloc (.cells (dia 0 (List.replicate 16 0)) 24)).drewN q) (.cells #[] 2)
      rw [show ((w.alloc (.cells (dia 0 (List.replicate 16 0)) 24)).drewN q).heap.size = w.heap.size + 1 by simp] at h_
      exact h_
  case round =>
    obtain ⟨i, iN, b, st, rfl, EI, E1, E2, HSC, HO_2, HO_4, HO_5, HZ5, HB⟩ := hrel
    cases gk with
    | zero => exact absurd E1.out (by have := E2.out; omega)
    | succ k1 =>
      obtain ⟨hbl, hstl, hstb⟩ := scan_ok _ _ _ _ _ HSC.out
      have HBL := Aside0.mk hbl
      have HST := Aside0.mk hstl
      have HSTB := Aside0.mk hstb
      clear hbl hstl hstb
      have w2 : wrap64 (2 * (n : Int)) = 2 * (n : Int) := by have := HN.out; unfold wrap64; omega
      by_cases d1 : i < 2 * (n : Int)
      · have d1b : decide (i < 2 * (n : Int)) = true := decide_eq_true d1
        have d1c : decide (i < wrap64 (2 * (n : Int))) = true := by rw [w2]; exact d1b
        have d3 : 0 ≤ i := by rw [EI.out]; omega
        have d3b : decide (0 ≤ i) = true := decide_eq_true d3
        have d4 : i < (a0.size : Int) := by have := HI2.out; omega
        have p11 := eq_true d3
        have q11 := eq_true d4
        have hx11 := bt_at a0 i
        have HD1 := Aside0.mk d1
        clear d1 d3 d4
        by_cases c12 : (bt a0 i) = 40
        · have c12b0 : ((bt a0 i) == 40) = true := beq_iff_eq.mpr c12
          have c12b1 : ((bt a0 i) != 40) = false := bne_eq_false_iff_eq.mpr c12
          have HC12 := Aside0.mk c12
          clear c12
          have LM : Aside0 ((st.map (fun (x : Nat) => (x : Int))).length < 17592186044416) := ⟨by rw [List.length_map]; have := HST.out; have := E2.out; have := HN.out; omega⟩
          have HSN := Aside0.mk (show st.map (fun (x : Nat) => (x : Int)) ++ [i] = (st ++ [iN]).map (fun (x : Nat) => (x : Int)) by rw [List.map_append, EI.out]; rfl)
          generalize hsti : st.map (fun (x : Nat) => (x : Int)) = sti at HO_5 LM HSN
          clear hsti
          go_wp2_with (first | ((with_reducible refine gate_builtin (b := .append) (xs := #[.tmp 37, .tmp 39]) rfl ?_); at_builtin; refine Kd.R_append (Kd.int .i64) (w0 := w) w.heap.size rfl (.tmp 37) (.tmp 39) 62 2 (.int .i64 0) 8 rfl Try.underlying62 infoI64 rfl (by decide) (by omega) u6 sti i [.int .i64 i] (fun k_ => k_ ≠ w.heap.size ∧ k_ ≠ w.heap.size + 1 + 1) (fun _ => False) rfl rfl ?aP (fun _ hk => hk.elim) ?aF ?aO ?aB ?aS ?aL ?_; (case aP => exact rfl); (case aB => exact HB.out); (case aF => exact fun k_ hk => by have := HZ5.out; omega); (case aO => exact HO_5.out); (case aS => exact below_size HB.out); (case aL => have := LM.out; omega); intro v108 w14 ho hb hg hat; have n1_ := Aside0.mk ho; have n2_ := Aside0.mk hb; have n3_ := Aside0.mk ((hg.block _ (by have := HZ5.out; omega) (fun e_ => (HO_5.out.1 _ e_.symm).1 rfl)).trans HO_2.out); have n4_ := Aside0.mk ((hg.block _ (by have := HZ5.out; omega) (fun e_ => (HO_5.out.1 _ e_.symm).2 rfl)).trans HO_4.out); have n5_ := Aside0.mk (show w.heap.size + 3 ≤ w14.heap.size by have := hg.size; have := HZ5.out; omega); clear HO_5 HB HO_2 HO_4 HZ5 ho hb hg hat))
          go_roundg k1
          case measure => have := E1.out; omega
          case rel => exact ⟨_, iN + 1, b, st ++ [iN], rfl, ⟨by rw [EI.out]; have := HN.out; have := HD1.out; have := EI.out; unfold wrap64; omega⟩, ⟨by have := E1.out; omega⟩, ⟨by have := HD1.out; have := EI.out; omega⟩, ⟨by simp only [scan, HSC.out]; rw [if_pos (by rw [← EI.out]; exact HC12.out)]⟩, n3_, n4_, ⟨by rw [← HSN.out]; exact n1_.out⟩, n5_, n2_⟩
        · have c12b0 : ((bt a0 i) == 40) = false := beq_eq_false_iff_ne.mpr c12
          have c12b1 : ((bt a0 i) != 40) = true := bne_iff_ne.mpr c12
          have HC12 := Aside0.mk c12
          clear c12
          by_cases c16 : (bt a0 i) = 41
          · have c16b0 : ((bt a0 i) == 41) = true := beq_iff_eq.mpr c16
            have c16b1 : ((bt a0 i) != 41) = false := bne_eq_false_iff_eq.mpr c16
            have HC16 := Aside0.mk c16
            clear c16
            by_cases c17 : 0 < st.length
            · have HSL := Aside0.mk (show (st.map (fun (x : Nat) => (x : Int))).length = st.length from List.length_map _)
              have HTOP := Aside0.mk (show rd (st.map (fun (x : Nat) => (x : Int))) ((st.length - 1 : Nat) : Int) = ((st.getD (st.length - 1) 0 : Nat) : Int) by
                unfold rd
                rw [Int.toNat_natCast, List.getD_eq_getElem?_getD, List.getD_eq_getElem?_getD, List.getElem?_map]
                rw [List.getElem?_eq_getElem (by omega)]
                rfl)
              have HTAKE := Aside0.mk (show (st.map (fun (x : Nat) => (x : Int))).take (st.length - 1) = (st.take (st.length - 1)).map (fun (x : Nat) => (x : Int)) from List.map_take.symm)
              have HLOW := Aside0.mk (HSTB.out (st.length - 1) (by omega))
              have HC17 := Aside0.mk c17
              generalize hsti : st.map (fun (x : Nat) => (x : Int)) = sti at HO_5 HSL HTOP HTAKE
              clear hsti
              have c17b0 : decide (0 < sti.length) = true := decide_eq_true (by rw [HSL.out]; exact c17)
              have c17b1 : decide (0 < (sti.length : Int)) = true := decide_eq_true (by have := HSL.out; omega)
              clear c17
              obtain ⟨ji19, hji19⟩ : ∃ j_ : Int, (wrap64 ((sti.length : Int) - 1)) = j_ := ⟨_, rfl⟩
              have hji19w : (IntKind.i64.wrap ((sti.length : Int) - 1)) = ji19 := (i64_w _).trans hji19
              have hjv : ji19 = ((st.length - 1 : Nat) : Int) := by rw [← hji19]; have := HSL.out; have := HST.out; have := E2.out; have := HN.out; have := HC17.out; unfold wrap64; omega
              have c20 : 0 ≤ ji19 := by omega
              have c21 : ji19 < (sti.length : Int) := by have := HSL.out; have := HC17.out; omega
              obtain ⟨Ao28, co28, eo28⟩ := Kd.R_slice HO_5.out
              subst eo28
              obtain ⟨ad110, e110, hx110⟩ := Kd.at_int (Kd.R_reads' HO_5.out).2.2 ji19 c20 c21
              cases e110
              obtain ⟨i029, hi029, _, hsz29, _⟩ := info_parts infoI64
              have hcut29 := cut_to (P := Try.prog) 62 2 .i64 Try.underlying62 hi029 (some ad110) sti.length co28 ji19 c20 (by omega) (Kd.R_reads' HO_5.out).2.1
              have hr29 := Aside0.mk (Kd.R_take (m := ji19.toNat) HO_5.out (by omega))
              have HJT := Aside0.mk (show ji19.toNat = st.length - 1 by omega)
              have hy29 : (sti.take ji19.toNat).length = ji19.toNat := by rw [List.length_take]; omega
              have htop : rd sti ji19 = ((st.getD (st.length - 1) 0 : Nat) : Int) := by rw [hjv]; exact HTOP.out
              generalize hc : st.getD (st.length - 1) 0 = c at htop HLOW
              have HCC := Aside0.mk hc
              rw [htop] at hx110
              clear hc htop HTOP hjv
              have p20 := eq_true c20
              have q20 := eq_true c21
              clear c20 c21 hi029 hsz29
              have HZ := Aside0.mk (show (Try.prog.info? 24).map (·.size) = some (dia (n : Int) b).size by rw [dia_size, HBL.out]; exact sizeDia)
              have HCN := Aside0.mk (show c < 2 * n by have := HLOW.out; have := E2.out; omega)
              have HIN := Aside0.mk (show iN < 2 * n by have := HD1.out; have := EI.out; omega)
              have H1 := Aside0.mk (fun W => sPlace_calls n c HN.out HCN.out W)
              have H2 := Aside0.mk (fun W => sPlace_calls n iN HN.out HIN.out W)
              have H3 := Aside0.mk (fun W => join_calls n b HBL.out (pl n c) (pl n iN) (by have := pl_lt HCN.out; have := HN.out; omega) (by have := pl_lt HIN.out; have := HN.out; omega) W)
              rw [← EI.out] at H2
              go_wp2_with fail
              refine wp_region_still_tail 7 (by kernel_rfl) (by kernel_rfl) ?_
              simp only [List.take_succ_cons, List.take_zero, List.drop_succ_cons, List.drop_zero]
              refine wpStill_do rfl (still_load_row 24 _ rfl (w.heap.size + 1 + 1) rfl 24 (dia n b) (0, 0) _ HO_4.out Try.underlying24 rfl HZ.out ?_)
              still_step
              still_step
              still_call (H1.out _)
              still_step
              still_step
              still_call (H2.out _)
              refine wpStill_nil ?_
              change wpList _ _ _ _ _ wr.drew
              go_wp2_with fail
              refine (H3.out _).mono ?_
              rintro e w5 ⟨rfl, hb5⟩
              have HG5 := Aside0.mk ((hb5.block (w.heap.size + 1 + 1) (show w.heap.size + 1 + 1 < wr.heap.size by have := HZ5.out; omega)).trans HO_4.out)
              have HR5 := Aside0.mk ((hb5.block w.heap.size (show w.heap.size < wr.heap.size by have := HZ5.out; omega)).trans HO_2.out)
              have HB5 := Aside0.mk (below_step (w := w) (below_drew1 HB.out) hb5)
              have HS5 := Aside0.mk (Kd.R_below (Kd.R_drew hr29.out) hb5)
              have HZ6 := Aside0.mk (show w.heap.size + 3 ≤ w5.heap.size from Nat.le_trans HZ5.out (show wr.heap.size ≤ w5.heap.size from below_size (w := wr.drew) hb5))
              have HZ2 := Aside0.mk (show (Try.prog.info? 24).map (·.size) = some (dia (n : Int) (jn b (pl n c) (pl n iN))).size by rw [dia_size, jn_len, HBL.out]; exact sizeDia)
              have HS2 := Aside0.mk (show (dia (n : Int) b).size = (dia (n : Int) (jn b (pl n c) (pl n iN))).size by rw [dia_size, dia_size, jn_len])
              clear hb5 HO_4 HO_2 HB hr29 HO_5 HZ5 hx110 hcut29 H1 H2 H3
              go_wp2_with (refine wpList_store_row rfl 24 _ _ rfl (w.heap.size + 1 + 1) (dia n (jn b (pl n c) (pl n iN))) rfl rfl 24 (dia n b) HG5.out HZ2.out HS2.out (dia_one _ _) ?_)
              go_roundg k1
              case measure => have := E1.out; omega
              case rel =>
                refine ⟨_, iN + 1, jn b (pl n c) (pl n iN), st.take (st.length - 1), rfl, ⟨by rw [EI.out]; have := HN.out; have := HIN.out; unfold wrap64; omega⟩, ⟨by have := E1.out; omega⟩, ⟨by have := HIN.out; omega⟩, ⟨?_⟩, ⟨(setRow_other _ _ _ _ (by omega)).trans HR5.out⟩, ⟨setRow_heap _ _ _ _ _ _ HG5.out⟩, ⟨?_⟩, ⟨by rw [setRow_size]; exact HZ6.out⟩, ⟨below_setRow HB5.out (by omega)⟩⟩
                · simp only [scan, HSC.out]
                  rw [if_neg (by rw [← EI.out]; exact HC12.out), if_pos ⟨by rw [← EI.out]; exact HC16.out, fun h => by have := HC17.out; rw [h] at this; simp at this⟩, HCC.out]
                · rw [← HTAKE.out, ← HJT.out]
                  exact Kd.R_step HS5.out (fun k_ hk _ => setRow_other _ _ _ _ hk.2)
            · have HSL := Aside0.mk (show (st.map (fun (x : Nat) => (x : Int))).length = st.length from List.length_map _)
              have HRF := Aside0.mk (readB_none (i := iN) (b := b) (st := st) (by have := HD1.out; have := EI.out; omega) HSC.out (by rw [← EI.out]; exact HC12.out) (fun h => c17 (List.length_pos_iff.2 h.2)))
              generalize hsti : st.map (fun (x : Nat) => (x : Int)) = sti at HO_5 HSL
              clear hsti
              have c17b0 : decide (0 < sti.length) = false := decide_eq_false (by rw [HSL.out]; exact c17)
              have c17b1 : decide (0 < (sti.length : Int)) = false := decide_eq_false (by have := HSL.out; omega)
              clear c17
              obtain ⟨Ao34, co34, eo34⟩ := Kd.R_slice HO_5.out
              subst eo34
              have HRB := Aside0.mk HRF.out
              go_wp2_with (refine wpList_store_row rfl 24 _ _ rfl w.heap.size (dia 0 (List.replicate 16 0)) rfl rfl 24 (dia 0 (List.replicate 16 0)) HO_2.out sizeDia rfl (dia_one _ _) ?_)
              refine bodyPost_ret (results_arr rfl _ _ w.heap.size 24 (dia 0 (List.replicate 16 0)) rfl (setRow_heap _ _ _ _ _ _ HO_2.out) Try.underlying24 rfl sizeDia) rfl ⟨by rw [HM.out, HRR.out, HOK.out, HRB.out]; rfl, below_setRow HB.out (Nat.le_refl _)⟩
          · have c16b0 : ((bt a0 i) == 41) = false := beq_eq_false_iff_ne.mpr c16
            have c16b1 : ((bt a0 i) != 41) = true := bne_iff_ne.mpr c16
            have HRF := Aside0.mk (readB_none (i := iN) (b := b) (st := st) (by have := HD1.out; have := EI.out; omega) HSC.out (by rw [← EI.out]; exact HC12.out) (fun h => c16 (by rw [EI.out]; exact h.1)))
            clear c16
            obtain ⟨Ao34, co34, eo34⟩ := Kd.R_slice HO_5.out
            subst eo34
            have HRB := Aside0.mk HRF.out
            go_wp2_with (refine wpList_store_row rfl 24 _ _ rfl w.heap.size (dia 0 (List.replicate 16 0)) rfl rfl 24 (dia 0 (List.replicate 16 0)) HO_2.out sizeDia rfl (dia_one _ _) ?_)
            refine bodyPost_ret (results_arr rfl _ _ w.heap.size 24 (dia 0 (List.replicate 16 0)) rfl (setRow_heap _ _ _ _ _ _ HO_2.out) Try.underlying24 rfl sizeDia) rfl ⟨by rw [HM.out, HRR.out, HOK.out, HRB.out]; rfl, below_setRow HB.out (Nat.le_refl _)⟩
      · have d1b : decide (i < 2 * (n : Int)) = false := decide_eq_false d1
        have d1c : decide (i < wrap64 (2 * (n : Int))) = false := by rw [w2]; exact d1b
        have hin : iN = 2 * n := by have := E2.out; have := EI.out; omega
        clear d1
        subst hin
        have HSL := Aside0.mk (show (st.map (fun (x : Nat) => (x : Int))).length = st.length from List.length_map _)
        by_cases c17 : 0 < st.length
        · have HRF := Aside0.mk (readB_open HSC.out c17)
          generalize hsti : st.map (fun (x : Nat) => (x : Int)) = sti at HO_5 HSL
          clear hsti
          have c17b0 : decide (0 < sti.length) = true := decide_eq_true (by rw [HSL.out]; exact c17)
          have c17b1 : decide (0 < (sti.length : Int)) = true := decide_eq_true (by have := HSL.out; omega)
          clear c17
          obtain ⟨Ao34, co34, eo34⟩ := Kd.R_slice HO_5.out
          subst eo34
          have HRB := Aside0.mk HRF.out
          go_wp2_with (refine wpList_store_row rfl 24 _ _ rfl w.heap.size (dia 0 (List.replicate 16 0)) rfl rfl 24 (dia 0 (List.replicate 16 0)) HO_2.out sizeDia rfl (dia_one _ _) ?_)
          refine bodyPost_ret (results_arr rfl _ _ w.heap.size 24 (dia 0 (List.replicate 16 0)) rfl (setRow_heap _ _ _ _ _ _ HO_2.out) Try.underlying24 rfl sizeDia) rfl ⟨by rw [HM.out, HRR.out, HOK.out, HRB.out]; rfl, below_setRow HB.out (Nat.le_refl _)⟩
        · have HRF := Aside0.mk (readB_shut HSC.out (by omega))
          generalize hsti : st.map (fun (x : Nat) => (x : Int)) = sti at HO_5 HSL
          clear hsti
          have c17b0 : decide (0 < sti.length) = false := decide_eq_false (by rw [HSL.out]; exact c17)
          have c17b1 : decide (0 < (sti.length : Int)) = false := decide_eq_false (by have := HSL.out; omega)
          clear c17
          obtain ⟨Ao34, co34, eo34⟩ := Kd.R_slice HO_5.out
          subst eo34
          have HZ := Aside0.mk (show (Try.prog.info? 24).map (·.size) = some (dia (n : Int) b).size by rw [dia_size, HBL.out]; exact sizeDia)
          have HS2 := Aside0.mk (show (dia 0 (List.replicate 16 0)).size = (dia (n : Int) b).size by rw [dia_size, dia_size, HBL.out]; rfl)
          go_wp2_with (first | (refine wpList_load_row rfl 24 _ rfl (w.heap.size + 1 + 1) rfl 24 (dia n b) (0, 0) _ HO_4.out Try.underlying24 rfl HZ.out ?_) | (refine wpList_store_row rfl 24 _ _ rfl w.heap.size (dia n b) rfl rfl 24 (dia 0 (List.replicate 16 0)) HO_2.out HZ.out HS2.out (dia_one _ _) ?_))
          refine bodyPost_ret (results_arr rfl _ _ w.heap.size 24 (dia n b) rfl (setRow_heap _ _ _ _ _ _ HO_2.out) Try.underlying24 rfl HZ.out) rfl ⟨by rw [HM.out, HRR.out, HOK.out, HRF.out]; rfl, below_setRow HB.out (Nat.le_refl _)⟩
end Go.Proofs.Ytdmipfmipjpegaa.Hand
