/- The contract of impl.ofHalves, for two half diagrams of one size. Condition: said in the theorem. -/
import Derived.Test.YteajmmmaiahmnaaHandSDia
namespace Go.Proofs.Yteajmmmaiahmnaa.Hand
open Go.RowKit Go.Proofs.YteajmmmaiahmnaaW.PrintWords Go.Proofs.YteajmmmaiahmnaaW.PrintLast Go.Proofs.YteajmmmaiahmnaaW.PrintMore
set_option linter.unusedVariables false
set_option linter.unusedSimpArgs false
set_option maxHeartbeats 2000000 in
theorem joinX_calls (n : Int) (b : List Int) (hb : b.length = 16) (i k : Nat) (hi : i < 16) (hk : k < 16) (B : Nat) (w : World) (hg : w.heap[B]? = some (.cells (dia n b) 24 (0, 0))) :
    Calls Try.prog 17 #[.pointer (some ⟨B, 0, none⟩), .int .i64 (i : Int), .int .i64 (k : Int)] w fun e w' => e = .returned (.tuple #[]) ∧ w' = ((w.setCell ⟨B, 1 + i, none⟩ (.int .u8 (k : Int))).setCell ⟨B, 1 + k, none⟩ (.int .u8 (i : Int))).drew := by
  have p1 : (0 ≤ (i : Int)) = True := eq_true (by omega)
  have q1 : ((i : Int) < 16) = True := eq_true (by omega)
  have q1' : (i < 16) = True := eq_true hi
  have p2 : (0 ≤ (k : Int)) = True := eq_true (by omega)
  have q2 : ((k : Int) < 16) = True := eq_true (by omega)
  have q2' : (k < 16) = True := eq_true hk
  have w1 : IntKind.u8.wrap (i : Int) = (i : Int) := by unfold IntKind.wrap; simp [IntKind.bits, IntKind.signed]; omega
  have w2 : IntKind.u8.wrap (k : Int) = (k : Int) := by unfold IntKind.wrap; simp [IntKind.bits, IntKind.signed]; omega
  obtain ⟨u1, e1⟩ : ∃ u1, w.cell? ⟨B, 1 + i, none⟩ = some u1 := by
    rw [cell_of_row _ _ _ _ _ _ hg]
    exact ⟨_, Array.getElem?_eq_getElem (by rw [dia_size]; omega)⟩
  have z1 : w.frozen? ⟨B, 1 + i, none⟩ = false := frozen_of_row _ _ _ _ _ hg
  have hg2 := heap_setCell_same w B (1 + i) _ _ (.int .u8 (k : Int)) hg
  obtain ⟨u2, e2⟩ : ∃ u2, (w.setCell ⟨B, 1 + i, none⟩ (.int .u8 (k : Int))).cell? ⟨B, 1 + k, none⟩ = some u2 := by
    rw [cell_of_row _ _ _ _ _ _ hg2]
    exact ⟨_, Array.getElem?_eq_getElem (by rw [Array.size_setIfInBounds, dia_size]; omega)⟩
  have z2 : (w.setCell ⟨B, 1 + i, none⟩ (.int .u8 (k : Int))).frozen? ⟨B, 1 + k, none⟩ = false := frozen_of_row _ _ _ _ _ hg2
  clear hg hg2 hb hi hk
  go_enter Try.func17, Try.ntmps17
  go_wp2
  go_region
  refine bodyPost_end (results_none rfl _ _ _) rfl ⟨rfl, rfl⟩
/-- Arcs of n places, -1 for open ones. -/
structure ArcN (p : List Int) (n : Nat) : Prop where
  len : p.length = n
  rng : ∀ j, j < n → -1 ≤ p.getD j 0 ∧ p.getD j 0 < (n : Int)
/-- The bytes, when i places of a half are told. -/
def G1 (p : List Int) (c : Nat) (b : List Int) : Nat → List Int
  | 0 => b
  | i + 1 => if 0 ≤ p.getD i 0 then (G1 p c b i).set (c + i) ((c : Int) + p.getD i 0) else G1 p c b i
/-- .. when s halves are told. -/
def Gs (n : Nat) (p0 p1 : List Int) : Nat → List Int
  | 0 => List.replicate 16 0
  | s + 1 => G1 (if s = 0 then p0 else p1) (s * n) (Gs n p0 p1 s) n
/-- .. when j open points are joined. -/
def G3 (n : Nat) (q0 q1 b : List Int) : Nat → List Int
  | 0 => b
  | j + 1 => jn (G3 n q0 q1 b j) (q0.getD j 0).toNat (n + (q1.getD j 0).toNat)
theorem G1_len (p : List Int) (c : Nat) (b : List Int) (hb : b.length = 16) : ∀ i, (G1 p c b i).length = 16
  | 0 => hb
  | i + 1 => by
    rw [G1]
    split
    · rw [List.length_set, G1_len p c b hb i]
    · exact G1_len p c b hb i
theorem Gs_len (n : Nat) (p0 p1 : List Int) : ∀ s, (Gs n p0 p1 s).length = 16
  | 0 => rfl
  | s + 1 => G1_len _ _ _ (Gs_len n p0 p1 s) n
theorem G3_len (n : Nat) (q0 q1 b : List Int) (hb : b.length = 16) : ∀ j, (G3 n q0 q1 b j).length = 16
  | 0 => hb
  | j + 1 => by rw [G3, jn_len, G3_len n q0 q1 b hb j]
/-- How the making stands. -/
structure Sh (w : World) (g n : Nat) (a0 a1 : ByteArray) (b : List Int) (w' : World) : Prop where
  res : w'.heap[g]? = some (.cells (dia 0 (List.replicate 16 0)) 24 (0, 0))
  out : w'.heap[g + 1]? = some (.cells (dia n b) 24 (0, 0))
  str : w'.heap[g + 1 + 1]? = some (.cells #[.string a0, .string a1] 9 (0, 0))
  lt : g + 1 + 1 < w'.heap.size
  bel : Below g w w'
theorem Sh.set {w w' : World} {g n : Nat} {a0 a1 : ByteArray} {b : List Int} (h : Sh w g n a0 a1 b w') (i : Nat) (x : Int) : Sh w g n a0 a1 (b.set i x) (w'.setCell ⟨g + 1, 1 + i, none⟩ (.int .u8 x)) := by
  refine ⟨(heap_setCell_other w' _ g _ (by show g ≠ g + 1; omega)).trans h.res, ?_, (heap_setCell_other w' _ (g + 1 + 1) _ (by show g + 1 + 1 ≠ g + 1; omega)).trans h.str, ?_, h.bel.setCell (by show g ≤ g + 1; omega) _⟩
  · rw [heap_setCell_same w' (g + 1) (1 + i) _ _ _ h.out, dia_set]
  · have := h.lt
    simpa [World.setCell] using this
theorem Sh.drew {w w' : World} {g n : Nat} {a0 a1 : ByteArray} {b : List Int} (h : Sh w g n a0 a1 b w') : Sh w g n a0 a1 b w'.drew := ⟨h.res, h.out, h.str, h.lt, below_drew1 h.bel⟩
theorem Sh.below {w w' w1 : World} {g n : Nat} {a0 a1 : ByteArray} {b : List Int} (h : Sh w g n a0 a1 b w') (hb : Below w'.heap.size w' w1) : Sh w g n a0 a1 b w1 := by
  have hl := h.lt
  exact ⟨(hb.block _ (by omega)).trans h.res, (hb.block _ (by omega)).trans h.out, (hb.block _ hl).trans h.str, Nat.lt_of_lt_of_le hl (below_size hb), h.bel.trans (hb.mono (by omega))⟩
theorem three (w : World) (a b c : Array Value) (t : TypeId) : (((w.alloc (.cells a t)).alloc (.cells b t)).alloc (.cells c 9)).heap[w.heap.size]? = some (.cells a t (0, 0)) ∧
    (((w.alloc (.cells a t)).alloc (.cells b t)).alloc (.cells c 9)).heap[w.heap.size + 1]? = some (.cells b t (0, 0)) ∧
    (((w.alloc (.cells a t)).alloc (.cells b t)).alloc (.cells c 9)).heap[w.heap.size + 1 + 1]? = some (.cells c 9 (0, 0)) ∧
    (((w.alloc (.cells a t)).alloc (.cells b t)).alloc (.cells c 9)).heap.size = w.heap.size + 1 + 1 + 1 ∧
    Below w.heap.size w (((w.alloc (.cells a t)).alloc (.cells b t)).alloc (.cells c 9)) := by
  have s1 : (w.alloc (.cells a t)).heap.size = w.heap.size + 1 := by simp
  generalize hA : w.alloc (.cells a t) = A at s1
  have s2 : (A.alloc (.cells b t)).heap.size = w.heap.size + 1 + 1 := by simp [s1]
  generalize hB : A.alloc (.cells b t) = B at s2
  have s3 : (B.alloc (.cells c 9)).heap.size = w.heap.size + 1 + 1 + 1 := by simp [s2]
  have n0 : A.heap[w.heap.size]? = some (.cells a t (0, 0)) := by rw [← hA]; exact heap_alloc_new _ _
  have n1 : B.heap[w.heap.size + 1]? = some (.cells b t (0, 0)) := by rw [← hB, ← s1]; exact heap_alloc_new _ _
  have n2 : (B.alloc (.cells c 9)).heap[w.heap.size + 1 + 1]? = some (.cells c 9 (0, 0)) := by rw [← s2]; exact heap_alloc_new _ _
  refine ⟨?_, ?_, n2, s3, ?_⟩
  · rw [heap_alloc_old _ _ (by omega), ← hB, heap_alloc_old _ _ (by omega)]; exact n0
  · rw [heap_alloc_old _ _ (by omega)]; exact n1
  · rw [← hB, ← hA]
    exact (((Below.refl _ w).alloc (Nat.le_refl _) _).alloc (by simp) _).alloc (by simp; omega) _
set_option maxHeartbeats 8000000 in
set_option maxRecDepth 100000 in
theorem ofh_calls (a0 a1 : ByteArray) (ka n : Nat) (p0 p1 q0 q1 : List Int) (h1 : impl_arcs.f ka a0 = some (p0, true)) (h2 : impl_arcs.f ka a1 = some (p1, true)) (h3 : impl_openPoints.f ka a0 = some q0) (h4 : impl_openPoints.f ka a1 = some q1)
    (hn : a0.size = n) (hs : n ≤ 8) (hp0 : ArcN p0 n) (hp1 : ArcN p1 n) (hq0 : ∀ x ∈ q0, 0 ≤ x ∧ x < (n : Int)) (hq1 : ∀ x ∈ q1, 0 ≤ x ∧ x < (n : Int)) (hl : q0.length = q1.length) (hl8 : q0.length ≤ 8) (w : World) :
    Calls Try.prog 12 #[.string a0, .string a1] w fun e w' => e = .returned (.agg (dia n (G3 n q0 q1 (Gs n p0 p1 2) q0.length))) ∧ Below w.heap.size w w' := by
  have HC1 := Aside0.mk (fun W => impl_arcs.calls ka a0 p0 true W h1)
  have HC2 := Aside0.mk (fun W => impl_arcs.calls ka a1 p1 true W h2)
  have HQ0 := Aside0.mk (fun W => impl_openPoints.calls ka a0 q0 W h3)
  have HQ1 := Aside0.mk (fun W => impl_openPoints.calls ka a1 q1 W h4)
  have HP0 := Aside0.mk hp0
  have HP1 := Aside0.mk hp1
  have HM0 := Aside0.mk hq0
  have HM1 := Aside0.mk hq1
  have HSZ := Aside0.mk hs
  have HL := Aside0.mk hl
  have HL8 := Aside0.mk hl8
  have hni : (a0.size : Int) = (n : Int) := by rw [hn]
  have HZ := Aside0.mk (show (Try.prog.info? 24).map (·.size) = some (dia n (G3 n q0 q1 (Gs n p0 p1 2) q0.length)).size by rw [dia_size, G3_len _ _ _ _ (Gs_len n p0 p1 2)]; exact sizeDia)
  have HZ0 := Aside0.mk (show (dia 0 (List.replicate 16 0)).size = (dia n (G3 n q0 q1 (Gs n p0 p1 2) q0.length)).size by rw [dia_size, dia_size, G3_len _ _ _ _ (Gs_len n p0 p1 2)]; rfl)
  clear h1 h2 h3 h4 hp0 hp1 hq0 hq1 hs hl hl8
  go_enter Try.func12, Try.ntmps12
  go_wp2_with fail
  obtain ⟨k0, k1, k2, k3, k4⟩ := three w #[.int .i64 0, .int .u8 0, .int .u8 0, .int .u8 0, .int .u8 0, .int .u8 0, .int .u8 0, .int .u8 0, .int .u8 0, .int .u8 0, .int .u8 0, .int .u8 0, .int .u8 0, .int .u8 0, .int .u8 0, .int .u8 0, .int .u8 0] #[.int .i64 (n : Int), .int .u8 0, .int .u8 0, .int .u8 0, .int .u8 0, .int .u8 0, .int .u8 0, .int .u8 0, .int .u8 0, .int .u8 0, .int .u8 0, .int .u8 0, .int .u8 0, .int .u8 0, .int .u8 0, .int .u8 0, .int .u8 0] #[.string a0, .string a1] 24
  obtain ⟨W0, hW0⟩ : ∃ W0, W0 = ((w.alloc (.cells #[.int .i64 0, .int .u8 0, .int .u8 0, .int .u8 0, .int .u8 0, .int .u8 0, .int .u8 0, .int .u8 0, .int .u8 0, .int .u8 0, .int .u8 0, .int .u8 0, .int .u8 0, .int .u8 0, .int .u8 0, .int .u8 0, .int .u8 0] 24)).alloc (.cells #[.int .i64 (n : Int), .int .u8 0, .int .u8 0, .int .u8 0, .int .u8 0, .int .u8 0, .int .u8 0, .int .u8 0, .int .u8 0, .int .u8 0, .int .u8 0, .int .u8 0, .int .u8 0, .int .u8 0, .int .u8 0, .int .u8 0, .int .u8 0] 24)).alloc (.cells #[.string a0, .string a1] 9) := ⟨_, rfl⟩
  rw [← hW0] at k0 k1 k2 k3 k4 ⊢
  have HST := Aside0.mk (show Sh w w.heap.size n a0 a1 (Gs n p0 p1 0) W0 from ⟨k0, k1, k2, by rw [k3]; omega, k4⟩)
  clear k0 k1 k2 k3 k4 hW0 hn hni
  go_loopg [24] 3 (fun dq v24 w' => ∃ (s : Nat), v24 = .int .i64 (s : Int) ∧ Aside0 (dq + s = 3) ∧ Aside0 (s ≤ 2) ∧ Aside0 (Sh w w.heap.size n a0 a1 (Gs n p0 p1 s) w'))
  case atStart => exact ⟨0, rfl, ⟨rfl⟩, ⟨by omega⟩, HST⟩
  case round =>
    clear HST
    obtain ⟨s, rfl, E1, E2, HST⟩ := hrel
    cases gk with
    | zero => exact absurd E1.out (by have := E2.out; omega)
    | succ k1 =>
      have hsz := HSZ.out
      by_cases d1 : s < 2
      · have d1b : decide ((s : Int) < 2) = true := decide_eq_true (by omega)
        have d1b' : decide (s < 2) = true := decide_eq_true d1
        have ps := eq_true (show (0 : Int) ≤ (s : Int) by omega)
        have qs := eq_true (show (s : Int) < 2 by omega)
        have qs' := eq_true (show s < 2 from d1)
        obtain ⟨ha, p, hcell, hcalls, hp, hG⟩ : ∃ (ha : ByteArray) (p : List Int), wr.cell? ⟨w.heap.size + 1 + 1, s, none⟩ = some (.string ha) ∧ (∀ W, Calls Try.prog 15 #[.string ha] W fun e w' => ∃ v0_ : Value, e = .returned (.tuple #[v0_, .bool true]) ∧ Kd.R (Kd.int .i64) 3 w' W.heap.size (fun _ => True) v0_ p ∧ Below W.heap.size W w') ∧ ArcN p n ∧ Gs n p0 p1 (s + 1) = G1 p (s * n) (Gs n p0 p1 s) n := by
          rcases (show s = 0 ∨ s = 1 by omega) with e | e
          · subst e; exact ⟨a0, p0, by rw [cell_of_row _ _ _ _ _ _ HST.out.str]; rfl, HC1.out, HP0.out, rfl⟩
          · subst e; exact ⟨a1, p1, by rw [cell_of_row _ _ _ _ _ _ HST.out.str]; rfl, HC2.out, HP1.out, rfl⟩
        have HCA := Aside0.mk hcalls
        have HPA := Aside0.mk hp
        have HCN := Aside0.mk (show s * n ≤ n by have h1 : s ≤ 1 := (by omega); calc s * n ≤ 1 * n := Nat.mul_le_mul_right n h1
          _ = n := Nat.one_mul n)
        obtain ⟨c, hc⟩ : ∃ c, s * n = c := ⟨_, rfl⟩
        have hsn : (s : Int) * (n : Int) = (c : Int) := by rw [← hc]; exact (Int.natCast_mul s n).symm
        have hcn0 := HCN.out
        rw [hc] at hG HCN hcn0
        have HCN0 := Aside0.mk hcn0
        clear hcn0
        have HG := Aside0.mk hG
        clear hcalls hp hG hc
        have HBL := Aside0.mk (Gs_len n p0 p1 s)
        generalize Gs n p0 p1 s = b at HST HG HBL
        obtain ⟨Bs, hBs⟩ : ∃ Bs, Bs = wr.heap.size := ⟨_, rfl⟩
        go_wp2_with fail
        refine (HCA.out _).mono ?_
        rintro e w1 ⟨v0, rfl, hr1, hb1⟩
        have HST1 := Aside0.mk (HST.out.below hb1)
        obtain ⟨A, kc, rfl⟩ := Kd.R_slice hr1
        have HR1 := Aside0.mk (Kd.R_mono (ok' := fun k_ => k_ ≠ w.heap.size + 1) (Kd.R_bound hr1) (fun k_ hk => by have h1_ := hk.2.1; have h2_ := HST.out.lt; omega))
        rw [← hBs] at HR1
        clear hr1 hb1 HST hcell hBs HCA
        go_wp2_with fail
        go_loopg [36] n (fun dq v36 w' => ∃ (i : Nat), v36 = .int .i64 (i : Int) ∧ Aside0 (i + dq = n) ∧ Aside0 (Sh w w.heap.size n a0 a1 (G1 p c b i) w') ∧ Aside0 (Kd.R (Kd.int .i64) 3 w' Bs (fun k_ => k_ ≠ w.heap.size + 1) (.slice A p.length kc) p))
        case atStart => exact ⟨0, rfl, ⟨by omega⟩, HST1, HR1⟩
        case round =>
          clear HST1 HR1
          obtain ⟨i, rfl, HI, HST, HR⟩ := hrel
          have hpl := HPA.out.len
          have HPL := Aside0.mk hpl
          cases gk with
          | zero =>
            have hi : i = n := by have := HI.out; omega
            have HST9 := Aside0.mk (show Sh w w.heap.size n a0 a1 (Gs n p0 p1 (s + 1)) wr by have := HST.out; rw [hi] at this; rw [HG.out]; exact this)
            have c1 : decide ((i : Int) < (p.length : Int)) = false := decide_eq_false (by omega)
            have c2 : decide (i < p.length) = false := decide_eq_false (by omega)
            have hws : wrap64 ((s : Int) + 1) = ((s + 1 : Nat) : Int) := by unfold wrap64; omega
            have HWS := Aside0.mk hws
            have HD1 := Aside0.mk d1
            clear hi hpl hws d1
            go_wp2
            go_roundg k1
            case measure => have := E1.out; omega
            case rel => exact ⟨s + 1, (by first | rfl | exact congrArg _ HWS.out), ⟨by have := E1.out; omega⟩, ⟨by have := HD1.out; omega⟩, HST9⟩
          | succ dq =>
            have hi := HI.out
            have hin : i < n := by omega
            have hx := HPA.out.rng i hin
            have c1 : decide ((i : Int) < (p.length : Int)) = true := decide_eq_true (by omega)
            have c2 : decide (i < p.length) = true := decide_eq_true (by omega)
            have p1 := eq_true (show (0 : Int) ≤ (i : Int) by omega)
            have p2 := eq_true (show (i : Int) < (p.length : Int) by omega)
            have p2' := eq_true (show i < p.length by omega)
            have hwi : wrap64 ((i : Int) + 1) = ((i + 1 : Nat) : Int) := by unfold wrap64; omega
            have HWI := Aside0.mk hwi
            obtain ⟨gp, qp, ep, _, _, _⟩ := Kd.R_form HR.out (by omega)
            injection ep with ep _ epc
            subst ep epc
            obtain ⟨ad, ea, hc⟩ := Kd.at_int (Kd.R_reads' HR.out).2.2 (i : Int) (by omega) (by omega)
            cases ea
            rw [show rd p (i : Int) = p.getD i 0 by unfold rd; rw [Int.toNat_natCast], Int.toNat_natCast, Go.WideShapes.add_plain, Nat.zero_add] at hc
            have HBE := Aside0.mk (show G1 p c b (i + 1) = if 0 ≤ p.getD i 0 then (G1 p c b i).set (c + i) ((c : Int) + p.getD i 0) else G1 p c b i from rfl)
            generalize p.getD i 0 = x at hx hc HBE
            obtain ⟨m, hm⟩ : ∃ m, c + i = m := ⟨_, rfl⟩
            obtain ⟨z, hz⟩ : ∃ z, (c : Int) + x = z := ⟨_, rfl⟩
            rw [hm, hz] at HBE
            have hcm : (c : Int) + (i : Int) = (m : Int) := by omega
            have hcn := HCN.out
            have p5 := eq_true (show (0 : Int) ≤ (m : Int) by omega)
            have p6 := eq_true (show (m : Int) < 16 by omega)
            have p6' := eq_true (show m < 16 by omega)
            have yf : wr.frozen? ⟨w.heap.size + 1, 1 + m, none⟩ = false := frozen_of_row _ _ _ _ _ HST.out.out
            have yc : wr.cell? ⟨w.heap.size + 1, 1 + m, none⟩ = some (.int .u8 ((G1 p c b i).getD m 0)) := by rw [cell_of_row _ _ _ _ _ _ HST.out.out]; exact dia_at _ _ m (by rw [G1_len _ _ _ HBL.out]; omega)
            clear hpl hin hwi hm
            by_cases hx0 : 0 ≤ x
            · have d2 : decide (0 ≤ x) = true := decide_eq_true hx0
              have u2 : IntKind.u8.wrap z = z := by have := HCN.out; unfold IntKind.wrap; simp [IntKind.bits, IntKind.signed]; omega
              have u4 : z % 256 = z := by have := HCN.out; omega
              have HB9 := Aside0.mk (show G1 p c b (i + 1) = (G1 p c b i).set m z by rw [HBE.out, if_pos hx0])
              have HST2 := Aside0.mk (HST.out.set m z)
              have HR2 := Aside0.mk (Kd.R_move HR.out (w1 := wr.setCell ⟨w.heap.size + 1, 1 + m, none⟩ (.int .u8 z)) (fun k_ hk => heap_setCell_other wr _ k_ _ hk))
              have hxb : x < (n : Int) := hx.2
              clear HBE hx
              go_wp2
              go_roundg dq
              case measure => omega
              case rel => exact ⟨i + 1, (by first | rfl | exact congrArg _ HWI.out), ⟨by omega⟩, ⟨by rw [HB9.out]; exact HST2.out⟩, HR2⟩
            · have d2 : decide (0 ≤ x) = false := decide_eq_false hx0
              have HB9 := Aside0.mk (show G1 p c b (i + 1) = G1 p c b i by rw [HBE.out, if_neg hx0])
              clear hx0 HBE hx
              go_wp2
              go_roundg dq
              case measure => omega
              case rel => exact ⟨i + 1, (by first | rfl | exact congrArg _ HWI.out), ⟨by omega⟩, ⟨by rw [HB9.out]; exact HST.out⟩, HR⟩
      · have d1b : decide ((s : Int) < 2) = false := decide_eq_false (by omega)
        have d1b' : decide (s < 2) = false := decide_eq_false d1
        have hs2 : s = 2 := by have := E2.out; omega
        have HST := Aside0.mk (show Sh w w.heap.size n a0 a1 (Gs n p0 p1 2) wr by have := HST.out; rw [hs2] at this; exact this)
        clear hs2 d1
        have HBL := Aside0.mk (Gs_len n p0 p1 2)
        obtain ⟨b, hb⟩ : ∃ b, Gs n p0 p1 2 = b := ⟨_, rfl⟩
        rw [hb] at HST HBL HZ HZ0
        have HEQ := Aside0.mk hb
        clear hb hsz
        go_wp2_with fail
        refine (HQ1.out _).mono ?_
        rintro e w1 ⟨v1, rfl, hr1, hb1⟩
        have HST1 := Aside0.mk (HST.out.below hb1)
        obtain ⟨A1, k1', rfl⟩ := Kd.R_slice hr1
        have HR1 := Aside0.mk (Kd.R_mono (ok' := fun k_ => k_ ≠ w.heap.size + 1) (Kd.R_bound hr1) (fun k_ hk => by have h1_ := hk.2.1; have h2_ := HST.out.lt; omega))
        obtain ⟨B1s, hB1⟩ : ∃ B1s, B1s = wr.heap.size := ⟨_, rfl⟩
        rw [← hB1] at HR1
        clear hr1 hb1 HST hB1
        go_wp2_with fail
        refine (HQ0.out _).mono ?_
        rintro e w2 ⟨v0, rfl, hr0, hb0⟩
        have HST2 := Aside0.mk (HST1.out.below hb0)
        obtain ⟨A0, k0', rfl⟩ := Kd.R_slice hr0
        have HR0 := Aside0.mk (Kd.R_mono (ok' := fun k_ => k_ ≠ w.heap.size + 1) (Kd.R_bound hr0) (fun k_ hk => by have h1_ := hk.2.1; have h2_ := HST1.out.lt; omega))
        have HR1 := Aside0.mk (Kd.R_below HR1.out hb0)
        obtain ⟨B0s, hB0⟩ : ∃ B0s, B0s = w1.heap.size := ⟨_, rfl⟩
        rw [← hB0] at HR0
        clear hr0 hb0 HST1 hB0 d1b d1b'
        go_wp2_with fail
        go_loopg [63] q0.length (fun dq v63 w' => ∃ (j : Nat), v63 = .int .i64 (j : Int) ∧ Aside0 (j + dq = q0.length) ∧ Aside0 (Sh w w.heap.size n a0 a1 (G3 n q0 q1 b j) w') ∧ Aside0 (Kd.R (Kd.int .i64) 3 w' B1s (fun k_ => k_ ≠ w.heap.size + 1) (.slice A1 q1.length k1') q1) ∧ Aside0 (Kd.R (Kd.int .i64) 3 w' B0s (fun k_ => k_ ≠ w.heap.size + 1) (.slice A0 q0.length k0') q0))
        case atStart => exact ⟨0, rfl, ⟨by omega⟩, HST2, HR1, HR0⟩
        case round =>
          clear HST2 HR1 HR0
          obtain ⟨j, rfl, HJ, HST, HR1, HR0⟩ := hrel
          cases gk with
          | zero =>
            have hj : j = q0.length := by have := HJ.out; omega
            have HST := Aside0.mk (show Sh w w.heap.size n a0 a1 (G3 n q0 q1 b q0.length) wr by have := HST.out; rw [hj] at this; exact this)
            have c1 : decide ((j : Int) < (q0.length : Int)) = false := decide_eq_false (by omega)
            have c2 : decide (j < q0.length) = false := decide_eq_false (by omega)
            clear hj
            go_wp2_with (first | (refine wpList_load_row rfl 24 _ rfl (w.heap.size + 1) rfl 24 (dia n (G3 n q0 q1 b q0.length)) (0, 0) _ HST.out.out Try.underlying24 rfl HZ.out ?_) | (refine wpList_store_row rfl 24 _ _ rfl w.heap.size (dia n (G3 n q0 q1 b q0.length)) rfl rfl 24 (dia 0 (List.replicate 16 0)) HST.out.res HZ.out HZ0.out (dia_one _ _) ?_))
            refine bodyPost_ret (results_cell_row rfl _ _ w.heap.size 24 _ (0, 0) _ rfl (setRow_heap _ _ _ _ _ _ HST.out.res) Try.underlying24 rfl HZ.out) rfl ⟨by rw [HEQ.out], below_setRow HST.out.bel (Nat.le_refl _)⟩
          | succ dq =>
            have hj := HJ.out
            have hj0 : j < q0.length := by omega
            have hj1 : j < q1.length := by have := HL.out; omega
            have c1 : decide ((j : Int) < (q0.length : Int)) = true := decide_eq_true (by omega)
            have c2 : decide (j < q0.length) = true := decide_eq_true hj0
            have p1 := eq_true (show (0 : Int) ≤ (j : Int) by omega)
            have p2 := eq_true (show (j : Int) < (q0.length : Int) by omega)
            have p2' := eq_true (show j < q0.length from hj0)
            have p3 := eq_true (show (j : Int) < (q1.length : Int) by omega)
            have p3' := eq_true (show j < q1.length from hj1)
            have hwj : wrap64 ((j : Int) + 1) = ((j + 1 : Nat) : Int) := by have := HL8.out; unfold wrap64; omega
            have HWJ := Aside0.mk hwj
            have hx := HM0.out (q0.getD j 0) (by rw [List.getD_eq_getElem?_getD, List.getElem?_eq_getElem hj0]; exact List.getElem_mem _)
            have hy := HM1.out (q1.getD j 0) (by rw [List.getD_eq_getElem?_getD, List.getElem?_eq_getElem hj1]; exact List.getElem_mem _)
            obtain ⟨g1, t1, e1, _, _, _⟩ := Kd.R_form HR1.out (by omega)
            obtain ⟨g0, t0, e0, _, _, _⟩ := Kd.R_form HR0.out (by omega)
            injection e1 with e1 _ e1c
            injection e0 with e0 _ e0c
            subst e1 e0 e1c e0c
            obtain ⟨ad, ea, z0⟩ := Kd.at_int (Kd.R_reads' HR0.out).2.2 (j : Int) (by omega) (by omega)
            obtain ⟨ad2, ea2, z1⟩ := Kd.at_int (Kd.R_reads' HR1.out).2.2 (j : Int) (by omega) (by omega)
            cases ea
            cases ea2
            rw [show rd q0 (j : Int) = q0.getD j 0 by unfold rd; rw [Int.toNat_natCast], Int.toNat_natCast, Go.WideShapes.add_plain, Nat.zero_add] at z0
            rw [show rd q1 (j : Int) = q1.getD j 0 by unfold rd; rw [Int.toNat_natCast], Int.toNat_natCast, Go.WideShapes.add_plain, Nat.zero_add] at z1
            have HBE := Aside0.mk (show G3 n q0 q1 b (j + 1) = jn (G3 n q0 q1 b j) (q0.getD j 0).toNat (n + (q1.getD j 0).toNat) from rfl)
            generalize q0.getD j 0 = x at hx z0 HBE
            generalize q1.getD j 0 = y at hy z1 HBE
            obtain ⟨fx, rfl⟩ := Int.eq_ofNat_of_zero_le hx.1
            obtain ⟨sy, rfl⟩ := Int.eq_ofNat_of_zero_le hy.1
            rw [Int.toNat_natCast, Int.toNat_natCast] at HBE
            have hfx : fx < n := by omega
            have hsy : sy < n := by omega
            obtain ⟨m, hm⟩ : ∃ m, n + sy = m := ⟨_, rfl⟩
            rw [hm] at HBE
            have hns : (n : Int) + (sy : Int) = (m : Int) := by omega
            have HJC := Aside0.mk (joinX_calls (n : Int) (G3 n q0 q1 b j) (G3_len _ _ _ _ HBL.out j) fx m (by have := HSZ.out; omega) (by have := HSZ.out; omega) (w.heap.size + 1) wr HST.out.out)
            have HST2 := Aside0.mk ((HST.out.set fx (m : Int)).set m (fx : Int)).drew
            have mv : ∀ k_, k_ ≠ w.heap.size + 1 → (((wr.setCell ⟨w.heap.size + 1, 1 + fx, none⟩ (.int .u8 (m : Int))).setCell ⟨w.heap.size + 1, 1 + m, none⟩ (.int .u8 (fx : Int))).drew).heap[k_]? = wr.heap[k_]? := fun k_ hk => (heap_setCell_other _ _ k_ _ hk).trans (heap_setCell_other wr _ k_ _ hk)
            have HR12 := Aside0.mk (Kd.R_move HR1.out mv)
            have HR02 := Aside0.mk (Kd.R_move HR0.out mv)
            have hn8 := HSZ.out
            clear hj0 hj1 hwj hx hy hm mv HST HR1 HR0
            go_wp2_with fail
            refine HJC.out.mono ?_
            rintro e w5 ⟨rfl, hw5⟩
            rw [← hw5] at HST2 HR12 HR02
            clear hw5 HJC z0 z1
            go_wp2
            go_roundg dq
            case measure => omega
            case rel => exact ⟨j + 1, (by first | rfl | exact congrArg _ HWJ.out), ⟨by omega⟩, ⟨by rw [HBE.out]; exact HST2.out⟩, HR12, HR02⟩
end Go.Proofs.Yteajmmmaiahmnaa.Hand
