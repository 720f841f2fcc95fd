/- Rows of partitions; all fillings of the places behind the first ones; the contract of spec.l07Fill. Condition: said in the theorem. -/
import Derived.Test.YtcmkibljlfnkbaaHandPar
import Derived.Test.YtcmkibljlfnkbaaHandHalt
import Derived.Deep.AppendLies
import Derived.Maps.AppendAt
namespace Go.Proofs.Ytcmkibljlfnkbaa.Hand
open Go.RowKit Go.Proofs.YtcmkibljlfnkbaaW.PrintWords Go.Proofs.YtcmkibljlfnkbaaW.PrintLast Go.Proofs.YtcmkibljlfnkbaaW.PrintMore
set_option linter.unusedVariables false
set_option linter.unusedSimpArgs false

theorem infoPar : (Try.prog.info? 33).map (fun i => (i.zero, i.size, i.bytes)) = some (some (.agg #[.int .i64 0, .int .u8 0, .int .u8 0, .int .u8 0, .int .u8 0, .int .u8 0, .int .u8 0, .int .u8 0, .int .u8 0]), 9, 16) := by kernel_rfl
/-- Partitions of the size n, as elements of a row. -/
def parK (n : Int) : Kd (List Int) where
  sz := 9
  E := []
  K := fun _ b cs => b.length = 8 ∧ cs = (par n b).toList
  M := fun _ _ _ b cs => b.length = 8 ∧ cs = (par n b).toList
  K_len := fun h => by rw [h.2, Array.length_toList, par_size, h.1]
  K_one := fun {_ b _} h u hu => by
    rw [h.2] at hu
    have := par_one n b
    rw [Array.all_eq_true] at this
    obtain ⟨i, hi, rfl⟩ := List.getElem_of_mem hu
    exact this i (by simpa using hi)
  K_below := fun _ h => h
  K_of_M := fun h => h
  M_mono := fun _ h => h
  M_bound := fun h => h
  M_move := fun _ h => h
  M_lower := fun _ h => h
/-- All fillings: d places are left, from place k on; the next new part. -/
def fl : Nat → Nat → List Int → Nat → List (List Int)
  | 0, _, b, _ => [b]
  | d + 1, k, b, nx => (List.range (nx + 1)).flatMap fun (part : Nat) => fl d (k + 1) (b.set k ((part : Nat) : Int)) (if part = nx then nx + 1 else nx)
/-- .. of the parts below m. -/
def flTo (d k : Nat) (b : List Int) (nx m : Nat) : List (List Int) := (List.range m).flatMap fun (part : Nat) => fl d (k + 1) (b.set k ((part : Nat) : Int)) (if part = nx then nx + 1 else nx)
theorem flTo_succ (d k : Nat) (b : List Int) (nx m : Nat) : flTo d k b nx (m + 1) = flTo d k b nx m ++ fl d (k + 1) (b.set k (m : Int)) (if m = nx then nx + 1 else nx) := by
  unfold flTo
  rw [List.range_succ, List.flatMap_append]
  simp
theorem fl_eq (d k : Nat) (b : List Int) (nx : Nat) : fl (d + 1) k b nx = flTo d k b nx (nx + 1) := rfl
theorem set_set_same (b : List Int) (k : Nat) (x y : Int) : (b.set k x).set k y = b.set k y := by simp
theorem fl_len8 : ∀ (d k : Nat) (b : List Int) (nx : Nat), b.length = 8 → ∀ x ∈ fl d k b nx, x.length = 8 := by
  intro d
  induction d with
  | zero => intro k b nx h x hx; rw [fl, List.mem_singleton] at hx; rw [hx]; exact h
  | succ d ih =>
    intro k b nx h x hx
    rw [fl, List.mem_flatMap] at hx
    obtain ⟨part, _, hx⟩ := hx
    exact ih _ _ _ (by rw [List.length_set]; exact h) x hx
theorem flTo_count (d k nx : Nat) (b : List Int) (c : Nat) (h : ∀ b' nx', nx' ≤ nx + 1 → (fl d (k + 1) b' nx').length ≤ c) : ∀ m, (flTo d k b nx m).length ≤ m * c := by
  intro m
  induction m with
  | zero => simp [flTo]
  | succ m ih =>
    rw [flTo_succ, List.length_append, Nat.succ_mul]
    have := h (b.set k (m : Int)) (if m = nx then nx + 1 else nx) (by split <;> omega)
    omega
/-- So many fillings at most. -/
def cap7 : Nat → Nat
  | 0 => 1
  | d + 1 => 7 * cap7 d
theorem fl_count : ∀ (d k : Nat) (b : List Int) (nx : Nat), nx + d ≤ 6 → (fl d k b nx).length ≤ cap7 d := by
  intro d
  induction d with
  | zero => intro k b nx _; simp [fl, cap7]
  | succ d ih =>
    intro k b nx h
    rw [fl_eq]
    have := flTo_count d k nx b (cap7 d) (fun b' nx' hn => ih (k + 1) b' nx' (by omega)) (nx + 1)
    refine Nat.le_trans this ?_
    show (nx + 1) * cap7 d ≤ 7 * cap7 d
    exact Nat.mul_le_mul_right _ (by omega)
/-- The world has grown, the row of v alone being written; v' is v's row or a new one. -/
structure Grow (w w' : World) (v v' : Value) : Prop where
  g : w.grownBy w' v.ownBlock
  at_ : v'.ownBlock = v.ownBlock ∨ ∃ b, v'.ownBlock = some b ∧ w.heap.size ≤ b
theorem Grow.trans {w w1 w2 : World} {v v1 v2 : Value} (h : Grow w w1 v v1) (k : Grow w1 w2 v1 v2) : Grow w w2 v v2 := by
  have hs := h.g.size
  refine ⟨⟨k.g.os.trans h.g.os, k.g.tape.trans h.g.tape, k.g.output.trans h.g.output, Nat.le_trans h.g.size k.g.size, fun i hi hne => ?_⟩, ?_⟩
  · refine (k.g.block i (by omega) ?_).trans (h.g.block i hi hne)
    rcases h.at_ with e | ⟨b, e, hb⟩
    · rw [e]; exact hne
    · rw [e]; intro he; have := Option.some.inj he; omega
  · rcases k.at_ with e | ⟨b, e, hb⟩
    · rw [e]; exact h.at_
    · exact .inr ⟨b, e, by omega⟩
theorem Grow.refl (w : World) (v : Value) : Grow w w v v := ⟨⟨rfl, rfl, rfl, Nat.le_refl _, fun _ _ _ => rfl⟩, .inl rfl⟩
theorem Grow.alloc (w : World) (v : Value) (o : Obj) : Grow w (w.alloc o) v v := ⟨World.grownBy_alloc w o _, .inl rfl⟩
theorem Grow.set {w w1 : World} {v v1 : Value} (h : Grow w w1 v v1) {p : Addr} (hp : w.heap.size ≤ p.block) (u : Value) : Grow w (w1.setCell p u) v v1 :=
  ⟨⟨h.g.os, h.g.tape, h.g.output, by simp [World.setCell]; exact h.g.size, fun i hi hne => (Below.heap_setCell w1 p u i (by omega)).trans (h.g.block i hi hne)⟩, h.at_⟩
theorem parR_move {n : Int} {e : Nat} {w w1 : World} {base : Nat} {v : Value} {xs : List (List Int)} (h : (parK n).R e w base (fun _ => True) v xs) (hm : ∀ k, v.ownBlock = some k → w1.heap[k]? = w.heap[k]?) : (parK n).R e w1 base (fun _ => True) v xs := by
  obtain ⟨h0, inner, ho, hr⟩ := h
  exact ⟨h0, inner, own_move ho hm, hr⟩
theorem par_row (n : Int) (b : List Int) (k : Nat) (x : Int) (hk : k < b.length) : (par n b).setIfInBounds (1 + k) (.int .u8 x) = par n (b.set k x) := by
  unfold par
  rw [List.setIfInBounds_toArray, Nat.add_comm, List.set_cons_succ, List.map_set]
set_option maxHeartbeats 8000000 in
set_option maxRecDepth 100000 in
theorem fill_calls (N : Nat) (hN : N ≤ 3) (base : Nat) : ∀ (d k nx : Nat) (b : List Int) (v : Value) (xs : List (List Int)) (w : World), k + d = 2 * N → b.length = 8 → nx ≤ k → xs.length + cap7 d ≤ 1000000 → base ≤ w.heap.size → (parK N).R 33 w base (fun _ => True) v xs →
    Calls Try.prog 15 #[v, .agg (par N b), .int .i64 (k : Int), .int .u8 (nx : Int)] w fun e w' => ∃ v', e = .returned v' ∧ (parK N).R 33 w' base (fun _ => True) v' (xs ++ fl d k b nx) ∧ Grow w w' v v' := by
  intro d
  induction d with
  | zero =>
    intro k nx b v xs w hk hb hnx hl hbs hr
    obtain ⟨x0, x1, x2, x3, x4, x5, x6, x7, rfl⟩ := arr8 b hb
    have HR := Aside0.mk hr
    have HBS := Aside0.mk hbs
    have HL := Aside0.mk hl
    have e1 : ((k : Int) == 2 * (N : Int)) = true := beq_iff_eq.mpr (by omega)
    have hkb : k ≤ 6 := by omega
    have hNb : N ≤ 3 := hN
    clear hr hbs hl hk hnx hb
    rw [show par (N : Int) [x0, x1, x2, x3, x4, x5, x6, x7] = #[.int .i64 N, .int .u8 x0, .int .u8 x1, .int .u8 x2, .int .u8 x3, .int .u8 x4, .int .u8 x5, .int .u8 x6, .int .u8 x7] from rfl]
    obtain ⟨Av, cv, ev⟩ := Kd.R_slice HR.out
    subst ev
    go_enter Try.func15, Try.ntmps15
    have HRM := Aside0.mk (parR_move (w1 := w.alloc (.cells #[.int .i64 N, .int .u8 x0, .int .u8 x1, .int .u8 x2, .int .u8 x3, .int .u8 x4, .int .u8 x5, .int .u8 x6, .int .u8 x7] 33)) HR.out (fun k hk => Below.heap_alloc w _ k (Kd.R_lt HR.out k hk)))
    go_wp2_with ((with_reducible refine gate_builtin (b := .append) (xs := #[.tmp 16, .tmp 18]) rfl ?_); at_builtin; refine Kd.R_append (parK N) (w0 := w.alloc (.cells #[.int .i64 N, .int .u8 x0, .int .u8 x1, .int .u8 x2, .int .u8 x3, .int .u8 x4, .int .u8 x5, .int .u8 x6, .int .u8 x7] 33)) base rfl (.tmp 16) (.tmp 18) 22 33 (.agg #[.int .i64 0, .int .u8 0, .int .u8 0, .int .u8 0, .int .u8 0, .int .u8 0, .int .u8 0, .int .u8 0, .int .u8 0]) 16 rfl Try.underlying22 infoPar rfl (show 0 < 9 by omega) (by omega) (.slice Av xs.length cv) xs [x0, x1, x2, x3, x4, x5, x6, x7] [.int .i64 N, .int .u8 x0, .int .u8 x1, .int .u8 x2, .int .u8 x3, .int .u8 x4, .int .u8 x5, .int .u8 x6, .int .u8 x7] (fun _ => True) (fun _ => False) rfl ?aX ?aP (fun _ hk => hk.elim) (fun _ _ => trivial) ?aO ?aB ?aS ?aL ?_; (case aX => simp [Act.eval, World.setCell]); (case aP => exact ⟨rfl, rfl⟩); (case aB => exact Below.refl _ _); (case aO => exact HRM.out); (case aS => simp; have := HBS.out; omega); (case aL => have := HL.out; unfold cap7 at this; omega); intro v108 w14 ho hb hg hat; have n1_ := Aside0.mk ho; have n2_ := Aside0.mk (Grow.trans (Grow.alloc w (.slice Av xs.length cv) _) ⟨hg, hat⟩); clear ho hb hg hat)
    go_ret
    exact ⟨v108, rfl, n1_.out, n2_.out⟩
  | succ d ih =>
    intro k nx b v xs w hk hb hnx hl hbs hr
    have HR := Aside0.mk hr
    have HBS := Aside0.mk hbs
    have HL := Aside0.mk hl
    have HK := Aside0.mk hk
    have HNX := Aside0.mk hnx
    have HB8 := Aside0.mk hb
    have HI := Aside0.mk ih
    have e1 : ((k : Int) == 2 * (N : Int)) = false := beq_eq_false_iff_ne.mpr (by omega)
    have hkb : k ≤ 5 := by omega
    have hNb : N ≤ 3 := hN
    have hnb : nx ≤ 5 := by omega
    have HKB := Aside0.mk hkb
    have c0 : (w.alloc (.cells (par N b) 33)).cell? ⟨w.heap.size, 0, none⟩ = some (.int .i64 (N : Int)) := by rw [World.cell?_alloc_new]; simp [par]
    have HV := Aside0.mk (Kd.R_lt HR.out)
    have HA0 := Aside0.mk (show (w.alloc (.cells (par N b) 33)).heap[w.heap.size]? = some (.cells (par N b) 33 (0, 0)) from heap_alloc_new w _)
    have HR0 := Aside0.mk (parR_move (w1 := w.alloc (.cells (par N b) 33)) HR.out (fun k hk => Below.heap_alloc w _ k (Kd.R_lt HR.out k hk)))
    have HG0 := Aside0.mk (Grow.alloc w v (.cells (par N b) 33))
    have HN0 := Aside0.mk (show v.ownBlock ≠ some w.heap.size from fun e => by have := HV.out _ e; omega)
    have HI8 := Aside0.mk (sizePar)
    clear hr hbs hl hk hnx hb ih HR HV
    obtain ⟨B, hB⟩ : ∃ B, B = w.heap.size := ⟨_, rfl⟩
    rw [← hB] at HA0 HN0
    go_enter Try.func15, Try.ntmps15
    have HBw := Aside0.mk hB
    clear hB
    go_wp2
    rw [← HBw.out]
    clear c0
    go_loopg [0, 9, 10] (nx + 1) (fun kq s0 v9 _ w' => ∃ (v0 : Value) (m : Nat) (bc : List Int), v0 = s0 ∧ v9 = .int .u8 (m : Int) ∧ Aside0 (kq + m = nx + 1) ∧ Aside0 (bc.length = 8) ∧ Aside0 (∀ x : Int, bc.set k x = b.set k x) ∧ Aside0 (w'.heap[B]? = some (.cells (par N bc) 33 (0, 0))) ∧ Aside0 ((parK N).R 33 w' base (fun _ => True) v0 (xs ++ flTo d k b nx m)) ∧ Aside0 (Grow w w' v v0) ∧ Aside0 (v0.ownBlock ≠ some B))
    case atStart => exact ⟨v, 0, b, rfl, rfl, ⟨rfl⟩, HB8, ⟨fun _ => rfl⟩, HA0, ⟨by rw [show flTo d k b nx 0 = [] from rfl, List.append_nil]; exact HR0.out⟩, HG0, HN0⟩
    case round =>
      clear HA0 HR0 HG0 HN0
      obtain ⟨v0, m, bc, rfl, rfl, E1, HB8', HS, HA, HR, HG, HN⟩ := hrel
      cases gk with
      | zero =>
        have d1b : decide ((m : Int) ≤ (nx : Int)) = false := decide_eq_false (by have := E1.out; omega)
        have d1b' : decide (m ≤ nx) = false := decide_eq_false (by have := E1.out; omega)
        have hm : m = nx + 1 := by have := E1.out; omega
        rw [hm] at HR
        have HM := Aside0.mk hm
        clear hm
        go_wp2
        go_ret
        exact ⟨_, rfl, HR.out, HG.out⟩
      | succ k1 =>
        have d1b : decide ((m : Int) ≤ (nx : Int)) = true := decide_eq_true (by have := E1.out; omega)
        have d1b' : decide (m ≤ nx) = true := decide_eq_true (by have := E1.out; omega)
        have hmn : m ≤ nx := by have := E1.out; omega
        have hc := HA.out
        have HA1 := Aside0.mk (show (wr.setCell ⟨B, 1 + k, none⟩ (.int .u8 (m : Int))).heap[B]? = some (.cells (par N (b.set k (m : Int))) 33 (0, 0)) by
          rw [heap_setCell_same wr B (1 + k) _ _ _ HA.out, par_row _ _ _ _ (by have := HB8'.out; have := HKB.out; omega), HS.out])
        have HR1 := Aside0.mk (parR_move (w1 := wr.setCell ⟨B, 1 + k, none⟩ (.int .u8 (m : Int))) HR.out (fun j hj => Below.heap_setCell _ _ _ _ (fun e => HN.out (by rw [hj]; exact congrArg some e))))
        have hk8 := eq_true (show (k : Int) < 8 by have := HKB.out; omega)
        have hk8' := eq_true (show k < 8 by have := HKB.out; omega)
        have hk0 := eq_true (show 0 ≤ (k : Int) by omega)
        have hcell : wr.cell? ⟨B, 1 + k, none⟩ = some (.int .u8 (bc.getD k 0)) := by
          rw [cell_of_row wr B (1 + k) _ _ _ hc]
          unfold par
          rw [List.getElem?_toArray, Nat.add_comm, List.getElem?_cons_succ, List.getElem?_map, List.getD_eq_getElem?_getD, List.getElem?_eq_getElem (by have := HB8'.out; have := HKB.out; omega)]
          rfl
        have hfro : wr.frozen? ⟨B, 1 + k, none⟩ = false := frozen_of_row wr B (1 + k) _ _ hc
        have hm5 : m ≤ 5 := by omega
        have HU := Aside0.mk (show IntKind.u8.wrap ((m : Int) + 1) = ((m + 1 : Nat) : Int) by unfold IntKind.wrap; simp [IntKind.bits, IntKind.signed]; omega)
        have hu2 : IntKind.u8.wrap ((nx : Int) + 1) = (nx : Int) + 1 := by unfold IntKind.wrap; simp [IntKind.bits, IntKind.signed]; omega
        have HCNT := Aside0.mk (show (xs ++ flTo d k b nx m).length + cap7 d ≤ 1000000 by
          have h1 := HL.out
          unfold cap7 at h1
          have h2 := flTo_count d k nx b (cap7 d) (fun b' nx' hn' => fl_count d (k + 1) b' nx' (by have := HK.out; have := HNX.out; omega)) m
          have h3 : m * cap7 d ≤ 5 * cap7 d := Nat.mul_le_mul_right _ hm5
          rw [List.length_append]
          omega)
        have HBS1 := Aside0.mk (show base ≤ (wr.setCell ⟨B, 1 + k, none⟩ (.int .u8 (m : Int))).heap.size by have h1 := HBS.out; have h2 := HG.out.g.size; simp [World.setCell]; omega)
        clear hc hmn
        by_cases cmn : m = nx
        · have cb : ((m : Int) == (nx : Int)) = true := beq_iff_eq.mpr (by omega)
          have cb' : (m == nx) = true := beq_iff_eq.mpr cmn
          have HCM := Aside0.mk cmn
          clear cmn
          have HC := Aside0.mk (HI.out (k + 1) (nx + 1) (b.set k (m : Int)) v0 (xs ++ flTo d k b nx m) (wr.setCell ⟨B, 1 + k, none⟩ (.int .u8 (m : Int))) (by have := HK.out; omega) (by rw [List.length_set]; exact HB8.out) (by have := HNX.out; omega) HCNT.out HBS1.out HR1.out)
          have HFL := Aside0.mk (show xs ++ flTo d k b nx (m + 1) = (xs ++ flTo d k b nx m) ++ fl d (k + 1) (b.set k (m : Int)) (nx + 1) by rw [flTo_succ, if_pos HCM.out, List.append_assoc])
          have HGS := Aside0.mk (HG.out.set (p := ⟨B, 1 + k, none⟩) (by rw [HBw.out]; exact Nat.le_refl _) (.int .u8 (m : Int)))
          have hi8 : (Try.prog.info? 33).map (·.size) = some (par N (b.set k (m : Int))).size := by rw [par_size, List.length_set, HB8.out]; exact sizePar
          have HI9 := Aside0.mk hi8
          have HKK := Aside0.mk (show (((k + 1 : Nat) : Int)) = (k : Int) + 1 by omega)
          have HBLT := Aside0.mk (show B < wr.heap.size from (Array.getElem?_eq_some_iff.1 HA.out).1)
          clear hi8
          go_wp2_with (refine wpList_load_row_halt rfl 33 _ rfl B rfl 33 (par N (b.set k (m : Int))) (0, 0) _ HA1.out Try.underlying33 rfl HI9.out ?_)
          intro W5 hW5
          obtain rfl := hW5.eq
          refine Halt.mk ?_
          go_wp2_with fail
          refine HC.out.mono ?_
          rintro e w2 ⟨v2, rfl, hr2, hg2⟩
          have HR2 := Aside0.mk hr2
          have HG2 := Aside0.mk hg2
          have hN2 : v2.ownBlock ≠ some B := by
            rcases hg2.at_ with e_ | ⟨z, e_, hz⟩
            · rw [e_]; exact HN.out
            · rw [e_]; intro h_; have h1_ := Option.some.inj h_; have h2_ := HBLT.out; simp [World.setCell] at hz; omega
          have HN2 := Aside0.mk hN2
          have HA2 := Aside0.mk (show w2.heap[B]? = some (.cells (par N (b.set k (m : Int))) 33 (0, 0)) from (hg2.g.block B (by have := HBLT.out; simp [World.setCell]; exact this) (Ne.symm HN.out)).trans HA1.out)
          clear hr2 hg2 hN2 HC
          go_wp2
          go_roundg k1
          case measure => omega
          case rel => exact ⟨v2, m + 1, b.set k (m : Int), rfl, congrArg (Value.int .u8) (show (m : Int) + 1 = ((m + 1 : Nat) : Int) by omega), ⟨by have := E1.out; omega⟩, ⟨by rw [List.length_set]; exact HB8.out⟩, ⟨fun x => set_set_same _ _ _ _⟩, HA2, ⟨by rw [HFL.out]; exact HR2.out⟩, ⟨HGS.out.trans HG2.out⟩, HN2⟩
        · have cb : ((m : Int) == (nx : Int)) = false := beq_eq_false_iff_ne.mpr (by omega)
          have cb' : (m == nx) = false := beq_eq_false_iff_ne.mpr cmn
          have HCM := Aside0.mk cmn
          clear cmn
          have HC := Aside0.mk (HI.out (k + 1) nx (b.set k (m : Int)) v0 (xs ++ flTo d k b nx m) (wr.setCell ⟨B, 1 + k, none⟩ (.int .u8 (m : Int))) (by have := HK.out; omega) (by rw [List.length_set]; exact HB8.out) (by have := HNX.out; omega) HCNT.out HBS1.out HR1.out)
          have HFL := Aside0.mk (show xs ++ flTo d k b nx (m + 1) = (xs ++ flTo d k b nx m) ++ fl d (k + 1) (b.set k (m : Int)) nx by rw [flTo_succ, if_neg HCM.out, List.append_assoc])
          have HGS := Aside0.mk (HG.out.set (p := ⟨B, 1 + k, none⟩) (by rw [HBw.out]; exact Nat.le_refl _) (.int .u8 (m : Int)))
          have hi8 : (Try.prog.info? 33).map (·.size) = some (par N (b.set k (m : Int))).size := by rw [par_size, List.length_set, HB8.out]; exact sizePar
          have HI9 := Aside0.mk hi8
          have HKK := Aside0.mk (show (((k + 1 : Nat) : Int)) = (k : Int) + 1 by omega)
          have HBLT := Aside0.mk (show B < wr.heap.size from (Array.getElem?_eq_some_iff.1 HA.out).1)
          clear hi8
          go_wp2_with (refine wpList_load_row_halt rfl 33 _ rfl B rfl 33 (par N (b.set k (m : Int))) (0, 0) _ HA1.out Try.underlying33 rfl HI9.out ?_)
          intro W5 hW5
          obtain rfl := hW5.eq
          refine Halt.mk ?_
          go_wp2_with fail
          refine HC.out.mono ?_
          rintro e w2 ⟨v2, rfl, hr2, hg2⟩
          have HR2 := Aside0.mk hr2
          have HG2 := Aside0.mk hg2
          have hN2 : v2.ownBlock ≠ some B := by
            rcases hg2.at_ with e_ | ⟨z, e_, hz⟩
            · rw [e_]; exact HN.out
            · rw [e_]; intro h_; have h1_ := Option.some.inj h_; have h2_ := HBLT.out; simp [World.setCell] at hz; omega
          have HN2 := Aside0.mk hN2
          have HA2 := Aside0.mk (show w2.heap[B]? = some (.cells (par N (b.set k (m : Int))) 33 (0, 0)) from (hg2.g.block B (by have := HBLT.out; simp [World.setCell]; exact this) (Ne.symm HN.out)).trans HA1.out)
          clear hr2 hg2 hN2 HC
          go_wp2
          go_roundg k1
          case measure => omega
          case rel => exact ⟨v2, m + 1, b.set k (m : Int), rfl, congrArg (Value.int .u8) (show (m : Int) + 1 = ((m + 1 : Nat) : Int) by omega), ⟨by have := E1.out; omega⟩, ⟨by rw [List.length_set]; exact HB8.out⟩, ⟨fun x => set_set_same _ _ _ _⟩, HA2, ⟨by rw [HFL.out]; exact HR2.out⟩, ⟨HGS.out.trans HG2.out⟩, HN2⟩
end Go.Proofs.Ytcmkibljlfnkbaa.Hand
