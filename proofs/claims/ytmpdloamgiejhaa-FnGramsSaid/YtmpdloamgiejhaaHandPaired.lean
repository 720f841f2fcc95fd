/- The contract of impl.paired, for two half diagrams. Condition: said in the theorem. -/
import Derived.Test.YtmpdloamgiejhaaHandPair
import Derived.Test.YtmpdloamgiejhaaHandP
namespace Go.Proofs.Ytmpdloamgiejhaa.Hand
open Go.RowKit Go.Proofs.YtmpdloamgiejhaaW.PrintWords Go.Proofs.YtmpdloamgiejhaaW.PrintLast Go.Proofs.YtmpdloamgiejhaaW.PrintMore
set_option linter.unusedVariables false
set_option linter.unusedSimpArgs false

theorem infoBool : (Try.prog.info? 4).map (fun i => (i.zero, i.size, i.bytes)) = some (some (.bool false), 1, 1) := by kernel_rfl
/-- A slice of marks of the call's own. -/
structure Sn (w : World) (B gs cap n : Nat) (m : List Bool) : Prop where
  len : m.length = n
  row : Kd.R Kd.bool 4 w B (fun _ => True) (.slice (some ⟨gs, 0, none⟩) n cap) m
theorem Sn.cell {w : World} {B gs cap n : Nat} {m : List Bool} (h : Sn w B gs cap n m) (i : Nat) (hi : i < n) : w.cell? ⟨gs, i, none⟩ = some (.bool (m.getD i false)) := by
  have := (Kd.R_celln (enc := Value.bool) (h1 := fun _ => rfl) false h.row (i : Int) (by omega) (by omega)).1
  rw [Int.toNat_natCast] at this
  exact this
theorem Sn.frozen {w : World} {B gs cap n : Nat} {m : List Bool} (h : Sn w B gs cap n m) (i : Nat) (hi : i < n) : w.frozen? ⟨gs, i, none⟩ = false := by
  have := (Kd.R_celln (enc := Value.bool) (h1 := fun _ => rfl) false h.row (i : Int) (by omega) (by omega)).2
  rw [Int.toNat_natCast] at this
  exact this
theorem Sn.set {w : World} {B gs cap n : Nat} {m : List Bool} (h : Sn w B gs cap n m) (i : Nat) (v : Bool) : Sn (w.setCell ⟨gs, i, none⟩ (.bool v)) B gs cap n (m.set i v) := by
  refine ⟨by rw [List.length_set]; exact h.len, ?_⟩
  have := Kd.R_putn (enc := Value.bool) (h1 := fun _ => rfl) h.row (i : Int) v
  rw [Int.toNat_natCast] at this
  exact this
theorem Sn.lt {w : World} {B gs cap n : Nat} {m : List Bool} (h : Sn w B gs cap n m) (hn : 0 < n) : gs < w.heap.size := by
  obtain ⟨g, c, e, _, hl, _⟩ := Kd.R_form h.row (by rw [h.len]; exact hn)
  have : gs = g := by simp at e; omega
  omega
theorem Sn.below {w w' : World} {B gs cap n : Nat} {m : List Bool} (h : Sn w B gs cap n m) (hb : Below w.heap.size w w') : Sn w' B gs cap n m := ⟨h.len, Kd.R_below h.row hb⟩
/-- The side of a number. -/
def gp (p0 p1 : List Int) (o : Nat) : List Int := if o = 0 then p0 else p1
/-- Along a line from an open place. -/
def gl0 : Nat → List Int → List Int → List Bool → Nat → Nat → Option (List Bool × Nat)
  | 0, _, _, _, _, _ => none
  | k + 1, p0, p1, m, x, o => if 0 ≤ (gp p0 p1 o).getD x 0 then gl0 k p0 p1 (m.set ((gp p0 p1 o).getD x 0).toNat true) ((gp p0 p1 o).getD x 0).toNat (1 - o) else some (m, o)
def gl1 (k : Nat) (p0 p1 : List Int) (s : Nat) : List Int → List Bool → Bool → Option (List Bool × Bool)
  | [], m, f => some (m, f)
  | x :: q, m, f => (gl0 k p0 p1 (m.set x.toNat true) x.toNat (1 - s)).bind fun r => gl1 k p0 p1 s q r.1 (f && (r.2 != s))
def gl4 : Nat → List Int → List Int → List Bool → Nat → Nat → Option (List Bool)
  | 0, _, _, _, _, _ => none
  | k + 1, p0, p1, m, x, s => if m.getD x false = true then some m else (if 0 ≤ (gp p0 p1 s).getD x 0 then
      (if (m.set x true).getD ((gp p0 p1 s).getD x 0).toNat false = true then some (m.set x true) else gl4 k p0 p1 (m.set x true) ((gp p0 p1 s).getD x 0).toNat (1 - s)) else none)
def gl3 : Nat → Nat → List Int → List Int → List Bool → Nat → Nat → Option Nat
  | 0, _, _, _, _, _, _ => none
  | k + 1, n, p0, p1, m, l, i => if i < n then (if m.getD i false = true then gl3 k n p0 p1 m l (i + 1) else (gl4 k p0 p1 m i 0).bind fun m' => gl3 k n p0 p1 m' (l + 1) (i + 1)) else some l
def gl2 (k n : Nat) (p0 p1 q0 q1 : List Int) : Nat → List Bool → Bool → Option (Bool × Nat)
  | 0, m, f => (gl1 k p0 p1 0 q0 m f).bind fun r => (gl1 k p0 p1 1 q1 r.1 r.2).bind fun r2 => (gl3 k n p0 p1 r2.1 0 0).bind fun l => some (r2.2, l)
  | 1, m, f => (gl1 k p0 p1 1 q1 m f).bind fun r2 => (gl3 k n p0 p1 r2.1 0 0).bind fun l => some (r2.2, l)
  | _ + 2, m, f => (gl3 k n p0 p1 m 0 0).bind fun l => some (f, l)
theorem gl2_step (k n : Nat) (p0 p1 q0 q1 : List Int) (s : Nat) (hs : s < 2) (m : List Bool) (f : Bool) : gl2 k n p0 p1 q0 q1 s m f = (gl1 k p0 p1 s (if s = 0 then q0 else q1) m f).bind fun r => gl2 k n p0 p1 q0 q1 (s + 1) r.1 r.2 := by
  match s, hs with
  | 0, _ => rfl
  | 1, _ => rfl
theorem gl0_mono {k k' : Nat} (h : k ≤ k') {p0 p1 : List Int} {m : List Bool} {x o : Nat} {r : List Bool × Nat} (he : gl0 k p0 p1 m x o = some r) : gl0 k' p0 p1 m x o = some r := by
  induction k generalizing k' m x o with
  | zero => simp [gl0] at he
  | succ k ih =>
    obtain ⟨k', rfl⟩ : ∃ j, k' = j + 1 := ⟨k' - 1, by omega⟩
    simp only [gl0] at he ⊢
    by_cases c : 0 ≤ (gp p0 p1 o).getD x 0
    · rw [if_pos c] at he ⊢
      exact ih (by omega) he
    · rw [if_neg c] at he ⊢
      exact he
theorem gl4_mono {k k' : Nat} (h : k ≤ k') {p0 p1 : List Int} {m : List Bool} {x s : Nat} {r : List Bool} (he : gl4 k p0 p1 m x s = some r) : gl4 k' p0 p1 m x s = some r := by
  induction k generalizing k' m x s with
  | zero => simp [gl4] at he
  | succ k ih =>
    obtain ⟨k', rfl⟩ : ∃ j, k' = j + 1 := ⟨k' - 1, by omega⟩
    simp only [gl4] at he ⊢
    by_cases c : m.getD x false = true
    · rw [if_pos c] at he ⊢
      exact he
    · rw [if_neg c] at he ⊢
      by_cases c2 : 0 ≤ (gp p0 p1 s).getD x 0
      · rw [if_pos c2] at he ⊢
        by_cases c3 : (m.set x true).getD ((gp p0 p1 s).getD x 0).toNat false = true
        · rw [if_pos c3] at he ⊢
          exact he
        · rw [if_neg c3] at he ⊢
          exact ih (by omega) he
      · rw [if_neg c2] at he
        simp at he
/-- Arcs of n places, -1 for open ones. -/
structure ArcN (p : List Int) (n : Nat) : Prop where
  len : p.length = n
  rng : ∀ j, j < n → -1 ≤ p.getD j 0 ∧ p.getD j 0 < n
set_option maxHeartbeats 8000000 in
set_option maxRecDepth 100000 in
theorem gpair_calls (k : Nat) (a0 a1 : ByteArray) (p0 p1 : List Int) (ka : Nat) (h1 : impl_arcs.f ka a0 = some (p0, true)) (h2 : impl_arcs.f ka a1 = some (p1, true)) (hs : a0.size ≤ 8) (hs1 : 1 ≤ a0.size)
    (q0 q1 : List Int) (h3 : impl_openPoints.f ka a0 = some q0) (h4 : impl_openPoints.f ka a1 = some q1) (hp0 : ArcN p0 a0.size) (hp1 : ArcN p1 a0.size) (hq0 : ∀ x ∈ q0, 0 ≤ x ∧ x < (a0.size : Int)) (hq1 : ∀ x ∈ q1, 0 ≤ x ∧ x < (a0.size : Int)) (hl0 : q0.length ≤ 8) (hl1 : q1.length ≤ 8)
    (r : Bool) (l : Nat) (h : gl2 k a0.size p0 p1 q0 q1 0 (List.replicate a0.size false) true = some (r, l)) (w : World) :
    Calls Try.prog 22 #[.string a0, .string a1] w fun e w' => e = .returned (.tuple #[.bool r, .int .i64 (l : Int)]) ∧ Below w.heap.size w w' := by
  have HC1 := Aside0.mk (fun W => impl_arcs.calls ka a0 p0 true W h1)
  have HC2 := Aside0.mk (fun W => impl_arcs.calls ka a1 p1 true W h2)
  have HQ0 := Aside0.mk (fun W => impl_openPoints.calls ka a0 q0 W h3)
  have HQ1C := Aside0.mk (fun W => impl_openPoints.calls ka a1 q1 W h4)
  have HP0A := Aside0.mk hp0
  have HP1A := Aside0.mk hp1
  have HQ0A := Aside0.mk hq0
  have HQ1A := Aside0.mk hq1
  have HH := Aside0.mk h
  have HL0Q := Aside0.mk hl0
  have HL1Q := Aside0.mk hl1
  clear h1 h2 h3 h4 hp0 hp1 hq0 hq1 h hl0 hl1
  go_enter Try.func22, Try.ntmps22
  go_wp2_with fail
  refine (HC1.out _).mono ?_
  rintro e w1 ⟨v0, rfl, hr1, hb1⟩
  have HS1 := Aside0.mk (show w1.heap[w.heap.size]? = some (.cells #[.slice none 0 0, .slice none 0 0] 62 (0, 0)) from (hb1.block _ (by simp)).trans (heap_alloc_new w _))
  have HB1 := Aside0.mk (below_step ((Below.refl _ w).alloc (Nat.le_refl _) _) hb1)
  have HR1 := Aside0.mk (Kd.R_bound hr1)
  have HL1 := Aside0.mk (show w.heap.size < w1.heap.size from Nat.lt_of_lt_of_le (by simp) (below_size hb1))
  have e1 : w1.cell? ⟨w.heap.size, 0, none⟩ = some (.slice none 0 0) := by rw [cell_of_row _ _ _ _ _ _ HS1.out]; rfl
  have z1 : w1.frozen? ⟨w.heap.size, 0, none⟩ = false := frozen_of_row _ _ _ _ _ HS1.out
  obtain ⟨A0, c0, rfl⟩ := Kd.R_slice hr1
  have HSA := Aside0.mk (heap_setCell_same w1 w.heap.size 0 _ _ (.slice A0 p0.length c0) HS1.out)
  have HBA := Aside0.mk (HB1.out.setCell (p := ⟨w.heap.size, 0, none⟩) (Nat.le_refl _) (.slice A0 p0.length c0))
  have HRA := Aside0.mk (Kd.R_move HR1.out (w1 := w1.setCell ⟨w.heap.size, 0, none⟩ (.slice A0 p0.length c0)) (fun k_ hk => Below.heap_setCell _ _ _ _ (by have := hk.2.1; simp; simp at this; omega)))
  clear hr1 hb1 HR1 HC1
  go_wp2_with fail
  refine (HC2.out _).mono ?_
  rintro e w2 ⟨v1, rfl, hr2, hb2⟩
  have HS2 := Aside0.mk (show w2.heap[w.heap.size]? = some (.cells #[.slice A0 p0.length c0, .slice none 0 0] 62 (0, 0)) from (hb2.block _ (by have := HL1.out; simpa [World.setCell] using this)).trans HSA.out)
  have HB2 := Aside0.mk (below_step HBA.out hb2)
  have HL2 := Aside0.mk (show w.heap.size < w2.heap.size from Nat.lt_of_lt_of_le HL1.out (show w1.heap.size ≤ w2.heap.size by have := below_size hb2; simpa [World.setCell] using this))
  have HR2 := Aside0.mk (Kd.R_bound hr2)
  have HR1 := Aside0.mk (Kd.R_below HRA.out hb2)
  have e2 : w2.cell? ⟨w.heap.size, 1, none⟩ = some (.slice none 0 0) := by rw [cell_of_row _ _ _ _ _ _ HS2.out]; rfl
  have z2 : w2.frozen? ⟨w.heap.size, 1, none⟩ = false := frozen_of_row _ _ _ _ _ HS2.out
  obtain ⟨A1, c1, rfl⟩ := Kd.R_slice hr2
  have HSB := Aside0.mk (show (w2.setCell ⟨w.heap.size, 1, none⟩ (.slice A1 p1.length c1)).heap[w.heap.size]? = some (.cells #[.slice A0 p0.length c0, .slice A1 p1.length c1] 62 (0, 0)) from heap_setCell_same w2 w.heap.size 1 _ _ (.slice A1 p1.length c1) HS2.out)
  have HBB := Aside0.mk (HB2.out.setCell (p := ⟨w.heap.size, 1, none⟩) (Nat.le_refl _) (.slice A1 p1.length c1))
  have HQ1 := Aside0.mk (show (w1.setCell ⟨w.heap.size, 0, none⟩ (.slice A0 p0.length c0)).heap.size = w1.heap.size by simp [World.setCell])
  have HLQ := HL1
  have HRB1 := Aside0.mk (Kd.R_move HR1.out (w1 := w2.setCell ⟨w.heap.size, 1, none⟩ (.slice A1 p1.length c1)) (fun k_ hk => Below.heap_setCell _ _ _ _ (by have := hk.2.1; simp; simp at this; omega)))
  have HRB2 := Aside0.mk (Kd.R_move HR2.out (w1 := w2.setCell ⟨w.heap.size, 1, none⟩ (.slice A1 p1.length c1)) (fun k_ hk => Below.heap_setCell _ _ _ _ (by have h_ := hk.2.1; rw [HQ1.out] at h_; have h2_ := HLQ.out; exact fun e_ => by have e2_ : k_ = w.heap.size := e_; omega)))
  have HCP0 := Aside0.mk (Kd.R_reads' HRB1.out).2.2
  have HCP1 := Aside0.mk (Kd.R_reads' HRB2.out).2.2
  have HLB := Aside0.mk (show w.heap.size < (w2.setCell ⟨w.heap.size, 1, none⟩ (.slice A1 p1.length c1)).heap.size by have := HL2.out; simpa [World.setCell] using this)
  clear hr2 hb2 HR2 HR1 HRA HSA HBA HS1 HB1 HL1 HS2 HB2 HL2 HRB1 HRB2 e1 z1
  have hsz0 : (0 : Int) ≤ (a0.size : Int) := by omega
  have HSZ := Aside0.mk hs
  have HN1 := Aside0.mk hs1
  obtain ⟨R0, hR0⟩ : ∃ R0, R0 = w2.setCell ⟨w.heap.size, 1, none⟩ (.slice A1 p1.length c1) := ⟨_, rfl⟩
  rw [← hR0] at HSB HBB HCP0 HCP1 HLB
  have HR0 := Aside0.mk hR0
  clear hR0 hs hs1
  have HBR := Aside0.mk (show Below R0.heap.size R0 (w2.setCell ⟨w.heap.size, 1, none⟩ (.slice A1 p1.length c1)) by rw [HR0.out]; exact Below.refl _ _)
  have HBS := Aside0.mk (show R0.heap.size ≤ (w2.setCell ⟨w.heap.size, 1, none⟩ (.slice A1 p1.length c1)).heap.size by rw [HR0.out]; exact Nat.le_refl _)
  go_wp2_with (first | ((with_reducible refine gate_dst (N := 32) rfl ?_); refine Kd.R_make Kd.bool (w0 := R0) R0.heap.size 4 rfl (N := 32) rfl 65 _ _ rfl (a0.size : Int) rfl rfl Try.underlying65 (.bool false) 1 infoBool rfl (by decide) (by omega) false (ok := fun _ => True) (okp := fun _ => True) rfl (fun _ hk => hk) trivial hsz0 (by rw [Int.toNat_natCast]; have := HSZ.out; omega) HBR.out HBS.out ?_; intro vs w3 hmk hbm hgm hnew; clear hgm hnew; rw [Int.toNat_natCast] at hmk; obtain ⟨gs, cs, rfl, hgs, _, _⟩ := Kd.R_form hmk (by rw [List.length_replicate]; have := HN1.out; omega); rw [List.length_replicate] at hmk ⊢; have SN := Aside0.mk (show Sn w3 R0.heap.size gs cs a0.size (List.replicate a0.size false) from ⟨List.length_replicate, hmk⟩); have HB3 := Aside0.mk hbm; have HGS := Aside0.mk hgs; clear hmk hbm hgs))
  clear HC2 e2 z2 HQ1 HLQ hsz0 HR0 HBR HBS
  go_loopg [8, 33] 3 (fun kq v8 v33 w' => ∃ (s : Nat) (m : List Bool) (f : Bool), v8 = .bool f ∧ v33 = .int .i64 (s : Int) ∧ Aside0 (kq + s = 3) ∧ Aside0 (s ≤ 2) ∧ Aside0 (gl2 k a0.size p0 p1 q0 q1 s m f = some (r, l)) ∧ Aside0 (Sn w' R0.heap.size gs cs a0.size m) ∧ Aside0 (Below R0.heap.size R0 w'))
  case atStart => exact ⟨0, List.replicate a0.size false, true, rfl, rfl, ⟨rfl⟩, ⟨by omega⟩, HH, SN, HB3⟩
  case round =>
    clear HH SN HB3
    obtain ⟨s, m, f, rfl, rfl, E1, E2, HP, HS, HB⟩ := hrel
    cases gk with
    | zero => exact absurd E1.out (by have := E2.out; omega)
    | succ k1 =>
      by_cases d1 : s < 2
      · have d1b : decide ((s : Int) < 2) = true := decide_eq_true (by omega)
        have d1b' : decide (s < 2) = true := decide_eq_true d1
        have hp := HP.out
        rw [gl2_step _ _ _ _ _ _ _ d1] at hp
        obtain ⟨⟨m', f'⟩, hp1, hp2⟩ := Option.bind_eq_some_iff.1 hp
        simp only at hp2
        have HP1 := Aside0.mk hp1
        have HP2 := Aside0.mk hp2
        have HD1 := Aside0.mk d1
        have ps : (0 ≤ (s : Int)) = True := eq_true (by omega)
        have qs : ((s : Int) < 2) = True := eq_true (by omega)
        have qs' : (s < 2) = True := eq_true d1
        clear hp hp1 hp2 HP d1
        go_wp2_with fail
        have HQS := Aside0.mk (show ∀ (hh : s < [Value.string a0, Value.string a1].length) (W : World), Calls Try.prog 40 #[[Value.string a0, Value.string a1][s]] W fun e w' => ∃ v0_ : Value, e = .returned (v0_) ∧ Kd.R (Kd.int .i64) 3 w' W.heap.size (fun _ => True) v0_ (if s = 0 then q0 else q1) ∧ Below W.heap.size W w' by
          intro hh W
          rcases (show s = 0 ∨ s = 1 by have := HD1.out; omega) with e | e
          · subst e; exact HQ0.out W
          · subst e; exact HQ1C.out W)
        have HQA := Aside0.mk (show ∀ x ∈ (if s = 0 then q0 else q1), 0 ≤ x ∧ x < (a0.size : Int) by
          rcases (show s = 0 ∨ s = 1 by have := HD1.out; omega) with e | e
          · subst e; exact HQ0A.out
          · subst e; exact HQ1A.out)
        have HQL := Aside0.mk (show (if s = 0 then q0 else q1).length ≤ 8 by split <;> first | exact HL0Q.out | exact HL1Q.out)
        generalize (if s = 0 then q0 else q1) = q at HP1 HQS HQA HQL
        refine (HQS.out (by have := HD1.out; simp; omega) _).mono ?_
        rintro e w4 ⟨v4, rfl, hr4, hb4⟩
        have HLW := Aside0.mk (HS.out.lt (by have := HN1.out; omega))
        have HS4 := Aside0.mk ((HS.out.below ((Below.refl _ wr).alloc (Nat.le_refl _) _)).below hb4)
        have HB4 := Aside0.mk (show Below R0.heap.size R0 w4 from below_step (below_alloc HB.out _) hb4)
        have HR4 := Aside0.mk (Kd.R_mono (ok' := fun k_ => k_ ≠ gs) (Kd.R_bound hr4) (fun k_ hk => by have h_ := hk.2.1; have h2_ := HLW.out; rw [show (wr.alloc (.cells #[Value.string a0, Value.string a1] 9)).heap.size = wr.heap.size + 1 by simp] at h_; omega))
        obtain ⟨Aq, cq, rfl⟩ := Kd.R_slice hr4
        obtain ⟨QB, hQB⟩ : ∃ QB, QB = (wr.alloc (.cells #[Value.string a0, Value.string a1] 9)).heap.size := ⟨_, rfl⟩
        rw [← hQB] at HR4
        clear hQB
        clear hr4 hb4 HS HB HQS
        have fh1 := Aside0.mk (show wrap64 (1 - (s : Int)) = ((1 - s : Nat) : Int) by have := HD1.out; unfold wrap64; omega)
        have fh1' := fh1.out
        have HSD := Aside0.mk (show ∀ o, o ≤ 1 → ∃ (Ao : Option Addr) (co : Nat), R0.cell? ⟨w.heap.size, o, none⟩ = some (.slice Ao a0.size co) ∧ Kd.C (Kd.int .i64) R0 Ao a0.size (gp p0 p1 o) ∧ ArcN (gp p0 p1 o) a0.size by
          intro o ho
          rcases (show o = 0 ∨ o = 1 by omega) with e | e
          · subst e
            refine ⟨A0, c0, ?_, ?_, HP0A.out⟩
            · rw [cell_of_row _ _ _ _ _ _ HSB.out, ← HP0A.out.len]; rfl
            · have := HCP0.out; rw [HP0A.out.len] at this; exact this
          · subst e
            refine ⟨A1, c1, ?_, ?_, HP1A.out⟩
            · rw [cell_of_row _ _ _ _ _ _ HSB.out, ← HP1A.out.len]; rfl
            · have := HCP1.out; rw [HP1A.out.len] at this; exact this)
        have HQD := Aside0.mk (show gl1 k p0 p1 s (q.drop 0) m f = some (m', f') from HP1.out)
        go_wp2_with fail
        go_loopg [8, 12, 13, 44] (q.length + 1) (fun kq v8 v12 v13 v44 w' => ∃ (j : Nat) (m1 : List Bool) (f1 : Bool), v8 = .bool f1 ∧ v44 = .int .i64 (j : Int) ∧ Aside0 (kq + j = q.length + 1) ∧ Aside0 (j ≤ q.length) ∧ Aside0 (gl1 k p0 p1 s (q.drop j) m1 f1 = some (m', f')) ∧ Aside0 (Sn w' R0.heap.size gs cs a0.size m1) ∧ Aside0 (Kd.R (Kd.int .i64) 3 w' QB (fun k_ => k_ ≠ gs) (.slice Aq q.length cq) q) ∧ Aside0 (Below R0.heap.size R0 w'))
        case atStart => exact ⟨0, m, f, rfl, rfl, ⟨rfl⟩, ⟨Nat.zero_le _⟩, HQD, HS4, HR4, HB4⟩
        case round =>
          clear HQD HP1 HS4 HR4 HB4 fh1' d1b d1b'
          obtain ⟨j, m1, f1, rfl, rfl, F1, F2, F3, FS, FR, FB⟩ := hrel
          cases gk with
          | zero => exact absurd F1.out (by have := F2.out; omega)
          | succ k2 =>
            by_cases d2 : j < q.length
            · have d2b : decide ((j : Int) < (q.length : Int)) = true := decide_eq_true (by omega)
              have d2b' : decide (j < q.length) = true := decide_eq_true d2
              have f3 := F3.out
              rw [List.drop_eq_getElem_cons d2] at f3
              simp only [gl1] at f3
              obtain ⟨⟨m3, o3⟩, hg0, f4⟩ := Option.bind_eq_some_iff.1 f3
              simp only at f4
              have F3' := Aside0.mk f4
              have hx := HQA.out q[j] (List.getElem_mem d2)
              have ev : rd q (j : Int) = q[j] := by
                unfold rd
                rw [Int.toNat_natCast, List.getD_eq_getElem?_getD]
                simp [d2]
              obtain ⟨ad, ea, hxc⟩ := Kd.at_int (Kd.R_reads' FR.out).2.2 (j : Int) (by omega) (by omega)
              cases ea
              rw [Int.toNat_natCast, ev] at hxc
              obtain ⟨x, hxx⟩ := Int.eq_ofNat_of_zero_le hx.1
              rw [hxx, Int.toNat_natCast] at hg0
              rw [hxx] at hxc
              have HXN := Aside0.mk (show x < a0.size by rw [hxx] at hx; omega)
              have HG0 := Aside0.mk hg0
              have KL0 := gl0_mono (Nat.le_refl k) hg0
              have KLK := Aside0.mk (Nat.le_refl k)
              have HJB := Aside0.mk d2
              clear f3 f4 hg0 F3 ev hxx hx d2
              have pj : (0 ≤ (j : Int)) = True := eq_true (by omega)
              have qj : ((j : Int) < (q.length : Int)) = True := eq_true (by have := HJB.out; omega)
              have qj' : (j < q.length) = True := eq_true HJB.out
              have px : (0 ≤ (x : Int)) = True := eq_true (by omega)
              have qx : ((x : Int) < (a0.size : Int)) = True := eq_true (by have := HXN.out; omega)
              have qx' : (x < a0.size) = True := eq_true HXN.out
              have hm := FS.out.cell x HXN.out
              have hf := FS.out.frozen x HXN.out
              have s1 := Aside0.mk (FS.out.set x true)
              have r1 := Aside0.mk (Kd.R_step FR.out (w1 := wr.setCell ⟨gs, x, none⟩ (.bool true)) (fun k_ hk _ => Below.heap_setCell _ _ _ _ hk))
              have b1 := Aside0.mk (FB.out.setCell (p := ⟨gs, x, none⟩) HGS.out (.bool true))
              have fh1' := fh1.out
              clear FS FR FB
              go_wp2_with fail
              go_loopg [12, 13] k (fun kq v12 v13 w' => ∃ (y o : Nat) (m2 : List Bool), v12 = .int .i64 (y : Int) ∧ v13 = .int .i64 (o : Int) ∧ Aside0 (gl0 kq p0 p1 m2 y o = some (m3, o3)) ∧ Aside0 (kq ≤ k) ∧ Aside0 (y < a0.size) ∧ Aside0 (o ≤ 1) ∧ Aside0 (Sn w' R0.heap.size gs cs a0.size m2) ∧ Aside0 (Kd.R (Kd.int .i64) 3 w' QB (fun k_ => k_ ≠ gs) (.slice (some ad) q.length cq) q) ∧ Aside0 (Below R0.heap.size R0 w'))
              case atStart => exact ⟨x, 1 - s, m1.set x true, rfl, (by first | rfl | exact congrArg (Value.int .i64) fh1.out), ⟨KL0⟩, KLK, HXN, ⟨by omega⟩, s1, r1, b1⟩
              case round =>
                clear HG0 KL0 s1 r1 b1 hm hf hxc px qx qx'
                obtain ⟨y, o, m2, rfl, rfl, G1, G2, HY, HO, GS, GR, GB⟩ := hrel
                cases gk with
                | zero => exact absurd G1.out (by simp [gl0])
                | succ k3 =>
                  have H := G1.out
                  clear G1
                  simp only [gl0] at H
                  obtain ⟨Ao, co, hcell, hC, hA⟩ := HSD.out o HO.out
                  obtain ⟨ao, eao, hyc⟩ := Kd.at_int hC (y : Int) (by omega) (by have := HY.out; omega)
                  cases eao
                  have erd : rd (gp p0 p1 o) (y : Int) = (gp p0 p1 o).getD y 0 := by unfold rd; rw [Int.toNat_natCast]
                  rw [Int.toNat_natCast, erd] at hyc
                  have hrg := hA.rng y HY.out
                  replace hyc := (GB.out.cell (World.block_lt_of_cell? R0 _ hyc)).trans hyc
                  replace hcell := (GB.out.cell (World.block_lt_of_cell? R0 _ hcell)).trans hcell
                  have HGP := Aside0.mk (show ∀ z : Int, (gp p0 p1 o).getD y 0 = z → True from fun _ _ => trivial)
                  generalize (gp p0 p1 o).getD y 0 = z at H hyc hrg
                  clear hC hA erd HGP
                  have py : (0 ≤ (y : Int)) = True := eq_true (by omega)
                  have qy : ((y : Int) < (a0.size : Int)) = True := eq_true (by have := HY.out; omega)
                  have qy' : (y < a0.size) = True := eq_true HY.out
                  have po : (0 ≤ (o : Int)) = True := eq_true (by omega)
                  have qo : ((o : Int) < 2) = True := eq_true (by have := HO.out; omega)
                  have qo' : (o < 2) = True := eq_true (by have := HO.out; omega)
                  by_cases c5 : 0 ≤ z
                  · rw [if_pos c5] at H
                    have c5b : decide (0 ≤ z) = true := decide_eq_true c5
                    obtain ⟨zN, rfl⟩ := Int.eq_ofNat_of_zero_le c5
                    rw [Int.toNat_natCast] at H
                    have HZN := Aside0.mk (show zN < a0.size by omega)
                    have H2' := Aside0.mk H
                    clear H c5 hrg
                    have hm2 := GS.out.cell zN HZN.out
                    have hf2 := GS.out.frozen zN HZN.out
                    have s2 := Aside0.mk (GS.out.set zN true)
                    have r2 := Aside0.mk (Kd.R_step GR.out (w1 := wr.setCell ⟨gs, zN, none⟩ (.bool true)) (fun k_ hk _ => Below.heap_setCell _ _ _ _ hk))
                    have b2 := Aside0.mk (GB.out.setCell (p := ⟨gs, zN, none⟩) HGS.out (.bool true))
                    have pz : (0 ≤ (zN : Int)) = True := eq_true (by omega)
                    have qz : ((zN : Int) < (a0.size : Int)) = True := eq_true (by have := HZN.out; omega)
                    have qz' : (zN < a0.size) = True := eq_true HZN.out
                    have fh2 : wrap64 (1 - (o : Int)) = ((1 - o : Nat) : Int) := by have := HO.out; unfold wrap64; omega
                    clear GS GR GB
                    go_wp2_with fail
                    go_roundg k3
                    case measure => have := G2.out; omega
                    case rel => exact ⟨zN, 1 - o, m2.set zN true, rfl, (by first | rfl | exact congrArg (Value.int .i64) fh2), H2', ⟨by have := G2.out; omega⟩, HZN, ⟨by omega⟩, s2, r2, b2⟩
                  · rw [if_neg c5] at H
                    have c5b : decide (0 ≤ z) = false := decide_eq_false c5
                    obtain ⟨rfl, rfl⟩ := (Prod.mk.injEq _ _ _ _ ▸ Option.some.inj H)
                    clear H c5 hrg
                    obtain ⟨bq, hbq⟩ : ∃ bq : Bool, (o != s) = bq := ⟨_, rfl⟩
                    have hb1 : (((o : Nat) : Int) != ((s : Nat) : Int)) = bq := by
                      rw [← hbq]
                      by_cases e : o = s
                      · subst e; simp
                      · rw [bne_iff_ne.mpr (show ((o : Nat) : Int) ≠ ((s : Nat) : Int) by omega), bne_iff_ne.mpr e]
                    have hb2 : (((o : Nat) : Int) == ((s : Nat) : Int)) = !bq := by rw [← hb1]; simp [bne]
                    have hb3 : (o == s) = !bq := by rw [← hbq]; simp [bne]
                    rw [hbq] at F3'
                    cases f1 with
                    | true =>
                      go_wp2_with fail
                      go_roundg k2
                      case measure => have := F1.out; omega
                      case rel => exact ⟨j + 1, m2, true && bq, (by first | rfl | simp), (congrArg (Value.int .i64) (show _ = ((j + 1 : Nat) : Int) by have := HJB.out; have := HQL.out; first | rfl | omega | (unfold wrap64; omega))), ⟨by have := F1.out; omega⟩, ⟨by have := HJB.out; omega⟩, F3', GS, GR, GB⟩
                    | false =>
                      go_wp2_with fail
                      go_roundg k2
                      case measure => have := F1.out; omega
                      case rel => exact ⟨j + 1, m2, false && bq, (by first | rfl | simp), (congrArg (Value.int .i64) (show _ = ((j + 1 : Nat) : Int) by have := HJB.out; have := HQL.out; first | rfl | omega | (unfold wrap64; omega))), ⟨by have := F1.out; omega⟩, ⟨by have := HJB.out; omega⟩, F3', GS, GR, GB⟩
            · have d2b : decide ((j : Int) < (q.length : Int)) = false := decide_eq_false (by omega)
              have d2b' : decide (j < q.length) = false := decide_eq_false d2
              have ej : j = q.length := by have := F2.out; omega
              have f3 := F3.out
              rw [ej, List.drop_length] at f3
              simp only [gl1] at f3
              obtain ⟨rfl, rfl⟩ := (Prod.mk.injEq _ _ _ _ ▸ Option.some.inj f3)
              clear f3 F3 ej d2
              go_wp2_with fail
              go_roundg k1
              case measure => have := E1.out; omega
              case rel => exact ⟨s + 1, m1, f1, rfl, (congrArg (Value.int .i64) (show _ = ((s + 1 : Nat) : Int) by have := HD1.out; first | rfl | omega | (unfold wrap64; omega))), ⟨by have := E1.out; omega⟩, ⟨by have := HD1.out; omega⟩, HP2, FS, FB⟩
      · have d1b : decide ((s : Int) < 2) = false := decide_eq_false (by omega)
        have d1b' : decide (s < 2) = false := decide_eq_false d1
        have es : s = 2 := by have := E2.out; omega
        subst es
        clear d1
        have hp := HP.out
        simp only [gl2] at hp
        obtain ⟨lf, hp1, hp2⟩ := Option.bind_eq_some_iff.1 hp
        obtain ⟨rfl, rfl⟩ := (Prod.mk.injEq _ _ _ _ ▸ Option.some.inj hp2)
        have HP3 := Aside0.mk hp1
        clear hp hp1 hp2 HP
        have HSD := Aside0.mk (show ∀ o, o ≤ 1 → ∃ (Ao : Option Addr) (co : Nat), R0.cell? ⟨w.heap.size, o, none⟩ = some (.slice Ao a0.size co) ∧ Kd.C (Kd.int .i64) R0 Ao a0.size (gp p0 p1 o) ∧ ArcN (gp p0 p1 o) a0.size by
          intro o ho
          rcases (show o = 0 ∨ o = 1 by omega) with e | e
          · subst e
            refine ⟨A0, c0, ?_, ?_, HP0A.out⟩
            · rw [cell_of_row _ _ _ _ _ _ HSB.out, ← HP0A.out.len]; rfl
            · have := HCP0.out; rw [HP0A.out.len] at this; exact this
          · subst e
            refine ⟨A1, c1, ?_, ?_, HP1A.out⟩
            · rw [cell_of_row _ _ _ _ _ _ HSB.out, ← HP1A.out.len]; rfl
            · have := HCP1.out; rw [HP1A.out.len] at this; exact this)
        go_wp2_with fail
        go_loopg [9, 14, 81] k (fun kq v9 v14 v81 w' => ∃ (i c : Nat) (m1 : List Bool), v9 = .int .i64 (c : Int) ∧ v81 = .int .i64 (i : Int) ∧ Aside0 (gl3 kq a0.size p0 p1 m1 c i = some lf) ∧ Aside0 (kq ≤ k) ∧ Aside0 (c ≤ i) ∧ Aside0 (i ≤ a0.size) ∧ Aside0 (Sn w' R0.heap.size gs cs a0.size m1) ∧ Aside0 (Below R0.heap.size R0 w'))
        case atStart => exact ⟨0, 0, m, rfl, rfl, HP3, ⟨Nat.le_refl _⟩, ⟨Nat.le_refl _⟩, ⟨Nat.zero_le _⟩, HS, HB⟩
        case round =>
          clear HP3 HS HB
          obtain ⟨i, c, m1, rfl, rfl, F1, F2, FC, FI, FS, FB⟩ := hrel
          cases gk with
          | zero => exact absurd F1.out (by simp [gl3])
          | succ k2 =>
            have H := F1.out
            clear F1
            simp only [gl3] at H
            by_cases c1 : i < a0.size
            · rw [if_pos c1] at H
              have c1b : decide ((i : Int) < (a0.size : Int)) = true := decide_eq_true (by omega)
              have c1b' : decide (i < a0.size) = true := decide_eq_true c1
              have HI8 := Aside0.mk c1
              have q2 : ((i : Int) < (a0.size : Int)) = True := eq_true (by omega)
              have q2' : (i < a0.size) = True := eq_true c1
              have p2 : (0 ≤ (i : Int)) = True := eq_true (by omega)
              have hm := FS.out.cell i c1
              clear c1
              by_cases c2 : m1.getD i false = true
              · rw [if_pos c2] at H
                rw [c2] at hm
                have H' := Aside0.mk H
                clear H c2
                go_wp2_with fail
                go_roundg k2
                case measure => have := F2.out; omega
                case rel => exact ⟨i + 1, c, m1, rfl, (congrArg (Value.int .i64) (show _ = ((i + 1 : Nat) : Int) by have := HI8.out; have := HSZ.out; first | rfl | omega | (unfold wrap64; omega))), H', ⟨by have := F2.out; omega⟩, ⟨by have := FC.out; omega⟩, ⟨by have := HI8.out; omega⟩, FS, FB⟩
              · rw [if_neg c2] at H
                rw [Bool.not_eq_true] at c2
                rw [c2] at hm
                obtain ⟨m3, hl4, H2⟩ := Option.bind_eq_some_iff.1 H
                have H' := Aside0.mk H2
                have KL0 := gl4_mono (show k2 ≤ k by have := F2.out; omega) hl4
                have KLK := Aside0.mk (Nat.le_refl k)
                have HW1 := Aside0.mk (show wrap64 ((c : Int) + 1) = ((c + 1 : Nat) : Int) by have := FC.out; have := HI8.out; have := HSZ.out; unfold wrap64; omega)
                clear H H2 c2 hl4
                go_wp2_with fail
                go_loopg [15, 16] k (fun kq v15 v16 w' => ∃ (sd y : Nat) (m2 : List Bool), v15 = .int .i64 (sd : Int) ∧ v16 = .int .i64 (y : Int) ∧ Aside0 (gl4 kq p0 p1 m2 y sd = some m3) ∧ Aside0 (kq ≤ k) ∧ Aside0 (y < a0.size) ∧ Aside0 (sd ≤ 1) ∧ Aside0 (Sn w' R0.heap.size gs cs a0.size m2) ∧ Aside0 (Below R0.heap.size R0 w'))
                case atStart => exact ⟨0, i, m1, rfl, rfl, ⟨KL0⟩, KLK, HI8, ⟨by omega⟩, FS, FB⟩
                case round =>
                  clear FS FB hm KL0
                  obtain ⟨sd, y, m2, rfl, rfl, G1, G2, HY, HO, GS, GB⟩ := hrel
                  cases gk with
                  | zero => exact absurd G1.out (by simp [gl4])
                  | succ k3 =>
                    have H := G1.out
                    clear G1
                    simp only [gl4] at H
                    have hm := GS.out.cell y HY.out
                    have py : (0 ≤ (y : Int)) = True := eq_true (by omega)
                    have qy : ((y : Int) < (a0.size : Int)) = True := eq_true (by have := HY.out; omega)
                    have qy' : (y < a0.size) = True := eq_true HY.out
                    by_cases c5 : m2.getD y false = true
                    · rw [if_pos c5] at H
                      rw [c5] at hm
                      obtain rfl := Option.some.inj H
                      clear H c5
                      go_wp2_with fail
                      go_roundg k2
                      case measure => have := F2.out; omega
                      case rel => exact ⟨i + 1, c + 1, m2, (by first | rfl | exact congrArg (Value.int .i64) HW1.out), (congrArg (Value.int .i64) (show _ = ((i + 1 : Nat) : Int) by have := HI8.out; have := HSZ.out; first | rfl | omega | (unfold wrap64; omega))), H', ⟨by have := F2.out; omega⟩, ⟨by have := FC.out; omega⟩, ⟨by have := HI8.out; omega⟩, GS, GB⟩
                    · rw [if_neg c5] at H
                      rw [Bool.not_eq_true] at c5
                      rw [c5] at hm
                      clear c5
                      have hf := GS.out.frozen y HY.out
                      have s1 := Aside0.mk (GS.out.set y true)
                      have b1 := Aside0.mk (GB.out.setCell (p := ⟨gs, y, none⟩) HGS.out (.bool true))
                      obtain ⟨Ao, co, hcell, hC, hA⟩ := HSD.out sd HO.out
                      obtain ⟨ao, eao, hyc⟩ := Kd.at_int hC (y : Int) (by omega) (by have := HY.out; omega)
                      cases eao
                      have erd : rd (gp p0 p1 sd) (y : Int) = (gp p0 p1 sd).getD y 0 := by unfold rd; rw [Int.toNat_natCast]
                      rw [Int.toNat_natCast, erd] at hyc
                      have hrg := hA.rng y HY.out
                      replace hyc := (b1.out.cell (World.block_lt_of_cell? R0 _ hyc)).trans hyc
                      replace hcell := (b1.out.cell (World.block_lt_of_cell? R0 _ hcell)).trans hcell
                      generalize (gp p0 p1 sd).getD y 0 = z at H hyc hrg
                      clear hC hA erd
                      have po : (0 ≤ (sd : Int)) = True := eq_true (by omega)
                      have qo : ((sd : Int) < 2) = True := eq_true (by have := HO.out; omega)
                      have qo' : (sd < 2) = True := eq_true (by have := HO.out; omega)
                      by_cases c6 : 0 ≤ z
                      · rw [if_pos c6] at H
                        obtain ⟨zN, rfl⟩ := Int.eq_ofNat_of_zero_le c6
                        rw [Int.toNat_natCast] at H
                        have HZN := Aside0.mk (show zN < a0.size by omega)
                        have hm2 := s1.out.cell zN HZN.out
                        have pz : (0 ≤ (zN : Int)) = True := eq_true (by omega)
                        have qz : ((zN : Int) < (a0.size : Int)) = True := eq_true (by have := HZN.out; omega)
                        have qz' : (zN < a0.size) = True := eq_true HZN.out
                        have fh2 : wrap64 (1 - (sd : Int)) = ((1 - sd : Nat) : Int) := by have := HO.out; unfold wrap64; omega
                        clear c6 hrg GS GB
                        by_cases c7 : (m2.set y true).getD zN false = true
                        · rw [if_pos c7] at H
                          rw [c7] at hm2
                          obtain rfl := Option.some.inj H
                          clear H c7
                          go_wp2_with fail
                          go_roundg k2
                          case measure => have := F2.out; omega
                          case rel => exact ⟨i + 1, c + 1, m2.set y true, (by first | rfl | exact congrArg (Value.int .i64) HW1.out), (congrArg (Value.int .i64) (show _ = ((i + 1 : Nat) : Int) by have := HI8.out; have := HSZ.out; first | rfl | omega | (unfold wrap64; omega))), H', ⟨by have := F2.out; omega⟩, ⟨by have := FC.out; omega⟩, ⟨by have := HI8.out; omega⟩, s1, b1⟩
                        · rw [if_neg c7] at H
                          rw [Bool.not_eq_true] at c7
                          rw [c7] at hm2
                          have H2' := Aside0.mk H
                          clear H c7
                          go_wp2_with fail
                          go_roundg k3
                          case measure => have := G2.out; omega
                          case rel => exact ⟨1 - sd, zN, m2.set y true, (by first | rfl | exact congrArg (Value.int .i64) fh2), rfl, H2', ⟨by have := G2.out; omega⟩, HZN, ⟨by omega⟩, s1, b1⟩
                      · rw [if_neg c6] at H
                        simp at H
            · rw [if_neg c1] at H
              have c1b : decide ((i : Int) < (a0.size : Int)) = false := decide_eq_false (by omega)
              have c1b' : decide (i < a0.size) = false := decide_eq_false c1
              obtain rfl := Option.some.inj H
              clear H c1
              go_wp2_with fail
              go_ret2
              exact ⟨rfl, HBB.out.trans (FB.out.mono (below_size HBB.out))⟩
end Go.Proofs.Ytmpdloamgiejhaa.Hand
