/- The contract of spec.IsIrreduciblePair: for every two texts it answers as the plain function 'spec_IsIrreduciblePair.f' tells it. No condition. -/
import Derived.Test.YtopcnhppbmmbbaaHandWalk
import Derived.Test.YtopcnhppbmmbbaaHandP
namespace Go.Proofs.Ytopcnhppbmmbbaa.Hand
open Go.RowKit Go.Proofs.YtopcnhppbmmbbaaW.PrintWords Go.Proofs.YtopcnhppbmmbbaaW.PrintLast Go.Proofs.YtopcnhppbmmbbaaW.PrintMore
set_option linter.unusedVariables false
set_option linter.unusedSimpArgs false

def inB (o : List Int) (F T I : Int) : Bool := decide (F ≤ rd o I) && decide (rd o I ≤ T)
def closeds (o1 o2 : List Int) (F T : Int) (j : Nat) : Bool := (List.range j).all (fun (d : Nat) => inB o1 F T (F + (d : Int)) && inB o2 F T (F + (d : Int)))
def closedB (o1 o2 : List Int) (n F T : Int) : Bool := decide (T - F + 1 < n) && closeds o1 o2 F T (T - F + 1).toNat
def rowB (o1 o2 : List Int) (n F : Int) (d : Nat) : Bool := (List.range d).all (fun (e : Nat) => !closedB o1 o2 n F (F + (e : Int)))
def irrB (o1 o2 : List Int) (n : Int) (f : Nat) : Bool := (List.range f).all (fun (e : Nat) => rowB o1 o2 n (e : Int) (n - (e : Int)).toNat)
theorem closeds_succ (o1 o2 : List Int) (F T : Int) (j : Nat) : closeds o1 o2 F T (j + 1) = (closeds o1 o2 F T j && (inB o1 F T (F + (j : Int)) && inB o2 F T (F + (j : Int)))) := by
  unfold closeds
  rw [List.range_succ, List.all_append]
  simp
theorem rowB_succ (o1 o2 : List Int) (n F : Int) (d : Nat) : rowB o1 o2 n F (d + 1) = (rowB o1 o2 n F d && !closedB o1 o2 n F (F + (d : Int))) := by
  unfold rowB
  rw [List.range_succ, List.all_append]
  simp
theorem irrB_succ (o1 o2 : List Int) (n : Int) (f : Nat) : irrB o1 o2 n (f + 1) = (irrB o1 o2 n f && rowB o1 o2 n (f : Int) (n - (f : Int)).toNat) := by
  unfold irrB
  rw [List.range_succ, List.all_append]
  simp
theorem closeds_false {o1 o2 : List Int} {F T : Int} {i n : Nat} (h : i ≤ n) (hf : closeds o1 o2 F T i = false) : closeds o1 o2 F T n = false := by
  induction n with
  | zero => obtain rfl : i = 0 := by omega
            exact hf
  | succ n ih =>
    by_cases e : i = n + 1
    · rw [← e]; exact hf
    · rw [closeds_succ, ih (by omega)]; rfl
theorem irr_false {o1 o2 : List Int} {n : Int} {f d : Nat} (hf : (f : Int) < n) (hd : (f : Int) + (d : Int) < n) (h : closedB o1 o2 n (f : Int) ((f : Int) + (d : Int)) = true) : irrB o1 o2 n n.toNat = false := by
  unfold irrB
  rw [List.all_eq_false]
  refine ⟨f, List.mem_range.2 (by omega), ?_⟩
  unfold rowB
  rw [Bool.not_eq_true, List.all_eq_false]
  refine ⟨d, List.mem_range.2 (by omega), ?_⟩
  rw [h]
  simp
theorem l01In_is (x lo hi : Int) (b : Bool) (hb : (decide (lo ≤ x) && decide (x ≤ hi)) = b) (W : World) : Calls Try.prog 39 #[.int .i64 x, .int .i64 lo, .int .i64 hi] W fun e W' => e = .returned (.bool b) ∧ ∃ q, W' = W.drewN q := by
  have hf : spec_l01In.f x lo hi = some b := by
    unfold spec_l01In.f
    subst hb
    by_cases h : x ≥ lo
    · rw [if_pos h, decide_eq_true (show lo ≤ x from h)]; simp
    · rw [if_neg h, decide_eq_false (show ¬ lo ≤ x from h)]; simp
  exact (spec_l01In.calls x lo hi b W hf).mono fun _ _ h => ⟨h.1, h.2.out⟩
/-- spec.IsIrreduciblePair in plain words. -/
def spec_IsIrreduciblePair.f (k : Nat) (a0 a1 : ByteArray) : Option (Bool × Int) := (spec_l08Code.f k a0 a1).bind fun c => if c = 0 then ((spec_l08Arcs.f k a0).bind fun A => (spec_l08Arcs.f k a1).bind fun B => if a0.size ≤ 12 then some (irrB A.1 B.1 (a0.size : Int) a0.size, 0) else none) else some (false, c)
theorem spec_IsIrreduciblePair.mono : ∀ a0 a1 k, LeO (spec_IsIrreduciblePair.f k a0 a1) (spec_IsIrreduciblePair.f (k + 1) a0 a1) := by
  intro a0 a1 k
  unfold spec_IsIrreduciblePair.f
  repeat' first
      | (with_reducible exact spec_l08Code.mono _ _ _)
      | (with_reducible exact spec_l08Arcs.mono _ _)
      | (with_reducible exact LeO.refl _)
      | (with_reducible exact LeO.none _)
      | (with_reducible refine LeO.ite ?_ ?_)
      | (with_reducible refine LeO.bind ?_ (fun _ => ?_))
set_option maxHeartbeats 8000000 in
set_option maxRecDepth 100000 in
theorem spec_IsIrreduciblePair.calls (k : Nat) (a0 a1 : ByteArray) (r1 : Bool) (r2 : Int) (w : World) (h : spec_IsIrreduciblePair.f k a0 a1 = some (r1, r2)) :
    Calls Try.prog 21 #[.string a0, .string a1] w fun e w' => e = .returned (.tuple #[.bool r1, .int .i64 r2]) ∧ Below w.heap.size w w' := by
  unfold spec_IsIrreduciblePair.f at h
  obtain ⟨c, h1, h⟩ := Option.bind_eq_some_iff.1 h
  have HC1 := Aside0.mk (spec_l08Code.calls k a0 a1 c w h1)
  clear h1
  by_cases c1 : c = 0
  · rw [if_pos c1] at h
    subst c1
    obtain ⟨⟨o1, b1⟩, h3, h⟩ := Option.bind_eq_some_iff.1 h
    obtain ⟨⟨o2, b2⟩, h4, h⟩ := Option.bind_eq_some_iff.1 h
    by_cases hn : a0.size ≤ 12
    · rw [if_pos hn] at h
      simp only [Option.some.injEq, Prod.mk.injEq] at h
      obtain ⟨hr1, rfl⟩ := h
      have HR1 := Aside0.mk hr1
      have HN := Aside0.mk hn
      have HL1 := Aside0.mk (spec_l08Arcs.len h3)
      have HL2 := Aside0.mk (spec_l08Arcs.len h4)
      have HC3 := Aside0.mk (fun W => spec_l08Arcs.calls k a0 o1 b1 W h3)
      have HC4 := Aside0.mk (fun W => spec_l08Arcs.calls k a1 o2 b2 W h4)
      have HI1 := Aside0.mk (show (Try.prog.info? 49).map (·.size) = some (enc o1).toArray.size by rw [encSize HL1.out]; kernel_rfl)
      have HI2 := Aside0.mk (show (Try.prog.info? 49).map (·.size) = some (enc o2).toArray.size by rw [encSize HL2.out]; kernel_rfl)
      clear h3 h4 hr1 hn
      go_enter Try.func21, Try.ntmps21
      go_wp2_with fail
      refine HC1.out.mono ?_
      rintro e w1 ⟨rfl, hb1⟩
      have HB1 := Aside0.mk hb1
      clear HC1 hb1
      go_wp2_with fail
      refine (HC3.out _).mono ?_
      rintro e w3 ⟨rfl, hb3⟩
      have HB3 := Aside0.mk (HB1.out.trans (hb3.mono (below_size HB1.out)))
      clear HC3 hb3 HB1
      go_wp2_with (refine wpList_store_row rfl 49 _ _ rfl w3.heap.size (enc o1).toArray rfl rfl 49 (enc (List.replicate 12 0)).toArray (Arr.new w3 49 (List.replicate 12 0) _ zeros12) HI1.out (by rw [encSize HL1.out]; rfl) (enc_one _) ?_)
      refine (HC4.out _).mono ?_
      rintro e w4 ⟨rfl, hb4⟩
      have a1 := ((Arr.new w3 49 (List.replicate 12 0) _ zeros12).row o1).below hb4
      have hb5 := (below_setRow (below_alloc HB3.out (.cells (enc (List.replicate 12 0)).toArray 49)) (below_size HB3.out) (enc o1).toArray).trans (hb4.mono (by rw [size_setRow]; have := below_size HB3.out; simp; omega))
      have hlt : w3.heap.size < w4.heap.size := a1.lt
      have HA1 := Aside0.mk a1
      have HB4 := Aside0.mk hb5
      have HLT := Aside0.mk hlt
      clear HC4 hb4 a1 hb5 hlt HB3
      have z1 := Aside0.mk ((HA1.out.alloc (.cells #[.int .i64 0, .int .i64 0, .int .i64 0, .int .i64 0, .int .i64 0, .int .i64 0, .int .i64 0, .int .i64 0, .int .i64 0, .int .i64 0, .int .i64 0, .int .i64 0] 49)).row_far (by have := HLT.out; omega : w3.heap.size ≠ w4.heap.size) (enc o2).toArray)
      have z2 := Aside0.mk ((Arr.new w4 49 (List.replicate 12 0) #[.int .i64 0, .int .i64 0, .int .i64 0, .int .i64 0, .int .i64 0, .int .i64 0, .int .i64 0, .int .i64 0, .int .i64 0, .int .i64 0, .int .i64 0, .int .i64 0] zeros12).row o2)
      have z4 := Aside0.mk (below_setRow (below_alloc HB4.out (.cells #[.int .i64 0, .int .i64 0, .int .i64 0, .int .i64 0, .int .i64 0, .int .i64 0, .int .i64 0, .int .i64 0, .int .i64 0, .int .i64 0, .int .i64 0, .int .i64 0] 49)) (below_size HB4.out) (enc o2).toArray)
      go_wp2_with (first | (refine wpList_store_row rfl 49 _ _ rfl w4.heap.size (enc o2).toArray rfl rfl 49 (enc (List.replicate 12 0)).toArray (Arr.new w4 49 (List.replicate 12 0) _ zeros12) HI2.out (by rw [encSize HL2.out]; rfl) (enc_one _) ?_))
      generalize hN : (a0.size : Int) = n
      have EN := Aside0.mk hN.symm
      clear hN HB4 HA1
      go_loopg [12] (a0.size + 1) (fun kq v12 w' => ∃ (f : Nat) (F : Int), v12 = .int .i64 F ∧ Aside0 (F = (f : Int)) ∧ Aside0 (kq + f = a0.size + 1) ∧ Aside0 (f ≤ a0.size) ∧ Aside0 (irrB o1 o2 n f = true) ∧ Aside0 (Arr w' w3.heap.size 49 o1) ∧ Aside0 (Arr w' w4.heap.size 49 o2) ∧ Aside0 (Below w.heap.size w w'))
      case atStart => exact ⟨0, 0, rfl, ⟨rfl⟩, ⟨rfl⟩, ⟨Nat.zero_le _⟩, ⟨rfl⟩, z1, z2, z4⟩
      case round =>
        clear z1 z2 z4
        obtain ⟨f, F, rfl, EF, E1, E2, E3, X1, X2, HB⟩ := hrel
        obtain ⟨k1, hk1⟩ : ∃ m, gk = m + 1 := ⟨gk - 1, by have := E1.out; have := E2.out; omega⟩
        subst hk1
        by_cases d1 : F < n
        · have d1b : decide (F < n) = true := decide_eq_true d1
          have D1 := Aside0.mk d1
          clear d1
          go_wp2
          go_loopg [13] (a0.size + 1) (fun kq v13 w' => ∃ (d : Nat) (T : Int), v13 = .int .i64 T ∧ Aside0 (T = F + (d : Int)) ∧ Aside0 (kq + d = a0.size + 1) ∧ Aside0 (F + (d : Int) ≤ n) ∧ Aside0 (rowB o1 o2 n F d = true) ∧ Aside0 (Arr w' w3.heap.size 49 o1) ∧ Aside0 (Arr w' w4.heap.size 49 o2) ∧ Aside0 (Below w.heap.size w w'))
          case atStart => exact ⟨0, F, rfl, ⟨by omega⟩, ⟨rfl⟩, ⟨by have := D1.out; omega⟩, ⟨rfl⟩, X1, X2, HB⟩
          case round =>
            clear X1 X2 HB d1b
            obtain ⟨d, T, rfl, ET, G1, G2, G3, X1, X2, HB⟩ := hrel
            obtain ⟨k2, hk2⟩ : ∃ m, gk = m + 1 := ⟨gk - 1, by have := G1.out; have := G2.out; have := EF.out; have := EN.out; omega⟩
            subst hk2
            have h0F : 0 ≤ F := by have := EF.out; omega
            have hF12 : F ≤ 12 := by have := D1.out; have := EN.out; have := HN.out; omega
            have h0T : 0 ≤ T := by have := ET.out; omega
            have hT12 : T ≤ 12 := by have := ET.out; have := G2.out; have := EN.out; have := HN.out; omega
            have hn12 : n ≤ 12 := by have := EN.out; have := HN.out; omega
            have hn0 : 0 ≤ n := by have := EN.out; omega
            by_cases d2 : T < n
            · have d2b : decide (T < n) = true := decide_eq_true d2
              have D2 := Aside0.mk d2
              obtain ⟨c0, hc0⟩ : ∃ c0, decide (T - F + 1 < n) = c0 := ⟨_, rfl⟩
              have HC0 := Aside0.mk hc0.symm
              clear d2
              go_wp2
              clear hc0 d2b
              go_loopg [14, 15] (a0.size + 2) (fun kq v14 v15 w' => ∃ (j : Nat) (I : Int) (okc : Bool), v14 = .bool okc ∧ v15 = .int .i64 I ∧ Aside0 (I = F + (j : Int)) ∧ Aside0 (kq + j = a0.size + 2) ∧ Aside0 (I ≤ T + 1) ∧ Aside0 (okc = (c0 && closeds o1 o2 F T j)) ∧ Aside0 (Arr w' w3.heap.size 49 o1) ∧ Aside0 (Arr w' w4.heap.size 49 o2) ∧ Aside0 (Below w.heap.size w w'))
              case atStart => exact ⟨0, F, c0, rfl, rfl, ⟨by omega⟩, ⟨rfl⟩, ⟨by have := ET.out; omega⟩, ⟨by simp [closeds]⟩, X1, X2, HB⟩
              case round =>
                clear X1 X2 HB
                obtain ⟨j, I, okc, rfl, rfl, EI, K1, K2, K3, X1, X2, HB⟩ := hrel
                have h0I : 0 ≤ I := by have := EI.out; omega
                have hI13 : I ≤ 13 := by have := K2.out; omega
                by_cases d3 : I ≤ T ∧ okc = true
                · obtain ⟨d3, rfl⟩ := d3
                  have d3b : decide (I ≤ T) = true := decide_eq_true d3
                  obtain ⟨m1, hm1⟩ : ∃ m, inB o1 F T I = m := ⟨_, rfl⟩
                  obtain ⟨m2, hm2⟩ : ∃ m, inB o2 F T I = m := ⟨_, rfl⟩
                  have hI12 : I < 12 := by have := D2.out; omega
                  have cx1 := X1.out.cell I h0I (by have := HL1.out; omega)
                  have cx2 := X2.out.cell I h0I (by have := HL2.out; omega)
                  have pI := eq_true h0I
                  have qI := eq_true hI12
                  have HM1 := Aside0.mk hm1
                  have HM2 := Aside0.mk hm2
                  have C1 := Aside0.mk (fun W => l01In_is (rd o1 I) F T m1 hm1 W)
                  have C2 := Aside0.mk (fun W => l01In_is (rd o2 I) F T m2 hm2 W)
                  have D3 := Aside0.mk d3
                  have HI12 := Aside0.mk hI12
                  clear hm1 hm2 d3 hI12
                  cases gk with
                  | zero => exact absurd K1.out (by have := EI.out; have := ET.out; have := G2.out; have := EF.out; have := EN.out; have := D3.out; omega)
                  | succ k3 =>
                    cases m1 with
                    | false =>
                      go_wp2_with fail
                      refine (C1.out _).mono ?_
                      rintro e w5 ⟨rfl, q, rfl⟩
                      go_wp2
                      go_roundg k3
                      case measure => have := K1.out; omega
                      case rel => exact ⟨j + 1, I + 1, false, rfl, rfl, ⟨by have := EI.out; omega⟩, ⟨by have := K1.out; omega⟩, ⟨by have := D3.out; omega⟩, ⟨by rw [closeds_succ, ← EI.out, HM1.out]; simp⟩, ⟨X1.out.drewN q⟩, ⟨X2.out.drewN q⟩, ⟨pw_below_drewN HB.out q⟩⟩
                    | true =>
                      go_wp2_with fail
                      refine (C1.out _).mono ?_
                      rintro e w5 ⟨rfl, q, rfl⟩
                      go_wp2_with fail
                      refine (C2.out _).mono ?_
                      rintro e w6 ⟨rfl, q2, rfl⟩
                      go_wp2
                      go_roundg k3
                      case measure => have := K1.out; omega
                      case rel => exact ⟨j + 1, I + 1, m2, rfl, rfl, ⟨by have := EI.out; omega⟩, ⟨by have := K1.out; omega⟩, ⟨by have := D3.out; omega⟩, ⟨by have k3 := Bool.and_eq_true_iff.1 K3.out.symm; rw [closeds_succ, ← EI.out, HM1.out, HM2.out, k3.1, k3.2]; cases m2 <;> rfl⟩, ⟨(X1.out.drewN q).drewN q2⟩, ⟨(X2.out.drewN q).drewN q2⟩, ⟨pw_below_drewN HB.out _⟩⟩
                · have hfin : okc = closedB o1 o2 n F T := by
                    have k3 := K3.out
                    have ei := EI.out
                    have k2 := K2.out
                    unfold closedB
                    rw [← HC0.out]
                    by_cases e : I ≤ T
                    · have ho : okc = false := by
                        cases okc with
                        | false => rfl
                        | true => exact absurd ⟨e, rfl⟩ d3
                      rw [ho] at k3 ⊢
                      cases c0 with
                      | false => rfl
                      | true =>
                        have := closeds_false (o1 := o1) (o2 := o2) (F := F) (T := T) (i := j) (n := (T - F + 1).toNat) (by omega) (by simpa using k3.symm)
                        rw [this]
                        rfl
                    · rw [k3]
                      congr 2
                      omega
                  have HF := Aside0.mk hfin
                  clear hfin
                  have d3b : decide (I ≤ T) = false ∨ okc = false := by
                    by_cases e : I ≤ T
                    · right
                      cases okc with
                      | false => rfl
                      | true => exact absurd ⟨e, rfl⟩ d3
                    · left; exact decide_eq_false e
                  clear d3
                  cases okc with
                  | true =>
                    have d3c : decide (I ≤ T) = false := by simpa using d3b
                    clear d3b
                    have hres : r1 = false := by
                      have e2 := irr_false (o1 := o1) (o2 := o2) (n := n) (f := f) (d := d) (by have := EF.out; have := D1.out; omega) (by have := EF.out; have := ET.out; have := D2.out; omega) (by rw [← EF.out, ← ET.out]; exact HF.out.symm)
                      have e3 := HR1.out
                      rw [← e3, ← e2]
                      have e4 := EN.out
                      congr 1
                      · rw [e4]
                      · rw [e4]; simp
                    subst hres
                    go_wp2
                    go_ret2
                    exact ⟨rfl, HB.out⟩
                  | false =>
                    obtain ⟨ci, hci⟩ : ∃ ci, decide (I ≤ T) = ci := ⟨_, rfl⟩
                    clear d3b
                    cases ci with
                    | true =>
                      go_wp2
                      go_roundg k2
                      case measure => have := G1.out; omega
                      case rel => exact ⟨d + 1, T + 1, rfl, ⟨by have := ET.out; omega⟩, ⟨by have := G1.out; omega⟩, ⟨by have := ET.out; have := D2.out; omega⟩, ⟨by rw [rowB_succ, G3.out, ← ET.out, ← HF.out]; rfl⟩, X1, X2, HB⟩
                    | false =>
                      go_wp2
                      go_roundg k2
                      case measure => have := G1.out; omega
                      case rel => exact ⟨d + 1, T + 1, rfl, ⟨by have := ET.out; omega⟩, ⟨by have := G1.out; omega⟩, ⟨by have := ET.out; have := D2.out; omega⟩, ⟨by rw [rowB_succ, G3.out, ← ET.out, ← HF.out]; rfl⟩, X1, X2, HB⟩
            · have d2b : decide (T < n) = false := decide_eq_false d2
              have hd : d = (n - (f : Int)).toNat := by have := ET.out; have := G2.out; have := EF.out; omega
              have HD := Aside0.mk hd
              clear hd d2
              go_wp2
              go_roundg k1
              case measure => have := E1.out; omega
              case rel => exact ⟨f + 1, F + 1, rfl, ⟨by have := EF.out; omega⟩, ⟨by have := E1.out; omega⟩, ⟨by have := D1.out; have := EF.out; have := EN.out; omega⟩, ⟨by rw [irrB_succ, E3.out, ← EF.out, show (n - F).toNat = d by have := HD.out; have := EF.out; omega, G3.out]; rfl⟩, X1, X2, HB⟩
        · have d1b : decide (F < n) = false := decide_eq_false d1
          have hres : r1 = true := by
            have e3 := HR1.out
            rw [← e3, ← E3.out]
            have e4 := EN.out
            have e5 := EF.out
            have e6 := E2.out
            congr 1
            · rw [e4]
            · omega
          subst hres
          go_wp2
          go_ret2
          exact ⟨rfl, HB.out⟩
    · rw [if_neg hn] at h
      cases h
  · rw [if_neg c1] at h
    simp only [Option.some.injEq, Prod.mk.injEq] at h
    obtain ⟨rfl, rfl⟩ := h
    have c1b : (c != 0) = true := bne_iff_ne.mpr c1
    clear c1
    go_enter Try.func21, Try.ntmps21
    go_wp2_with fail
    refine HC1.out.mono ?_
    rintro e w1 ⟨rfl, hb1⟩
    have HB1 := Aside0.mk hb1
    clear HC1 hb1
    go_wp2
    go_ret2
    exact ⟨rfl, HB1.out⟩
end Go.Proofs.Ytopcnhppbmmbbaa.Hand
