/- The contracts of spec.l06Permutation and of impl.BraidPermutation, each as a plain function tells it. No condition. -/
import Derived.Test.YtfboiigejaiodaaHandCatI64
import Derived.Test.YtfboiigejaiodaaHandIdx
import Derived.StillTailTactics
import Derived.Outline
namespace Go.Proofs.Ytfboiigejaiodaa.Hand
open Go.RowKit Go.Proofs.YtfboiigejaiodaaW.PrintWords Go.Proofs.YtfboiigejaiodaaW.PrintLast Go.Proofs.YtfboiigejaiodaaW.PrintMore
attribute [local go_sem] max2_int min2_int
set_option linter.unusedVariables false
set_option linter.unusedSimpArgs false

theorem infoInt : (Try.prog.info? 3).map (fun i => (i.zero, i.size, i.bytes)) = some (some (.int .i64 0), 1, 8) := by kernel_rfl
/-- A right braid word for n strands. -/
def okW (n : Int) (l : List Int) : Bool := decide (2 ≤ n) && (decide (n ≤ 6) && (decide (l.length ≤ 24) && l.all (fun x => decide (x ≠ 0) && (decide (1 - n ≤ x) && decide (x ≤ n - 1)))))
theorem okW_spec {n : Int} {l : List Int} (h : okW n l = true) : 2 ≤ n ∧ n ≤ 6 ∧ l.length ≤ 24 ∧ ∀ j : Nat, j < l.length → rd l (j : Int) ≠ 0 ∧ 1 - n ≤ rd l (j : Int) ∧ rd l (j : Int) ≤ n - 1 := by
  unfold okW at h
  simp only [Bool.and_eq_true, decide_eq_true_eq, List.all_eq_true] at h
  obtain ⟨h1, h2, h3, h4⟩ := h
  refine ⟨h1, h2, h3, fun j hj => ?_⟩
  have e : rd l (j : Int) = l[j] := by
    unfold rd
    rw [Int.toNat_natCast, List.getD_eq_getElem?_getD]
    simp [hj]
  rw [e]
  exact h4 _ (List.getElem_mem hj)
def swp (xs : List Int) (a b : Nat) : List Int := (xs.set a (rd xs (b : Int))).set b (rd xs (a : Int))
def base (n : Nat) : List Int := (List.range n).map (fun (j : Nat) => (j : Int))
/-- Which strand is at which place, behind i crossings. -/
def atAfter (n : Nat) (l : List Int) : Nat → List Int
  | 0 => base n
  | i + 1 => swp (atAfter n l i) ((rd l (i : Int)).natAbs - 1) (rd l (i : Int)).natAbs
/-- The list turned round, as far as place i. -/
def outAfter (a : List Int) (n : Nat) : Nat → List Int
  | 0 => List.replicate n 0
  | i + 1 => (outAfter a n i).set (rd a (i : Int)).toNat (i : Int)
def permB (n : Nat) (l : List Int) : List Int := outAfter (atAfter n l l.length) n n
theorem base_succ (n : Nat) : base (n + 1) = base n ++ [(n : Int)] := by
  unfold base
  rw [List.range_succ, List.map_append]
  rfl
theorem base_len (n : Nat) : (base n).length = n := by simp [base]
theorem rd_seti (xs : List Int) (i : Nat) (v : Int) (j : Nat) (hi : i < xs.length) : rd (xs.set i v) (j : Int) = if j = i then v else rd xs (j : Int) := by
  unfold rd
  rw [Int.toNat_natCast, List.getD_eq_getElem?_getD, List.getD_eq_getElem?_getD, List.getElem?_set]
  by_cases h : j = i
  · subst h
    simp [hi]
  · rw [if_neg (by omega), if_neg h]
def Good (n : Nat) (xs : List Int) : Prop := xs.length = n ∧ ∀ j : Nat, j < n → 0 ≤ rd xs (j : Int) ∧ rd xs (j : Int) < (n : Int)
theorem good_set {n : Nat} {xs : List Int} (h : Good n xs) {i : Nat} (hi : i < n) {v : Int} (h0 : 0 ≤ v) (h1 : v < (n : Int)) : Good n (xs.set i v) := by
  refine ⟨by rw [List.length_set]; exact h.1, fun j hj => ?_⟩
  rw [rd_seti _ _ _ _ (by rw [h.1]; exact hi)]
  split
  · exact ⟨h0, h1⟩
  · exact h.2 j hj
theorem good_base (n : Nat) : Good n (base n) := by
  refine ⟨base_len n, fun j hj => ?_⟩
  have : rd (base n) (j : Int) = (j : Int) := by
    unfold rd base
    rw [Int.toNat_natCast, List.getD_eq_getElem?_getD]
    simp [hj]
  rw [this]
  omega
theorem good_at (n : Nat) (l : List Int) (hw : ∀ j : Nat, j < l.length → rd l (j : Int) ≠ 0 ∧ 1 - (n : Int) ≤ rd l (j : Int) ∧ rd l (j : Int) ≤ (n : Int) - 1) : ∀ i, i ≤ l.length → Good n (atAfter n l i)
  | 0, _ => good_base n
  | i + 1, h => by
    have ih := good_at n l hw i (by omega)
    obtain ⟨w0, w1, w2⟩ := hw i (by omega)
    simp only [atAfter, swp]
    have hm : (rd l (i : Int)).natAbs < n := by omega
    have g1 := ih.2 (rd l (i : Int)).natAbs hm
    have g2 := ih.2 ((rd l (i : Int)).natAbs - 1) (by omega)
    exact good_set (good_set ih (by omega) g1.1 g1.2) hm g2.1 g2.2
theorem outAfter_len (a : List Int) (n i : Nat) : (outAfter a n i).length = n := by
  induction i with
  | zero => simp [outAfter]
  | succ i ih => simp only [outAfter]; rw [List.length_set]; exact ih
/-- spec.l06Permutation in plain words. -/
def spec_l06Permutation.f (a0 : Int) (l1 : List Int) : Option (List Int) := if okW a0 l1 = true then some (permB a0.toNat l1) else none
set_option maxHeartbeats 8000000 in
set_option maxRecDepth 100000 in
theorem spec_l06Permutation.calls (a0 : Int) (A1 : Option Addr) (c1 : Nat) (l1 : List Int) (r : List Int) (w : World) (hr1 : Kd.C (Kd.int .i64) w A1 l1.length l1) (hc1 : l1.length ≤ c1) (h : spec_l06Permutation.f a0 l1 = some r) :
    Calls Try.prog 42 #[.int .i64 a0, .slice A1 l1.length c1] w fun e w' => ∃ v0_ : Value, e = .returned v0_ ∧ Kd.R (Kd.int .i64) 2 w' w.heap.size (fun _ => True) v0_ r ∧ Below w.heap.size w w' := by
  unfold spec_l06Permutation.f at h
  by_cases hok : okW a0 l1 = true
  · rw [if_pos hok] at h
    obtain rfl := Option.some.inj h
    obtain ⟨hn2, hn6, hl24, hw⟩ := okW_spec hok
    obtain ⟨n, rfl⟩ := Int.eq_ofNat_of_zero_le (show 0 ≤ a0 by omega)
    rw [Int.toNat_natCast]
    have HW := Aside0.mk hw
    have HN := Aside0.mk (show 2 ≤ n ∧ n ≤ 6 by omega)
    have HL := Aside0.mk hl24
    have HR := Aside0.mk hr1
    have HG := Aside0.mk (good_at n l1 hw)
    clear h hok hw hr1 hc1 hl24 hn2 hn6
    go_enter Try.func42, Try.ntmps42
    go_wp2
    go_loopg [5, 6] (n + 1) (fun kq v5 v6 w' => ∃ (i : Nat), v6 = .int .i64 (i : Int) ∧ Aside0 (kq + i = n + 1) ∧ Aside0 (i ≤ n) ∧ Aside0 (Kd.R (Kd.int .i64) 2 w' w.heap.size (fun _ => True) v5 (base i)) ∧ Aside0 (Below w.heap.size w w'))
    case atStart =>
      refine ⟨0, rfl, ⟨rfl⟩, ⟨Nat.zero_le _⟩, ⟨?_⟩, ⟨(Below.refl _ w).alloc (Nat.le_refl _) _⟩⟩
      rw [show base 0 = [] from rfl]
      refine ⟨fun k hk => trivial, [], ?_, Reps.none _ _⟩
      exact ⟨by simp, .inr ⟨w.heap.size, 0, #[], rfl, Nat.le_refl _, heap_alloc_new w _, Nat.le_refl _, by unfold maxLen; omega, by simp, by simp⟩⟩
    case round =>
      obtain ⟨i, rfl, E1, E2, HO, HB⟩ := hrel
      by_cases d1 : i < n
      · have d1b : decide ((i : Int) < (n : Int)) = true := decide_eq_true (by omega)
        have d1b' : decide (i < n) = true := decide_eq_true d1
        have HJ : i ≤ 10 := by have := HN.out; omega
        have HD1 := Aside0.mk d1
        have HS := Aside0.mk (base_succ i)
        have HLL := Aside0.mk (base_len i)
        obtain ⟨k2, hk2⟩ : ∃ m, gk = m + 1 := ⟨gk - 1, by have := E1.out; have := E2.out; omega⟩
        subst hk2
        clear d1
        go_wp2_with (first | ((with_reducible refine gate_builtin (b := .append) (xs := #[.tmp 18, .tmp 20]) rfl ?_); at_builtin; refine Kd.R_append (Kd.int .i64) (w0 := w) w.heap.size rfl (.tmp 18) (.tmp 20) 22 2 (.int .i64 0) 8 rfl Try.underlying22 infoCat rfl (by decide) (by omega) u5 (base i) (i : Int) [.int .i64 (i : Int)] (fun _ => True) (fun _ => False) rfl rfl ?aP (fun _ hk => hk.elim) ?aF ?aO ?aB ?aS ?aL ?_; (case aP => exact rfl); (case aB => exact HB.out); (case aF => exact fun _ _ => trivial); (case aO => exact HO.out); (case aS => exact below_size HB.out); (case aL => have := HLL.out; omega); intro v108 w14 ho hb hg hat; rw [← HS.out] at ho; have n1_ := Aside0.mk ho; have n2_ := Aside0.mk hb; clear HO HB ho hb hg hat))
        go_roundg k2
        case measure => have := E1.out; omega
        case rel => exact ⟨i + 1, by (try simp only [Int.natCast_add]); rfl, ⟨by have := E1.out; omega⟩, ⟨by have := HD1.out; omega⟩, n1_, n2_⟩
      · have d1b : decide ((i : Int) < (n : Int)) = false := decide_eq_false (by omega)
        have d1b' : decide (i < n) = false := decide_eq_false d1
        have ei : i = n := by have := E2.out; omega
        subst ei
        clear d1 E1 E2
        obtain ⟨go, co, eo, gb, gl, cl, hcl⟩ := Kd.R_form HO.out (by rw [base_len]; have := HN.out; omega)
        subst eo
        have GB := Aside0.mk gb
        have hbl := base_len i
        clear gb gl hcl
        go_wp2
        clear d1b d1b'
        rw [hbl]
        go_loopg [7] (l1.length + 1) (fun kq v7 w' => ∃ (j : Nat), v7 = .int .i64 (j : Int) ∧ Aside0 (kq + j = l1.length + 1) ∧ Aside0 (j ≤ l1.length) ∧ Aside0 (Kd.R (Kd.int .i64) 2 w' w.heap.size (fun _ => True) (.slice (some ⟨go, 0, none⟩) i co) (atAfter i l1 j)) ∧ Aside0 (Below w.heap.size w w'))
        case atStart => exact ⟨0, rfl, ⟨rfl⟩, ⟨Nat.zero_le _⟩, ⟨by have := HO.out; rw [hbl] at this; exact this⟩, HB⟩
        case round =>
          clear HO HB hbl
          obtain ⟨j, rfl, F1, F2, HO, HB⟩ := hrel
          by_cases d2 : j < l1.length
          · have d2b : decide ((j : Int) < (l1.length : Int)) = true := decide_eq_true (by omega)
            have d2b' : decide (j < l1.length) = true := decide_eq_true d2
            obtain ⟨w0, w1, w2⟩ := HW.out j d2
            obtain ⟨hg1, hg2⟩ := HG.out j (by omega)
            obtain ⟨ad, ea, hx⟩ := Kd.at_int (Kd.C_below HR.out HB.out) (j : Int) (by omega) (by omega)
            cases ea
            rw [Int.toNat_natCast] at hx
            have pj : (0 ≤ (j : Int)) = True := eq_true (by omega)
            have qj : ((j : Int) < (l1.length : Int)) = True := eq_true (by omega)
            have qj' : (j < l1.length) = True := eq_true d2
            have HJ : j ≤ 24 := by have := HL.out; omega
            have HD2 := Aside0.mk d2
            have HT := Aside0.mk (show atAfter i l1 (j + 1) = swp (atAfter i l1 j) ((rd l1 (j : Int)).natAbs - 1) (rd l1 (j : Int)).natAbs from rfl)
            generalize rd l1 (j : Int) = x at hx w0 w1 w2 HT
            obtain ⟨m, hm⟩ : ∃ m : Nat, x.natAbs = m + 1 := ⟨x.natAbs - 1, by omega⟩
            have hmn : m + 1 < i := by omega
            have hi6 : i ≤ 6 := HN.out.2
            have hmx : max x (-x) = ((m : Int) + 1) := by omega
            rw [hm] at HT
            have e1 : m + 1 - 1 = m := by omega
            rw [e1] at HT
            obtain ⟨hc1, hf1⟩ := Kd.R_celln 0 HO.out (m : Int) (by omega) (by omega)
            obtain ⟨hc2, hf2⟩ := Kd.R_celln 0 HO.out ((m + 1 : Nat) : Int) (by omega) (by omega)
            have HP1 := (Kd.R_putg HO.out (m : Int) (rd (atAfter i l1 j) ((m + 1 : Nat) : Int))).1
            have HP2 := (Kd.R_putg HP1 ((m + 1 : Nat) : Int) (rd (atAfter i l1 j) (m : Int))).1
            rw [Int.toNat_natCast, Int.toNat_natCast] at HP2
            rw [Int.toNat_natCast] at hc1 hf1 hc2 hf2
            have HP := Aside0.mk HP2
            clear HP1 HP2 hg1 hg2 d2 hm e1 w0
            obtain ⟨k2, hk2⟩ : ∃ m, gk = m + 1 := ⟨gk - 1, by have := F1.out; have := F2.out; omega⟩
            subst hk2
            go_wp2
            go_quiet (fail)
            go_wp2
            go_roundg k2
            case measure => have := F1.out; omega
            case rel => exact ⟨j + 1, by (try simp only [Int.natCast_add]); rfl, ⟨by have := F1.out; omega⟩, ⟨by have := HD2.out; omega⟩, ⟨by rw [HT.out]; exact Kd.R_drewN HP.out _⟩, ⟨pw_below_drewN (below_set (below_set HB.out GB.out) GB.out) _⟩⟩
          · have d2b : decide ((j : Int) < (l1.length : Int)) = false := decide_eq_false (by omega)
            have d2b' : decide (j < l1.length) = false := decide_eq_false d2
            have ej : j = l1.length := by have := F2.out; omega
            subst ej
            have hgd := HG.out l1.length (Nat.le_refl _)
            have HGD := Aside0.mk hgd
            have HPM := Aside0.mk (show permB i l1 = outAfter (atAfter i l1 l1.length) i i from rfl)
            generalize atAfter i l1 l1.length = a at HO HGD HPM
            clear d2 F1 F2 hgd
            have hp : (0 ≤ (i : Int)) = True := eq_true (by omega)
            go_wp2_with (first | ((with_reducible refine gate_dst (N := 57) rfl ?_); refine Kd.R_make (Kd.int .i64) _ 2 rfl (N := 57) rfl 22 _ _ rfl (i : Int) rfl rfl Try.underlying22 (.int .i64 0) 8 infoCat rfl (by decide) (by omega) 0 (ok := fun _ => True) (okp := fun _ => True) rfl (fun _ hk => hk) trivial (by omega) (by have := HN.out; omega) (Below.refl _ _) (Nat.le_refl _) ?_; intro v106 w4 ho5 hb hg hnew_))
            have HA4 := Aside0.mk (Kd.R_below (Kd.R_bound HO.out) hb)
            have HO4 := Aside0.mk ho5
            have HB4 := Aside0.mk (HB.out.trans (hb.mono (below_size HB.out)))
            have HG4 := Aside0.mk (below_size HB.out)
            clear ho5 hb hg hnew_ hp HO HB
            obtain ⟨go2, co2, eo2, gb2, gl2, cl2, hcl2⟩ := Kd.R_form HO4.out (by simp; have := HN.out; omega)
            rw [show (List.replicate (i : Int).toNat (0 : Int)).length = i by simp] at eo2
            subst eo2
            have GB2 := Aside0.mk gb2
            clear gb2 gl2 hcl2
            go_loopg [11] (i + 1) (fun kq v11 w' => ∃ (p : Nat), v11 = .int .i64 (p : Int) ∧ Aside0 (kq + p = i + 1) ∧ Aside0 (p ≤ i) ∧ Aside0 (Kd.R (Kd.int .i64) 2 w' w.heap.size (fun k_ => k_ < wr.heap.size) (.slice (some ⟨go, 0, none⟩) i co) a) ∧ Aside0 (Kd.R (Kd.int .i64) 2 w' wr.heap.size (fun _ => True) (.slice (some ⟨go2, 0, none⟩) i co2) (outAfter a i p)) ∧ Aside0 (Below w.heap.size w w'))
            case atStart => exact ⟨0, rfl, ⟨rfl⟩, ⟨Nat.zero_le _⟩, ⟨Kd.R_mono HA4.out (fun _ hk => hk.2.2.1)⟩, ⟨by have := HO4.out; simpa [outAfter] using this⟩, HB4⟩
            case round =>
              clear HA4 HO4 HB4
              obtain ⟨p, rfl, G1, G2, HA, HO, HB⟩ := hrel
              by_cases d3 : p < i
              · have d3b : decide ((p : Int) < (i : Int)) = true := decide_eq_true (by omega)
                have d3b' : decide (p < i) = true := decide_eq_true d3
                obtain ⟨x0, x1⟩ := HGD.out.2 p d3
                have HT := Aside0.mk (show outAfter a i (p + 1) = (outAfter a i p).set (rd a (p : Int)).toNat (p : Int) from rfl)
                obtain ⟨hc1, hf1⟩ := Kd.R_celln 0 HA.out (p : Int) (by omega) (by omega)
                obtain ⟨hc2, hf2⟩ := Kd.R_celln 0 HO.out (rd a (p : Int)) x0 x1
                have HP := Aside0.mk (Kd.R_putg HO.out (rd a (p : Int)) (p : Int)).1
                have hrd : rdOf 0 a (p : Int) = rd a (p : Int) := rfl
                rw [Int.toNat_natCast] at hc1 hf1
                rw [hrd] at hc1
                clear hrd
                have pj : (0 ≤ (p : Int)) = True := eq_true (by omega)
                have qj : ((p : Int) < (i : Int)) = True := eq_true (by omega)
                have qj' : (p < i) = True := eq_true d3
                have hi6 : i ≤ 6 := HN.out.2
                have HJ : p ≤ 10 := by omega
                have HD3 := Aside0.mk d3
                generalize rd a (p : Int) = x at hc1 hc2 hf2 HP HT x0 x1
                have px := eq_true x0
                have qx := eq_true x1
                clear x0 x1 d3
                obtain ⟨k2, hk2⟩ : ∃ m, gk = m + 1 := ⟨gk - 1, by have := G1.out; have := G2.out; omega⟩
                subst hk2
                go_wp2
                go_roundg k2
                case measure => have := G1.out; omega
                case rel =>
                  refine ⟨p + 1, by (try simp only [Int.natCast_add]); rfl, ⟨by have := G1.out; omega⟩, ⟨by have := HD3.out; omega⟩, ⟨?_⟩, ⟨?_⟩, ⟨?_⟩⟩
                  · exact Kd.R_far (p := ⟨go2, x.toNat, none⟩) HA.out (fun k_ hk => by have := GB2.out; simp at hk ⊢; omega) _
                  · rw [HT.out]; exact HP.out
                  · exact HB.out.setCell (p := ⟨go2, x.toNat, none⟩) (Nat.le_trans HG4.out GB2.out) _
              · have d3b : decide ((p : Int) < (i : Int)) = false := decide_eq_false (by omega)
                have d3b' : decide (p < i) = false := decide_eq_false d3
                have ep : p = i := by have := G2.out; omega
                subst ep
                clear d3
                go_wp2
                go_ret
                exact ⟨_, rfl, by rw [HPM.out]; exact Kd.R_lower HO.out HG4.out, HB.out⟩
  · rw [if_neg hok] at h
    cases h
end Go.Proofs.Ytfboiigejaiodaa.Hand
