/- Rows of whole numbers as they lie, a table that grows by a row, the first entry of a row that is not 0. No condition. -/
import Derived.Test.YtmpdloamgiejhaaHandRed
import Derived.Test.YtmpdloamgiejhaaHandC
namespace Go.Proofs.Ytmpdloamgiejhaa.Hand
open Go.RowKit Go.Proofs.YtmpdloamgiejhaaW.PrintWords Go.Proofs.YtmpdloamgiejhaaW.PrintLast Go.Proofs.YtmpdloamgiejhaaW.PrintMore
set_option linter.unusedVariables false
set_option linter.unusedSimpArgs false

/-- A row of whole numbers as it lies. -/
structure Row (w : World) (b c : Nat) (l : List Int) : Prop where
  mx : c ≤ maxLen
  le : l.length ≤ c
  at_ : ∃ RC : Array Value, w.heap[b]? = some (.cells RC 2 (0, 0)) ∧ RC.size = c ∧ ∀ i, i < l.length → RC[i]? = some (.int .i64 (l.getD i 0))
section
variable {w w' : World} {b c : Nat} {l : List Int}
theorem Row.cell (h : Row w b c l) {i : Nat} (hi : i < l.length) : w.cell? ⟨b, i, none⟩ = some (.int .i64 (l.getD i 0)) := by
  obtain ⟨RC, h1, _, h2⟩ := h.at_
  rw [cell_of_row w b i _ _ (0, 0) h1]
  simpa using h2 i hi
theorem Row.frozen (h : Row w b c l) (i : Nat) : w.frozen? ⟨b, i, none⟩ = false := by
  obtain ⟨RC, h1, _⟩ := h.at_
  exact frozen_of_row w b i _ _ h1
theorem Row.lt (h : Row w b c l) : b < w.heap.size := by
  obtain ⟨RC, h1, _⟩ := h.at_
  exact (Array.getElem?_eq_some_iff.1 h1).1
theorem Row.keep (h : Row w b c l) (hk : w'.heap[b]? = w.heap[b]?) : Row w' b c l := by
  obtain ⟨RC, h1, h2⟩ := h.at_
  exact ⟨h.mx, h.le, RC, hk.trans h1, h2⟩
theorem Row.below (h : Row w b c l) (hk : Below w.heap.size w w') : Row w' b c l := h.keep (hk.block b h.lt)
theorem Row.set (h : Row w b c l) {i : Nat} (hi : i < l.length) (x : Int) : Row (w.setCell ⟨b, i, none⟩ (.int .i64 x)) b c (l.set i x) := by
  obtain ⟨RC, h1, h2, h3⟩ := h.at_
  refine ⟨h.mx, by rw [List.length_set]; exact h.le, RC.setIfInBounds i (.int .i64 x), heap_setCell_same w b i RC _ _ h1, by rw [Array.size_setIfInBounds]; exact h2, fun k hk => ?_⟩
  rw [List.length_set] at hk
  rw [getD_set _ _ _ _ _ hi]
  by_cases e : i = k
  · subst e
    rw [if_pos rfl, Array.getElem?_setIfInBounds_self_of_lt (Array.getElem?_eq_some_iff.1 (h3 i hi)).1]
  · rw [if_neg e, Array.getElem?_setIfInBounds_ne e]
    exact h3 k hk
theorem row_of_RR {base : Nat} {v : Value} {xs : List Int} (h : Kd.R (Kd.int .i64) 2 w base (fun _ => True) v xs) (hp : 0 < xs.length) :
    ∃ b cap, v = .slice (some ⟨b, 0, none⟩) xs.length cap ∧ base ≤ b ∧ Row w b cap xs := by
  obtain ⟨b, cap, RC, h1, h2, h3, h4, ⟨h5, h6⟩, h7⟩ := row_of_R h hp
  exact ⟨b, cap, h1, h2, h6, h3, RC, h4, h5, h7⟩
theorem Row.ne {B g n : Nat} {bs cs : Nat → Nat} {L : List (List Int)} (h : Row w b c l) (hT : Tab w B g n bs cs L) : b ≠ g := by
  obtain ⟨RC, h1, _⟩ := h.at_
  obtain ⟨HC, h2, _⟩ := hT.outer
  intro e
  rw [e, h2] at h1
  injection h1 with h1
  injection h1 with _ h1
  exact absurd h1 (by decide)
end
section
variable {w w' W : World} {B g n : Nat} {bs cs : Nat → Nat} {L : List (List Int)}
/-- A row of a table. -/
theorem Tab.row_ (h : Tab w B g n bs cs L) {j : Nat} (hj : j < L.length) : Row w (bs j) (cs j) (L.getD j []) := by
  obtain ⟨h1, h2, RC, h3, h4⟩ := h.row j hj
  obtain ⟨h5, RC', h6, h7⟩ := h.sz.row j hj
  rw [h3] at h6
  obtain rfl : RC = RC' := by injection h6 with e; injection e
  exact ⟨h5, by rw [h.rows j hj]; exact h2, RC, h3, h7, fun i hi => h4 i (by rw [← h.rows j hj]; exact hi)⟩
/-- A table's heads as an own row. -/
theorem Tab.own (h : Tab w B g n bs cs L) : w.ownsRow B 34 1 (.slice (some ⟨g, 0, none⟩) L.length (cs L.length)) L.length ((List.range L.length).map fun j => .slice (some ⟨bs j, 0, none⟩) n (cs j)) := by
  obtain ⟨HC, hH, hS, hle, hmx⟩ := h.sz.head
  obtain ⟨HC', hH', hE⟩ := h.outer
  rw [hH] at hH'
  obtain rfl : HC = HC' := by injection hH' with e; injection e
  refine ⟨by simp, .inr ⟨g, cs L.length, HC, rfl, h.gB, hH, hle, hmx, by rw [hS, Nat.mul_one], ?_⟩⟩
  rw [Nat.mul_one]
  refine List.ext_getElem? fun j => ?_
  rw [List.getElem?_take, List.getElem?_map]
  by_cases hj : j < L.length
  · rw [if_pos hj, Array.getElem?_toList, hE j hj, List.getElem?_range hj]; rfl
  · rw [if_neg hj, List.getElem?_eq_none (by simpa using hj)]; rfl
theorem getD_snoc (L : List (List Int)) (r : List Int) (j : Nat) : (L ++ [r]).getD j [] = if j < L.length then L.getD j [] else if j = L.length then r else [] := by
  rw [List.getD_eq_getElem?_getD, List.getD_eq_getElem?_getD]
  by_cases h1 : j < L.length
  · rw [if_pos h1, List.getElem?_append_left h1]
  · rw [if_neg h1, List.getElem?_append_right (by omega)]
    by_cases h2 : j = L.length
    · rw [if_pos h2, h2, Nat.sub_self]; rfl
    · rw [if_neg h2, List.getElem?_eq_none (by simp; omega)]; rfl
/-- A table that grows by a row. -/
theorem Tab.snoc (h : Tab W B g n bs cs L) {b c : Nat} {r : List Int} (hr : Row W b c r) (hrl : r.length = n) (hb : B ≤ b) (hap : ∀ l, l < L.length → bs l ≠ b) {v' : Value}
    (hv : w'.ownsRow B 34 1 v' (L.length + 1) (((List.range L.length).map fun j => .slice (some ⟨bs j, 0, none⟩) n (cs j)) ++ [.slice (some ⟨b, 0, none⟩) n c])) (hk : ∀ k, k < W.heap.size → k ≠ g → w'.heap[k]? = W.heap[k]?) :
    ∃ g2 cap bs2 cs2, v' = .slice (some ⟨g2, 0, none⟩) (L.length + 1) cap ∧ Tab w' B g2 n bs2 cs2 (L ++ [r]) ∧ cs2 (L.length + 1) = cap := by
  obtain ⟨_, ho⟩ := hv
  rcases ho with ⟨_, h0⟩ | ⟨g2, cap, cur, rfl, hb2, hg, hnc, hcm, hcs, ht⟩
  · omega
  · have hlen : (L ++ [r]).length = L.length + 1 := by simp
    have hlt : ∀ {k : Nat} {o : Obj}, W.heap[k]? = some o → k < W.heap.size := fun hk => (Array.getElem?_eq_some_iff.1 hk).1
    refine ⟨g2, cap, fun j => if j < L.length then bs j else b, fun j => if j < L.length then cs j else if j = L.length then c else cap, rfl, ⟨fun j hj => ?_, hb2, ⟨cur, hg, fun j hj => ?_⟩, fun j hj => ?_, fun x y hx hy e => ?_, ⟨cur, hg, ?_⟩, fun j hj => ?_⟩, ?_⟩
    · rw [hlen] at hj
      rw [getD_snoc]
      by_cases h1 : j < L.length
      · rw [if_pos h1]; exact h.rows j h1
      · rw [if_neg h1, if_pos (by omega)]; exact hrl
    · rw [hlen] at hj
      have hj2 : (((List.range L.length).map fun j => Value.slice (some ⟨bs j, 0, none⟩) n (cs j)) ++ [.slice (some ⟨b, 0, none⟩) n c])[j]? = some (.slice (some ⟨if j < L.length then bs j else b, 0, none⟩) n (if j < L.length then cs j else if j = L.length then c else cap)) := by
        by_cases h1 : j < L.length
        · rw [List.getElem?_append_left (by simpa using h1), List.getElem?_map, List.getElem?_range h1]
          simp only [if_pos h1]; rfl
        · have h2 : j = L.length := by omega
          rw [List.getElem?_append_right (by simp; omega)]
          simp only [if_neg h1, if_pos h2]
          simp [h2]
      rw [← ht, List.getElem?_take] at hj2
      split at hj2
      · rw [← Array.getElem?_toList]; exact hj2
      · cases hj2
    · rw [hlen] at hj
      by_cases h1 : j < L.length
      · simp only [if_pos h1]
        obtain ⟨k1, k2, RC, k3, k4⟩ := h.row j h1
        refine ⟨k1, k2, RC, (hk _ (hlt k3) (h.ne h1)).trans k3, fun i hi => ?_⟩
        unfold ent
        rw [getD_snoc, if_pos h1]
        exact k4 i hi
      · have h2 : j = L.length := by omega
        simp only [if_neg h1, if_pos h2]
        obtain ⟨RC, k3, k4, k5⟩ := hr.at_
        refine ⟨hb, by have := hr.le; omega, RC, (hk _ (hlt k3) (hr.ne h)).trans k3, fun i hi => ?_⟩
        unfold ent
        rw [getD_snoc, if_neg h1, if_pos h2]
        exact k5 i (by omega)
    · rw [hlen] at hx hy
      by_cases h1 : x < L.length <;> by_cases h2 : y < L.length
      · rw [if_pos h1, if_pos h2] at e; exact h.apart x y h1 h2 e
      · rw [if_pos h1, if_neg h2] at e; exact absurd e (hap x h1)
      · rw [if_neg h1, if_pos h2] at e; exact absurd e.symm (hap y h2)
      · omega
    · rw [hlen]
      simp only [if_neg (show ¬ L.length + 1 < L.length by omega), if_neg (show ¬ L.length + 1 = L.length by omega)]
      exact ⟨by rw [hcs, Nat.mul_one], hnc, hcm⟩
    · rw [hlen] at hj
      by_cases h1 : j < L.length
      · simp only [if_pos h1]
        obtain ⟨k1, RC, k3, k4⟩ := h.sz.row j h1
        exact ⟨k1, RC, (hk _ (hlt k3) (h.ne h1)).trans k3, k4⟩
      · have h2 : j = L.length := by omega
        simp only [if_neg h1, if_pos h2]
        obtain ⟨RC, k3, k4, k5⟩ := hr.at_
        exact ⟨hr.mx, RC, (hk _ (hlt k3) (hr.ne h)).trans k3, k4⟩
    · simp only [if_neg (show ¬ L.length + 1 < L.length by omega), if_neg (show ¬ L.length + 1 = L.length by omega)]
/-- append(v, row), behind 'at_builtin'. -/
theorem append_tab {ops : Array Oper} {rest : List Oper} {o : Oper} {a : Act} {Q : Exit → Act → World → Prop} (w0 : World) (hgd : o.guard = none) (s x : Operand)
    (ho : o.op = .call { callee := .builtin .append, args := #[s, x], argTypes := #[26, 26] }) (h : Tab W B g n bs cs L) {b c : Nat} {r : List Int} (hr : Row W b c r) (hrl : r.length = n) (hb : B ≤ b) (hap : ∀ l, l < L.length → bs l ≠ b)
    (hs : a.eval s = .slice (some ⟨g, 0, none⟩) L.length (cs L.length)) (hx : a.eval x = .slice (some ⟨W.heap.size, 0, none⟩) 1 1) (hB : Below B w0 W) (hBs : B ≤ W.heap.size) (hsm : L.length ≤ 1000)
    (hh : ∀ g2 cap bs2 cs2 w', Tab w' B g2 n bs2 cs2 (L ++ [r]) → cs2 (L.length + 1) = cap → (∀ k, k < W.heap.size → k ≠ g → w'.heap[k]? = W.heap[k]?) → Below B w0 w' → W.heap.size ≤ w'.heap.size → wpList Try.prog ops Q rest (a.put o.dst (.slice (some ⟨g2, 0, none⟩) (L.length + 1) cap)) w') :
    wpList Try.prog ops Q (o :: rest) a (W.alloc (.cells #[.slice (some ⟨b, 0, none⟩) n c] 34)) := by
  obtain ⟨ti, hti1, hti2, hti3, hti4⟩ := infoHead
  have hsz : (W.alloc (.cells #[.slice (some ⟨b, 0, none⟩) n c] 34)).heap.size = W.heap.size + 1 := by show (W.heap.push _).size = _; rw [Array.size_push]
  refine wpList_append_own _ hgd s x 26 ho B 34 ti (.slice none 0 0) 1 24 Try.underlying26 hti1 hti2 hti3 hti4 rfl (by decide) _ L.length _ hs (h.alloc _).own ⟨W.heap.size, 0, none⟩ 1 1 [.slice (some ⟨b, 0, none⟩) n c] hx rfl ?_ ?_ ?_ ?_ ?_ ?_
  · intro j u hu
    cases j with
    | zero =>
      obtain rfl : Value.slice (some ⟨b, 0, none⟩) n c = u := by simpa using hu
      simp [Addr.add]
    | succ j => simp at hu
  · intro u hu; rw [List.mem_singleton] at hu; subst hu; rfl
  · unfold maxLen; omega
  · omega
  · omega
  · intro v' w' hown hg _
    have hk : ∀ k, k < W.heap.size → k ≠ g → w'.heap[k]? = W.heap[k]? := fun k hk hne => (hg.block k (by omega) (fun e => hne (by simpa [Value.ownBlock] using e))).trans (Below.heap_alloc W _ k hk)
    obtain ⟨g2, cap, bs2, cs2, rfl, hT, hc⟩ := h.snoc hr hrl hb hap hown hk
    exact hh g2 cap bs2 cs2 w' hT hc hk (grown_below (hB.alloc hBs _) hg (by omega) (fun k hk => by have := h.gB; simp [Value.ownBlock] at hk; omega)) (by have := hg.size; omega)
end
/-- The first entry from j on that is not 0. -/
def fz (row : List Int) : Nat → Nat → Option Nat
  | 0, _ => none
  | d + 1, j => if row.getD j 0 = 0 then fz row d (j + 1) else some j
theorem fz_some : ∀ {row : List Int} {d j k : Nat}, fz row d j = some k → j ≤ k ∧ k < j + d ∧ row.getD k 0 ≠ 0 := by
  intro row d
  induction d with
  | zero => intro j k h; simp [fz] at h
  | succ d ih =>
    intro j k h
    simp only [fz] at h
    by_cases h0 : row.getD j 0 = 0
    · rw [if_pos h0] at h
      obtain ⟨a, b, c⟩ := ih h
      exact ⟨by omega, by omega, c⟩
    · rw [if_neg h0] at h
      obtain rfl := Option.some.inj h
      exact ⟨by omega, by omega, h0⟩
def fzi (row : List Int) (d j : Nat) : Int := match fz row d j with
  | some k => (k : Int)
  | none => -1
set_option maxHeartbeats 4000000 in
theorem isK_calls (v : Int) (w : World) :
    Calls Try.prog 55 #[.int .i64 v] w fun e w' => e = .returned (.bool (v != 0)) ∧ w' = w := by
  go_enter Try.func55, Try.ntmps55
  go_wp2
  go_ret
  exact ⟨rfl, rfl⟩
set_option maxHeartbeats 4000000 in
theorem indexK_calls (w : World) (b c : Nat) (row : List Int) (hT : Row w b c row) (hm : row.length ≤ 100) :
    Calls Try.prog 54 #[.slice (some ⟨b, 0, none⟩) row.length c, .func (.func 55) #[] #[]] w fun e w' => e = .returned (.int .i64 (fzi row row.length 0)) ∧ ∃ q, w' = w.drewN q := by
  obtain ⟨ret, hret⟩ : ∃ ret, ret = fzi row row.length 0 := ⟨_, rfl⟩
  rw [← hret]
  have HT := Aside0.mk hT
  have HM := Aside0.mk hm
  obtain ⟨d, hd⟩ : ∃ d, row.length = d := ⟨_, rfl⟩
  rw [hd] at hret ⊢
  have HD := Aside0.mk hd
  have HR := Aside0.mk hret
  clear hT hm hret hd
  go_enter Try.func54, Try.ntmps54
  go_wp2
  go_loopg [4, 5, 8] d (fun dq v4 v5 v8 w' => ∃ (j : Nat), v8 = .int .i64 ((j : Int)) ∧ Aside0 (j + dq = d) ∧ Aside0 (ret = fzi row dq j) ∧ ∃ q : Nat, w' = w.drewN q)
  case atStart => exact ⟨0, rfl, ⟨by omega⟩, HR, 0, rfl⟩
  case round =>
    clear HR
    obtain ⟨j, rfl, HJ, HR, q, rfl⟩ := hrel
    cases gk with
    | zero =>
      have hd := HJ.out
      have c1 : decide ((j : Int) < (d : Int)) = false := decide_eq_false (by omega)
      have c2 : decide (j < d) = false := decide_eq_false (by omega)
      have e : ret = -1 := HR.out
      subst e
      go_wp2
      go_ret
      exact ⟨rfl, q, rfl⟩
    | succ dq =>
      have hd := HJ.out
      have c1 : decide ((j : Int) < (d : Int)) = true := decide_eq_true (by omega)
      have c2 : decide (j < d) = true := decide_eq_true (by omega)
      have p1 := eq_true (show (0 : Int) ≤ (j : Int) by omega)
      have p2 := eq_true (show (j : Int) < (d : Int) by omega)
      have hv : (w.drewN q).cell? ⟨b, j, none⟩ = some (.int .i64 (row.getD j 0)) := HT.out.cell (by have := HD.out; omega)
      obtain ⟨x, hx⟩ : ∃ x, row.getD j 0 = x := ⟨_, rfl⟩
      rw [hx] at hv
      have HX := Aside0.mk hx
      obtain ⟨vv, hvv⟩ : ∃ vv : Bool, (x != 0) = vv := ⟨_, rfl⟩
      have HVV := Aside0.mk hvv
      clear hvv hd hx
      go_wp2_with fail
      refine (isK_calls x _).mono ?_
      rintro e w1 ⟨rfl, rfl⟩
      rw [HVV.out]
      cases vv with
      | true =>
        have e : ret = (j : Int) := by
          have h1 := HR.out
          have h2 := HVV.out
          rw [bne_iff_ne, ← HX.out] at h2
          simp only [fzi, fz, if_neg h2] at h1
          exact h1
        subst e
        clear HR HVV
        go_wp2
        go_ret
        exact ⟨rfl, q, rfl⟩
      | false =>
        have e : ret = fzi row dq (j + 1) := by
          have h1 := HR.out
          have h2 := HVV.out
          have h3 : row.getD j 0 = 0 := by rw [HX.out]; simpa using h2
          simp only [fzi, fz, if_pos h3] at h1
          exact h1
        have HR2 := Aside0.mk e
        clear e HR HVV
        have hw : wrap64 ((j : Int) + 1) = ((j + 1 : Nat) : Int) := by
          have := HJ.out
          have := HD.out
          have := HM.out
          unfold wrap64
          omega
        go_wp2
        go_roundg dq
        case measure => have := HJ.out; omega
        case rel => exact ⟨j + 1, congrArg _ hw, ⟨by have := HJ.out; omega⟩, HR2, q, rfl⟩
theorem contains_go (l : List Int) (x : Int) (hl : l.length ≤ 1000) : ∀ (d k i : Nat), i + d = l.length → d < k → ∃ r, slices_Index_int_int.l0 k l x (l.length : Int) (i : Int) = some r ∧ (0 ≤ r ↔ x ∈ l.drop i) := by
  intro d
  induction d with
  | zero =>
    intro k i h hk
    obtain ⟨k, rfl⟩ : ∃ j, k = j + 1 := ⟨k - 1, by omega⟩
    refine ⟨-1, ?_, ?_⟩
    · simp only [slices_Index_int_int.l0]
      rw [if_neg (by omega)]
    · rw [List.drop_eq_nil_of_le (by omega)]
      exact ⟨fun h => by omega, fun h => by simp at h⟩
  | succ d ih =>
    intro k i h hk
    obtain ⟨k, rfl⟩ : ∃ j, k = j + 1 := ⟨k - 1, by omega⟩
    have hi : i < l.length := by omega
    simp only [slices_Index_int_int.l0]
    rw [if_pos (by omega), if_pos (by omega), if_pos (by omega), List.drop_eq_getElem_cons hi]
    have hrd : rd l (i : Int) = l[i] := by unfold rd; simp [hi]
    rw [hrd]
    by_cases e : x = l[i]
    · rw [if_pos e]
      exact ⟨_, rfl, fun _ => by rw [e]; exact List.mem_cons_self, fun _ => by omega⟩
    · rw [if_neg e]
      have hw : wrap64 ((i : Int) + 1) = ((i + 1 : Nat) : Int) := by unfold wrap64; omega
      rw [hw]
      obtain ⟨r, h1, h2⟩ := ih k (i + 1) (by omega) (by omega)
      exact ⟨r, h1, h2.trans ⟨fun h => List.mem_cons_of_mem _ h, fun h => (List.mem_cons.1 h).resolve_left e⟩⟩
theorem contains_f (l : List Int) (x : Int) (hl : l.length ≤ 1000) : slices_Contains_int_int.f 3000 l x = some (decide (x ∈ l)) := by
  unfold slices_Contains_int_int.f slices_Index_int_int.f
  obtain ⟨r, h1, h2⟩ := contains_go l x hl l.length 3000 0 (by omega) (by omega)
  rw [show ((0 : Nat) : Int) = 0 from rfl] at h1
  rw [h1]
  rw [List.drop_zero] at h2
  simp only [Option.bind_some]
  congr 1
  exact decide_eq_decide.2 h2
end Go.Proofs.Ytmpdloamgiejhaa.Hand
