/- The contract of spec.l04Reduced, over a table as it lies. No condition. -/
import Derived.Test.YtmpdloamgiejhaaHandEch
import Derived.Deep.CutBlock
import Derived.Laws.AppendOwn
namespace Go.Proofs.Ytmpdloamgiejhaa.Hand
open Go.RowKit Go.Proofs.YtmpdloamgiejhaaW.PrintWords Go.Proofs.YtmpdloamgiejhaaW.PrintLast Go.Proofs.YtmpdloamgiejhaaW.PrintMore
set_option linter.unusedVariables false
set_option linter.unusedSimpArgs false

/-- The first m entries of a row times a number. -/
def ld (p v : Int) (row : List Int) (m : Nat) : List Int := (List.range m).map fun j => Int.tmod (wrap64 (row.getD j 0 * v)) p
theorem ld_succ (p v : Int) (row : List Int) (m : Nat) : ld p v row (m + 1) = ld p v row m ++ [Int.tmod (wrap64 (row.getD m 0 * v)) p] := by
  unfold ld; rw [List.range_succ, List.map_append]; rfl
theorem ld_len (p v : Int) (row : List Int) (m : Nat) : (ld p v row m).length = m := by unfold ld; simp
theorem ld_small (p v : Int) (row : List Int) {m n : Nat} (hn : n ≤ 100) (hm : m < n) : ((ld p v row m).length + 1) * 8 ≤ 140737488355328 := by
  rw [ld_len]
  exact Nat.le_trans (Nat.mul_le_mul_right 8 (show m + 1 ≤ 100 by omega)) (by decide)
theorem infoHead : ∃ i, (Try.prog).info? 34 = some i ∧ i.zero = some (.slice none 0 0) ∧ i.size = 1 ∧ i.bytes = 24 := by
  have h : (Try.prog.info? 34).map (fun i => (i.zero, i.size, i.bytes)) = some (some (.slice none 0 0), 1, 24) := by kernel_rfl
  cases e : Try.prog.info? 34 with
  | none => rw [e] at h; cases h
  | some i =>
    rw [e] at h
    simp only [Option.map_some, Option.some.injEq, Prod.mk.injEq] at h
    exact ⟨i, rfl, h.1, h.2.1, h.2.2⟩
theorem own_fresh {w : World} {base g e : Nat} (h : w.heap[g]? = some (.cells #[] e (0, 0))) (hb : base ≤ g) : w.ownsRow base e 1 (.slice (some ⟨g, 0, none⟩) 0 0) 0 [] :=
  ⟨rfl, .inr ⟨g, 0, #[], rfl, hb, h, Nat.le_refl _, by unfold maxLen; omega, by simp, by simp⟩⟩
theorem heads_one (k n : Nat) (bs cs : Nat → Nat) : ∀ u ∈ ((List.range k).map fun j => Value.slice (some ⟨bs j, 0, none⟩) n (cs j)), u.oneCell' = true := by
  intro u hu
  obtain ⟨j, _, rfl⟩ := List.mem_map.1 hu
  rfl
/-- All rows but r from t on. -/
def h1 (p : Int) (c n r : Nat) : Nat → Nat → List (List Int) → List (List Int)
  | 0, _, L => L
  | d + 1, t, L => h1 p c n r d (t + 1) (if t = r ∨ ent L t c = 0 then L else L.set t (nr p (ent L t c) L t r n))
/-- All columns from c on. -/
def r0 (p : Int) (iv : Int → Int) (m n : Nat) : Nat → Nat → List (List Int) → Nat → List (List Int) × Nat
  | 0, _, L, r => (L, r)
  | d + 1, c, L, r => match ixg L c (m - r) r with
    | none => r0 p iv m n d (c + 1) L r
    | some k => r0 p iv m n d (c + 1) (h1 p c n r m 0 ((swp L k r).set r (ld p (iv (ent L k c)) (L.getD k []) n))) (r + 1)
section
variable {w w' : World} {B g n : Nat} {bs cs : Nat → Nat} {L : List (List Int)}
/-- A row takes another's place, a new row that row's. -/
theorem Tab.lead (h : Tab w B g n bs cs L) {k r b c : Nat} {RC : Array Value} {row : List Int} (hk : k < L.length) (hr : r < L.length)
    (hX : ∀ i, i < w.heap.size → w'.heap[i]? = (w.setCell ⟨g, k, none⟩ (.slice (some ⟨bs r, 0, none⟩) n (cs r))).heap[i]?)
    (hbn : w.heap.size ≤ b) (hc : n ≤ c) (hcs : RC.size = c ∧ c ≤ maxLen) (hrow : row.length = n) (hR : w'.heap[b]? = some (.cells RC 2 (0, 0))) (hv : ∀ i, i < n → RC[i]? = some (.int .i64 (row.getD i 0))) :
    Tab (w'.setCell ⟨g, r, none⟩ (.slice (some ⟨b, 0, none⟩) n c)) B g n (fun l => if r = l then b else bs (sw k r l)) (fun l => if r = l then c else cs (sw k r l)) ((swp L k r).set r row) := by
  have lt : ∀ {k : Nat} {o : Obj}, w.heap[k]? = some o → k < w.heap.size := fun hk => (Array.getElem?_eq_some_iff.1 hk).1
  obtain ⟨HC, hg, _⟩ := h.outer
  have hgl := lt hg
  have hbg : b ≠ g := by omega
  have hX1 := heap_setCell_same w g k HC _ (.slice (some ⟨bs r, 0, none⟩) n (cs r)) hg
  have hW1 := (hX g hgl).trans hX1
  have T1 : Tab (w'.setCell ⟨g, r, none⟩ (.slice (some ⟨bs k, 0, none⟩) n (cs k))) B g n (fun l => bs (sw k r l)) (fun l => cs (sw k r l)) (swp L k r) := by
    refine (h.swap hk hr).step fun i hi => ?_
    have hi2 : i < w.heap.size := by simpa [World.setCell] using hi
    by_cases e : i = g
    · subst e
      rw [heap_setCell_same _ i r _ _ _ hW1, heap_setCell_same _ i r _ _ _ hX1]
    · rw [heap_setCell_other _ _ _ _ e, heap_setCell_other _ _ _ _ e]
      exact hX i hi2
  have hlen : (swp L k r).length = L.length := swp_len L k r
  have T2 := T1.renew (j := r) (b := b) (c := c) (RC := RC) (r := row) (by rw [hlen]; exact hr) (by have := h.gB; omega) hc hcs hrow ((heap_setCell_other _ _ _ _ hbg).trans hR) hv (fun l hl e => by
    rw [hlen] at hl
    obtain ⟨_, _, RC', h3, _⟩ := h.row _ (sw_lt hk hr hl)
    have := lt h3
    omega)
  refine T2.step fun i hi => ?_
  by_cases e : i = g
  · subst e
    rw [heap_setCell_same _ i r _ _ _ hW1, heap_setCell_same _ i r _ _ _ (heap_setCell_same _ i r _ _ _ hW1)]
    simp
  · rw [heap_setCell_other _ _ _ _ e, heap_setCell_other _ _ _ _ e, heap_setCell_other _ _ _ _ e]
theorem setCell_cong {w w' : World} {i : Nat} (h : w.heap[i]? = w'.heap[i]?) (p : Addr) (u : Value) : (w.setCell p u).heap[i]? = (w'.setCell p u).heap[i]? := by
  unfold World.setCell
  show (w.heap.modify p.block _)[i]? = (w'.heap.modify p.block _)[i]?
  rw [Array.getElem?_modify, Array.getElem?_modify, h]
theorem below_step2 {w w1 w2 : World} {base b2 : Nat} (h : Below base w w1) (k : Below b2 w1 w2) (hb : base ≤ b2) : Below base w w2 :=
  ⟨k.os.trans h.os, k.tape.trans h.tape, k.output.trans h.output, Nat.le_trans h.size k.size, fun i hi => (k.block i (by omega)).trans (h.block i hi)⟩
/-- Of an elder world only block g has been written. -/
structure Kg (w w' : World) (g : Nat) : Prop where
  sz : w.heap.size ≤ w'.heap.size
  keep : ∀ k, k < w.heap.size → k ≠ g → w'.heap[k]? = w.heap[k]?
theorem Kg.refl (w : World) (g : Nat) : Kg w w g := ⟨Nat.le_refl _, fun _ _ _ => rfl⟩
theorem Kg.on {w w1 w2 : World} {g : Nat} (h : Kg w w1 g) (hs : w1.heap.size ≤ w2.heap.size) (hk : ∀ k, k < w1.heap.size → k ≠ g → w2.heap[k]? = w1.heap[k]?) : Kg w w2 g :=
  ⟨Nat.le_trans h.sz hs, fun k hk1 hne => (hk k (Nat.lt_of_lt_of_le hk1 h.sz) hne).trans (h.keep k hk1 hne)⟩
theorem Kg.below {w w1 w2 : World} {g : Nat} (h : Kg w w1 g) (hb : Below w1.heap.size w1 w2) : Kg w w2 g := h.on hb.size fun k hk _ => hb.block k hk
theorem Kg.set {w w1 : World} {g : Nat} (h : Kg w w1 g) (j : Nat) (u : Value) : Kg w (w1.setCell ⟨g, j, none⟩ u) g := h.on (by simp [World.setCell]) fun k _ hne => heap_setCell_other w1 _ k u hne
theorem Tab.g_lt (h : Tab w B g n bs cs L) : g < w.heap.size := by
  obtain ⟨HC, hg, _⟩ := h.outer
  exact (Array.getElem?_eq_some_iff.1 hg).1
/-- An entry, the heads being written. -/
theorem Tab.far_cell (h : Tab w B g n bs cs L) {k : Nat} {u : Value} {j i : Nat} (hj : j < L.length) (hi : i < n) (hX : ∀ i, i < w.heap.size → w'.heap[i]? = (w.setCell ⟨g, k, none⟩ u).heap[i]?) : w'.cell? ⟨bs j, i, none⟩ = some (.int .i64 (ent L j i)) := by
  obtain ⟨_, _, RC, h1, h2⟩ := h.row j hj
  have hlt := (Array.getElem?_eq_some_iff.1 h1).1
  have h3 : w'.heap[bs j]? = some (.cells RC 2 (0, 0)) := (hX _ hlt).trans ((heap_setCell_other w _ _ _ (h.ne hj)).trans h1)
  rw [cell_of_row w' (bs j) i _ _ (0, 0) h3]
  simpa using h2 i hi
theorem getD_take {α : Type} (l : List α) (d : α) {j k : Nat} (hj : j < k) : (l.take k).getD j d = l.getD j d := by
  rw [List.getD_eq_getElem?_getD, List.getD_eq_getElem?_getD, List.getElem?_take, if_pos hj]
/-- The first rows' heads, copied. -/
theorem Tab.heads (h : Tab w B g n bs cs L) {k B2 : Nat} (hB2 : B ≤ B2) (hk : k ≤ L.length) (hk0 : 0 < k) (hn : 0 < n) {v : Value} (hv : w.ownsRow B2 34 1 v k ((List.range k).map fun j => .slice (some ⟨bs j, 0, none⟩) n (cs j))) :
    ∃ g2 cap co, v = .slice (some ⟨g2, 0, none⟩) k cap ∧ Tab w B g2 n bs co (L.take k) ∧ co k = cap ∧ B2 ≤ g2 := by
  obtain ⟨_, ho⟩ := hv
  rcases ho with ⟨_, h0⟩ | ⟨g2, cap, cur, rfl, hb, hg, hnc, hcm, hcs, ht⟩
  · omega
  · have hl : (L.take k).length = k := by rw [List.length_take]; omega
    refine ⟨g2, cap, fun j => if j < k then cs j else cap, rfl, ?_, if_neg (Nat.lt_irrefl _), hb⟩
    · refine ⟨fun j hj => ?_, Nat.le_trans hB2 hb, ⟨cur, hg, fun j hj => ?_⟩, fun j hj => ?_, fun a b ha hb e => ?_, ⟨cur, hg, ?_⟩, fun j hj => ?_⟩
      · rw [hl] at hj; rw [getD_take _ _ hj]; exact h.rows j (by omega)
      · rw [hl] at hj
        have hj2 : ((List.range k).map fun j => Value.slice (some ⟨bs j, 0, none⟩) n (cs j))[j]? = some (.slice (some ⟨bs j, 0, none⟩) n (cs j)) := by
          rw [List.getElem?_map, List.getElem?_range hj]; rfl
        rw [← ht, List.getElem?_take] at hj2
        simp only [if_pos hj]
        split at hj2
        · rw [← Array.getElem?_toList]; exact hj2
        · cases hj2
      · rw [hl] at hj
        obtain ⟨h1, h2, RC, h3, h4⟩ := h.row j (by omega)
        simp only [if_pos hj]
        refine ⟨h1, h2, RC, h3, fun i hi => ?_⟩
        unfold ent
        rw [getD_take _ _ hj]
        exact h4 i hi
      · rw [hl] at ha hb; exact h.apart a b (by omega) (by omega) e
      · rw [hl]; simp only [if_neg (Nat.lt_irrefl _)]; exact ⟨by rw [hcs, Nat.mul_one], hnc, hcm⟩
      · rw [hl] at hj
        simp only [if_pos hj]
        exact h.sz.row j (by omega)
theorem grown_below {w w1 w2 : World} {base : Nat} {o : Option Nat} (h : Below base w w1) (k : w1.grownBy w2 o) (hw : base ≤ w1.heap.size) (hb : ∀ b, o = some b → base ≤ b) : Below base w w2 :=
  ⟨k.os.trans h.os, k.tape.trans h.tape, k.output.trans h.output, Nat.le_trans h.size k.size, fun i hi => (k.block i (Nat.lt_of_lt_of_le hi hw) (fun e => by have := hb i e.symm; omega)).trans (h.block i hi)⟩
theorem Tab.head_add (h : Tab w B g n bs cs L) {k : Nat} (hk : k ≤ L.length) {j : Nat} {u : Value} (hu : ((List.range k).map fun j => Value.slice (some ⟨bs j, 0, none⟩) n (cs j))[j]? = some u) : w.cell? ((⟨g, 0, none⟩ : Addr).add j) = some u := by
  rw [List.getElem?_map] at hu
  by_cases hj : j < k
  · rw [List.getElem?_range hj] at hu
    obtain rfl : Value.slice (some ⟨bs j, 0, none⟩) n (cs j) = u := Option.some.inj hu
    have := h.head (j := j) (by omega)
    by_cases hj0 : j = 0
    · subst hj0; simpa [Addr.add] using this
    · simpa [Addr.add, hj0] using this
  · rw [List.getElem?_eq_none (by simpa using hj)] at hu
    cases hu
theorem Tab_empty {w : World} {base g n : Nat} (h : w.heap[g]? = some (.cells #[] 34 (0, 0))) (hb : base ≤ g) : Tab w base g n (fun _ => 0) (fun _ => 0) [] :=
  ⟨fun j hj => absurd hj (Nat.not_lt_zero _), hb, ⟨#[], h, fun j hj => absurd hj (Nat.not_lt_zero _)⟩, fun j hj => absurd hj (Nat.not_lt_zero _), fun j k hj => absurd hj (Nat.not_lt_zero _), ⟨#[], h, rfl, Nat.le_refl _, Nat.zero_le _⟩, fun j hj => absurd hj (Nat.not_lt_zero _)⟩
end
set_option maxHeartbeats 8000000 in
set_option maxRecDepth 100000 in
theorem red_calls (K : Nat) (iv : Int → Int) (w0 w : World) (g n m cap : Nat) (bs cs : Nat → Nat) (L L9 : List (List Int)) (p : Int) (r9 : Nat) (hB : Below w0.heap.size w0 w) (hT : Tab w w0.heap.size g n bs cs L) (hn : L.length = m) (hm0 : 0 < m) (hn0 : 0 < n) (hm : n ≤ 100) (hmm : m ≤ 100) (hp : p ≠ 0)
    (hcap : m ≤ cap) (hmax : cap ≤ maxLen) (hiv : ∀ x, spec_l01Inverse.f K p x = some (iv x)) (h : r0 p iv m n n 0 L 0 = (L9, r9)) :
    Calls Try.prog 57 #[.int .i64 p, .slice (some ⟨g, 0, none⟩) m cap] w fun e w' => ∃ ga cc bo co, e = .returned (.slice (some ⟨ga, 0, none⟩) r9 cc) ∧ Tab w' w0.heap.size ga n bo co (L9.take r9) ∧ co r9 = cc ∧ (L9.take r9).length = r9 ∧ Below w0.heap.size w0 w' ∧ w.heap.size ≤ ga ∧ Kg w w' g ∧ ∀ j, j < r9 → (∃ l, l < m ∧ bo j = bs l) ∨ w.heap.size ≤ bo j := by
  have HB := Aside0.mk hB
  have HT := Aside0.mk hT
  have HN := Aside0.mk hn
  have HM0 := Aside0.mk hm0
  have HN0 := Aside0.mk hn0
  have HM := Aside0.mk hm
  have HMM := Aside0.mk hmm
  have HCAP := Aside0.mk hcap
  have HMAX := Aside0.mk hmax
  have HH := Aside0.mk h
  have HIV := Aside0.mk hiv
  have HP := Aside0.mk hp
  have pz : (p == 0) = false := by rw [beq_eq_false_iff_ne]; exact hp
  have pz2 : (p = 0) = False := eq_false hp
  clear hB hT hn hm0 hn0 hm hmm h hiv hp hcap hmax
  have HSW := Aside0.mk (below_size HB.out)
  obtain ⟨Nw, hNw⟩ : ∃ Nw : Nat → Prop, ∀ x, Nw x ↔ ((∃ l, l < m ∧ x = bs l) ∨ w.heap.size ≤ x) := ⟨_, fun _ => Iff.rfl⟩
  have HNW := Aside0.mk hNw
  have HNW1 := Aside0.mk (show ∀ j, j < m → Nw (bs j) from fun j hj => (hNw _).2 (.inl ⟨j, hj, rfl⟩))
  have HNW2 := Aside0.mk (show ∀ j, j < 0 → Nw ((fun _ => 0 : Nat → Nat) j) from fun j hj => absurd hj (Nat.not_lt_zero _))
  clear hNw
  have HB1 := Aside0.mk (HB.out.alloc (below_size HB.out) (.cells #[] 34))
  have HT1 := Aside0.mk (HT.out.alloc (.cells #[] 34))
  have HS1 := Aside0.mk (Tab_empty (n := n) (base := w0.heap.size) (heap_alloc_new w (.cells #[] 34)) (below_size HB.out))
  have HK1 := Aside0.mk (show Kg w (w.alloc (.cells #[] 34)) g from (Kg.refl w g).on (by show _ ≤ (w.heap.push _).size; rw [Array.size_push]; omega) fun k hk _ => Below.heap_alloc w _ k hk)
  clear HB HT
  go_enter Try.func57, Try.ntmps57
  go_wp2
  go_loopg [5, 6] n (fun dq v5 v6 w' => ∃ (c r cc ga : Nat) (L' : List (List Int)) (bs' cs' bo co : Nat → Nat), v5 = .slice (some ⟨ga, 0, none⟩) r cc ∧ v6 = .int .i64 (c : Int) ∧ Aside0 (c + dq = n) ∧ Aside0 (r ≤ c ∧ r ≤ m) ∧ Aside0 (L'.length = m) ∧ Aside0 (r0 p iv m n dq c L' r = (L9, r9)) ∧ Aside0 (Tab w' w0.heap.size g n bs' cs' L') ∧ Aside0 (Below w0.heap.size w0 w') ∧ Aside0 (Tab w' w0.heap.size ga n bo co (L'.take r)) ∧ Aside0 (co r = cc) ∧ Aside0 (w.heap.size ≤ ga) ∧ Aside0 (Kg w w' g) ∧ Aside0 (∀ j, j < m → Nw (bs' j)) ∧ Aside0 (∀ j, j < r → Nw (bo j)))
  case atStart => exact ⟨0, 0, 0, _, L, bs, cs, _, _, rfl, rfl, ⟨by omega⟩, ⟨by omega⟩, HN, HH, HT1, HB1, HS1, ⟨rfl⟩, ⟨Nat.le_refl _⟩, HK1, HNW1, HNW2⟩
  case round =>
    clear HH HT1 HB1 HS1 HN HK1 HNW1 HNW2
    obtain ⟨c, r, cc, ga, L, bs, cs, bo, co, rfl, rfl, HC, HR, HN, HH, HT, HB, HS, HCC, HGA, HKG, HNA, HNO⟩ := hrel
    have y0 : decide (0 < (m : Int)) = true := decide_eq_true (by have := HM0.out; omega)
    have y1 : decide (0 < m) = true := decide_eq_true HM0.out
    have y2 := eq_true (show (0 : Int) < (m : Int) by have := HM0.out; omega)
    have y4 := eq_true HM0.out
    have y5 := eq_false (show ¬ m = 0 by have := HM0.out; omega)
    have y3 := HT.out.head (j := 0) (by rw [HN.out]; exact HM0.out)
    cases gk with
    | zero =>
      have hd := HC.out
      have c1 : decide ((c : Int) < (n : Int)) = false := decide_eq_false (by omega)
      have c2 : decide (c < n) = false := decide_eq_false (by omega)
      have c3 := eq_false (show ¬ ((c : Int) < (n : Int)) by omega)
      have e := HH.out
      simp only [r0, Prod.mk.injEq] at e
      obtain ⟨rfl, rfl⟩ := e
      clear HH
      go_wp2
      go_ret
      exact ⟨ga, cc, bo, co, rfl, HS.out, HCC.out, by rw [List.length_take, HN.out]; have := HR.out; omega, HB.out, HGA.out, HKG.out, fun j hj => (HNW.out _).1 (HNO.out j hj)⟩
    | succ dq =>
      have hd := HC.out
      have c1 : decide ((c : Int) < (n : Int)) = true := decide_eq_true (by omega)
      have c2 : decide (c < n) = true := decide_eq_true (by omega)
      have c3 := eq_true (show ((c : Int) < (n : Int)) by omega)
      have q1 := eq_true (show (0 : Int) ≤ (c : Int) by omega)
      have hh := HH.out
      simp only [r0] at hh
      have HH2 := Aside0.mk hh
      have hwc : wrap64 ((c : Int) + 1) = ((c + 1 : Nat) : Int) := by have := HM.out; unfold wrap64; omega
      have HWC := Aside0.mk hwc
      clear hh HH hwc
      go_upto_block 2 with fail
      go_cut [7] (fun s7 wx => wx = wr ∧ ((s7 = .int .i64 (-1) ∧ Aside0 (ixg L c (m - r) r = none)) ∨ (∃ b : Nat, s7 = .int .i64 (b : Int) ∧ Aside0 (r ≤ b ∧ b < m) ∧ Aside0 (ixg L c (m - r) r = some b))))
      case first =>
        go_wp2_with fail
        go_loopg [7, 8] (m - r) (fun eq v7 v8 w' => w' = wr ∧ ((∃ b : Nat, v7 = .int .i64 (-1) ∧ v8 = .int .i64 (b : Int) ∧ Aside0 (r ≤ b ∧ b + eq = m) ∧ Aside0 (ixg L c eq b = ixg L c (m - r) r)) ∨ (∃ b : Nat, v7 = .int .i64 (b : Int) ∧ v8 = .int .i64 ((b + 1 : Nat) : Int) ∧ Aside0 (r ≤ b ∧ b < m ∧ b + 1 + eq = m) ∧ Aside0 (ixg L c (m - r) r = some b))))
        case atStart => exact ⟨rfl, .inl ⟨r, rfl, rfl, ⟨by have := HR.out; omega⟩, ⟨rfl⟩⟩⟩
        case round =>
          obtain ⟨rfl, hrel⟩ := hrel
          rcases hrel with ⟨b, rfl, rfl, HBE, HIX⟩ | ⟨b, rfl, rfl, HBE, HIX⟩
          · cases gk with
            | zero =>
              obtain ⟨hb1, hb2⟩ := HBE.out
              have c5 : decide ((b : Int) < (m : Int)) = false := decide_eq_false (by omega)
              have c6 : decide (b < m) = false := decide_eq_false (by omega)
              have c7 := eq_false (show ¬ ((b : Int) < (m : Int)) by omega)
              have HX := Aside0.mk (show ixg L c (m - r) r = none from HIX.out.symm)
              clear HIX hb1 hb2
              go_wp2_with fail
              go_meet
              exact ⟨rfl, .inl ⟨rfl, HX⟩⟩
            | succ eq =>
              obtain ⟨hb1, hb2⟩ := HBE.out
              have hbl : b < L.length := by have := HN.out; omega
              have c5 : decide ((b : Int) < (m : Int)) = true := decide_eq_true (by omega)
              have c6 : decide (b < m) = true := decide_eq_true (by omega)
              have c7 := eq_true (show ((b : Int) < (m : Int)) by omega)
              have p1 := eq_true (show (0 : Int) ≤ (b : Int) by omega)
              have z1 := HT.out.head (j := b) hbl
              have z2 := HT.out.cell (j := b) (i := c) hbl (by omega)
              have hx := HIX.out
              simp only [ixg] at hx
              have hwb : wrap64 ((b : Int) + 1) = ((b + 1 : Nat) : Int) := by have := HMM.out; unfold wrap64; omega
              have HWB := Aside0.mk hwb
              clear hwb
              by_cases hz : ent L b c = 0
              · rw [if_pos hz] at hx
                have HX2 := Aside0.mk hx
                have c8 : (ent L b c != 0) = false := by rw [bne_eq_false_iff_eq]; exact hz
                clear hx hz HIX
                go_wp2
                go_roundg eq
                case measure => omega
                case rel => exact ⟨rfl, .inl ⟨b + 1, rfl, congrArg _ HWB.out, ⟨by omega⟩, HX2⟩⟩
              · rw [if_neg hz] at hx
                have HX2 := Aside0.mk hx.symm
                have c8 : (ent L b c != 0) = true := by rw [bne_iff_ne]; exact hz
                clear hx hz HIX
                go_wp2
                go_roundg eq
                case measure => omega
                case rel => exact ⟨rfl, .inr ⟨b, rfl, congrArg _ HWB.out, ⟨by omega⟩, HX2⟩⟩
          · obtain ⟨hb1, hb2, hb3⟩ := HBE.out
            have c5 : decide ((b : Int) < 0) = false := decide_eq_false (by omega)
            have c7 := eq_false (show ¬ ((b : Int) < 0) by omega)
            go_wp2_with fail
            all_goals (go_meet; exact ⟨rfl, .inr ⟨b, rfl, ⟨by omega⟩, HIX⟩⟩)
      case rest =>
        obtain ⟨rfl, hcut⟩ := hcut
        rcases hcut with ⟨rfl, HIX⟩ | ⟨b, rfl, HBE, HIX⟩
        · have hx := HIX.out
          have hh := HH2.out
          rw [hx] at hh
          have HH3 := Aside0.mk hh
          have HRC := Aside0.mk (show r ≤ c + 1 ∧ r ≤ m by have := HR.out; omega)
          clear hh hx HH2 HIX
          go_wp2
          go_roundg dq
          case measure => omega
          case rel => exact ⟨c + 1, r, cc, ga, L, bs, cs, bo, co, rfl, congrArg _ HWC.out, ⟨by omega⟩, HRC, HN, HH3, HT, HB, HS, HCC, HGA, HKG, HNA, HNO⟩
        · obtain ⟨hb1, hb2⟩ := HBE.out
          have c5 : decide ((b : Int) < 0) = false := decide_eq_false (by omega)
          have c7 := eq_false (show ¬ ((b : Int) < 0) by omega)
          have p1 := eq_true (show (0 : Int) ≤ (b : Int) by omega)
          have p2 := eq_true (show (b : Int) < (m : Int) by omega)
          have p3 := eq_true (show (0 : Int) ≤ (r : Int) by omega)
          have p4 := eq_true (show (r : Int) < (m : Int) by omega)
          have hbl : b < L.length := by have := HN.out; omega
          have hrl : r < L.length := by have := HN.out; omega
          have hh := HH2.out
          rw [HIX.out] at hh
          simp only at hh
          obtain ⟨v, hv⟩ : ∃ v, iv (ent L b c) = v := ⟨_, rfl⟩
          obtain ⟨L2, hL2⟩ : ∃ L2, (swp L b r).set r (ld p v (L.getD b []) n) = L2 := ⟨_, rfl⟩
          rw [hv, hL2] at hh
          obtain ⟨L3, hL3⟩ : ∃ L3, h1 p c n r m 0 L2 = L3 := ⟨_, rfl⟩
          rw [hL3] at hh
          have HH3 := Aside0.mk hh
          have HL2 := Aside0.mk hL2
          have HL3 := Aside0.mk hL3
          have HV := Aside0.mk (show spec_l01Inverse.f K p (ent L b c) = some v by rw [HIV.out, hv])
          have HN2 := Aside0.mk (show L2.length = m by rw [← hL2, List.length_set, swp_len]; exact HN.out)
          clear hh hL2 hL3 hv HH2 HIX
          have z1 := HT.out.head (j := b) hbl
          have HBL := Aside0.mk hbl
          have HRL := Aside0.mk hrl
          clear y0 y1 y2 y3 y4 y5 c1 c2 c3
          clear hbl
          have HB0 := HB
          go_wp2_with ((with_reducible refine gate_dst (N := 61) rfl ?_); refine Kd.R_lit (Kd.int .i64) _ 2 ?hg (N := 61) ?hd (xs := ([] : List Int)) (inner := []) (ok := fun _ => True) (okp := fun _ => True) ?hr ?hp (fun _ hk => hk) trivial (Below.refl _ _) (Nat.le_refl _) (by simp) ?_; (case hd => rfl); (case hg => rfl); (case hr => first | (go_simp; done) | (go_simp; rfl)); (case hp => exact (Reps.none _ _)); intro v139 w6 ho7 hb hg_ hnew_; clear hg_ hnew_; have HO := Aside0.mk ho7; have HB6 := Aside0.mk hb; clear ho7 hb; have HT6 := Aside0.mk (HT.out.below HB6.out); have z2 := HT6.out.head (j := r) HRL.out; have f0 : w6.frozen? ⟨g, b, none⟩ = false := HT6.out.head_frozen b; have z3 := HT6.out.head (j := b) HBL.out; have z4 := HT6.out.far_cell (w' := w6.setCell ⟨g, b, none⟩ (.slice (some ⟨bs r, 0, none⟩) n (cs r))) (k := b) (u := .slice (some ⟨bs r, 0, none⟩) n (cs r)) HBL.out (i := c) (by omega) (fun _ _ => rfl))
          refine (spec_l01Inverse.calls K p (ent L b c) _ _ HV.out).mono ?_
          rintro e w1 ⟨rfl, ⟨nd, rfl⟩⟩
          obtain ⟨wo, hwo⟩ : ∃ wo, wo = (w6.setCell ⟨g, b, none⟩ (.slice (some ⟨bs r, 0, none⟩) n (cs r))).drewN nd := ⟨_, rfl⟩
          rw [← hwo]
          have HXO := Aside0.mk (show ∀ i, i < w6.heap.size → wo.heap[i]? = (w6.setCell ⟨g, b, none⟩ (.slice (some ⟨bs r, 0, none⟩) n (cs r))).heap[i]? by intro i hi; rw [hwo]; rfl)
          have HSO := Aside0.mk (show wc.heap.size ≤ wo.heap.size by rw [hwo]; have := below_size HB6.out; simpa [World.setCell] using this)
          have HBO := Aside0.mk (show Below w0.heap.size w0 wo by rw [hwo]; exact pw_below_drewN ((below_step HB.out HB6.out).setCell (p := ⟨g, b, none⟩) HT.out.gB _) nd)
          have HOO := Aside0.mk (show Kd.R (Kd.int .i64) 2 wo wc.heap.size (fun _ => True) v139 (ld p v (L.getD b []) 0) by
            rw [hwo]
            refine Kd.R_drewN (Kd.R_mono (Kd.R_far (p := ⟨g, b, none⟩) (Kd.R_bound HO.out) (fun k hk => ?_) _) (fun _ _ => trivial)) nd
            have := HT.out.g_lt
            have := hk.2.1
            show k ≠ g
            omega)
          have HXC := Aside0.mk (show ∀ i, i < wc.heap.size → wo.heap[i]? = (wc.setCell ⟨g, b, none⟩ (.slice (some ⟨bs r, 0, none⟩) n (cs r))).heap[i]? from fun i hi => (HXO.out i (Nat.lt_of_lt_of_le hi (below_size HB6.out))).trans (setCell_cong (HB6.out.block i hi) _ _))
          have HT0 := HT
          clear hwo z1 z2 z3 z4 f0 HO HT HB HS HV HXO HT6 HB6
          go_wp2_with fail
          go_loopg [11, 13] n (fun fq v11 v13 w' => ∃ (j : Nat), v13 = .int .i64 (j : Int) ∧ Aside0 (j + fq = n) ∧ Aside0 (Kd.R (Kd.int .i64) 2 w' wc.heap.size (fun _ => True) v11 (ld p v (L.getD b []) j)) ∧ Aside0 (Below wc.heap.size wo w'))
          case atStart => exact ⟨0, rfl, ⟨by omega⟩, HOO, ⟨Below.refl _ _⟩⟩
          case round =>
            clear HOO
            obtain ⟨j, rfl, HJ, HO, HBW⟩ := hrel
            have HXW := Aside0.mk (show ∀ i, i < wc.heap.size → wr.heap[i]? = (wc.setCell ⟨g, b, none⟩ (.slice (some ⟨bs r, 0, none⟩) n (cs r))).heap[i]? from fun i hi => (HBW.out.block i hi).trans (HXC.out i hi))
            cases gk with
            | succ fq =>
              have hj := HJ.out
              have d3 : decide ((j : Int) < (n : Int)) = true := decide_eq_true (by omega)
              have p5 := eq_true (show (0 : Int) ≤ (j : Int) by omega)
              have p6 := eq_true (show (j : Int) < (n : Int) by omega)
              have z1 := HT0.out.far_cell HBL.out (i := j) (by omega) HXW.out
              have hw2 := i64_w (ent L b j * v)
              have hwj : wrap64 ((j : Int) + 1) = ((j + 1 : Nat) : Int) := by have := HM.out; unfold wrap64; omega
              have HWJ := Aside0.mk hwj
              have HLN := Aside0.mk (ld_small p v (L.getD b []) (m := j) (n := n) HM.out (by omega))
              have HSZ := Aside0.mk (show wc.heap.size ≤ wr.heap.size from Nat.le_trans HSO.out HBW.out.size)
              have HLS := Aside0.mk (ld_succ p v (L.getD b []) j)
              obtain ⟨x, hx⟩ : ∃ x, Int.tmod (wrap64 (ent L b j * v)) p = x := ⟨_, rfl⟩
              have HX := Aside0.mk (show ld p v (L.getD b []) (j + 1) = ld p v (L.getD b []) j ++ [x] by rw [HLS.out, ← hx]; rfl)
              clear hwj HLS
              go_wp2_with ((with_reducible refine gate_builtin (b := .append) (xs := #[.tmp 81, .tmp 90]) rfl ?_); at_builtin; refine Kd.R_append (Kd.int .i64) (w0 := wo) wc.heap.size rfl (.tmp 81) (.tmp 90) 34 2 (.int .i64 0) 8 rfl Try.underlying34 infoI64 rfl (by decide) (by omega) u11 (ld p v (L.getD b []) j) x [.int .i64 x] (fun _ => True) (fun _ => False) ?aV ?aX ?aP (fun _ hk => hk.elim) (fun _ _ => trivial) ?aO ?aB ?aS ?aL ?_; (case aV => rfl); (case aX => rfl); (case aP => exact rfl); (case aB => exact HBW.out); (case aO => exact HO.out); (case aS => exact HSZ.out); (case aL => exact HLN.out); intro v108 w14 ho hb hg hat; have n1_ := Aside0.mk ho; have n2_ := Aside0.mk hb; clear ho hb hg hat)
              rw [← HX.out] at n1_
              go_roundg fq
              case measure => omega
              case rel => exact ⟨j + 1, congrArg _ HWJ.out, ⟨by omega⟩, n1_, n2_⟩
            | zero =>
              have hj := HJ.out
              have d3 : decide ((j : Int) < (n : Int)) = false := decide_eq_false (by omega)
              have d3n : decide (j < n) = false := decide_eq_false (by omega)
              have hjn : j = n := by omega
              have ho := HO.out
              rw [hjn] at ho
              obtain ⟨b2, cap2, RC, hv2, hb2, hcap2, hRC, hsz2, hcell⟩ := row_of_R ho (by rw [ld_len]; exact HN0.out)
              rw [ld_len] at hv2 hcap2 hcell
              have HTL := Aside0.mk (HT0.out.lead (k := b) (r := r) (b := b2) (c := cap2) (row := ld p v (L.getD b []) n) HBL.out HRL.out HXW.out hb2 hcap2 hsz2 (ld_len ..) hRC hcell)
              have HBL2 := Aside0.mk (show Below w0.heap.size w0 (wr.setCell ⟨g, r, none⟩ (.slice (some ⟨b2, 0, none⟩) n cap2)) from (below_step2 HBO.out HBW.out (Nat.le_trans (below_size HB0.out) (Nat.le_refl _))).setCell (p := ⟨g, r, none⟩) HT0.out.gB _)
              have HKL2 := Aside0.mk (show Kg w (wr.setCell ⟨g, r, none⟩ (.slice (some ⟨b2, 0, none⟩) n cap2)) g from (HKG.out.on (Nat.le_trans HSO.out HBW.out.size) fun k hk hne => (HXW.out k hk).trans (heap_setCell_other wc _ k _ hne)).set r _)
              obtain ⟨HCc, hHC, hHC2⟩ := HT0.out.outer
              have hg1 := (HXW.out g HT0.out.g_lt).trans (heap_setCell_same wc g b HCc _ (.slice (some ⟨bs r, 0, none⟩) n (cs r)) hHC)
              have f1 : wr.frozen? ⟨g, r, none⟩ = false := frozen_of_row _ _ _ _ _ hg1
              obtain ⟨u2, e2⟩ : ∃ u2, wr.cell? ⟨g, r, none⟩ = some u2 := by
                rw [cell_of_row _ _ _ _ _ _ hg1]
                exact ⟨_, Array.getElem?_eq_getElem (by rw [Array.size_setIfInBounds]; exact (Array.getElem?_eq_some_iff.1 (hHC2 r HRL.out)).1)⟩
              subst hv2
              rw [HL2.out] at HTL
              have HB2S := Aside0.mk hb2
              clear ho hb2 hcap2 hRC hsz2 hcell HO hjn hHC hHC2 hg1
              have HBC := Aside0.mk (show (fun l => if r = l then b2 else bs (sw b r l)) r = b2 ∧ (fun l => if r = l then cap2 else cs (sw b r l)) r = cap2 from ⟨if_pos rfl, if_pos rfl⟩)
              obtain ⟨bs1, hbs1⟩ : ∃ bs1, bs1 = fun l => if r = l then b2 else bs (sw b r l) := ⟨_, rfl⟩
              obtain ⟨cs1, hcs1⟩ : ∃ cs1, cs1 = fun l => if r = l then cap2 else cs (sw b r l) := ⟨_, rfl⟩
              have HNL := Aside0.mk (show ∀ l, l < m → Nw (bs1 l) by
                intro l hl
                rw [hbs1]
                show Nw (if r = l then b2 else bs (sw b r l))
                split
                · exact (HNW.out _).2 (.inr (Nat.le_trans HKG.out.sz HB2S.out))
                · exact HNA.out _ (sw_lt (by omega) (by omega) hl))
              rw [← hbs1, ← hcs1] at HTL HBC
              go_wp2_with fail
              clear e2 f1 hbs1 hcs1
              have q2 := eq_true (show (c : Int) < (n : Int) by omega)
              go_loopg [14] m (fun eq v14 w' => ∃ (t : Nat) (L' : List (List Int)) (bs' cs' : Nat → Nat), v14 = .int .i64 (t : Int) ∧ Aside0 (t + eq = m) ∧ Aside0 (L'.length = m) ∧ Aside0 (h1 p c n r eq t L' = L3) ∧ Aside0 (bs' r = b2 ∧ cs' r = cap2) ∧ Aside0 (Tab w' w0.heap.size g n bs' cs' L') ∧ Aside0 (Below w0.heap.size w0 w') ∧ Aside0 (Kg w w' g) ∧ Aside0 (∀ j, j < m → Nw (bs' j)))
              case atStart => exact ⟨0, L2, bs1, cs1, rfl, ⟨by omega⟩, HN2, HL3, HBC, HTL, HBL2, HKL2, HNL⟩
              case round =>
                clear HTL HBL2 HKL2 HKG HNL HNA HNO HN2 HL3 HBC HXW HBW HXC HT0 HSO HBO HBL HL2 HN HB0
                obtain ⟨i, L', bs', cs', rfl, HIE, HN, HL2, HBC, HTB, HBB, HKB, HNA⟩ := hrel
                cases gk with
                | zero =>
                  have hie := HIE.out
                  have d1 : decide ((i : Int) < (m : Int)) = false := decide_eq_false (by omega)
                  have e : L' = L3 := HL2.out
                  subst e
                  have y1 : wrap64 ((r : Int) + 1) = (r : Int) + 1 := by have := HMM.out; unfold wrap64; omega
                  have y2 := eq_true (show (0 : Int) ≤ (r : Int) + 1 by omega)
                  have y3 := eq_true (show (r : Int) + 1 ≤ (cap : Int) by have := HCAP.out; omega)
                  have y4 := eq_false (show ¬ cap = 0 by have := HCAP.out; omega)
                  have y5 := eq_false (show ¬ ((cap : Int) < (r : Int) + 1) by have := HCAP.out; omega)
                  have HRM := Aside0.mk (show r < m by omega)
                  have HRK := Aside0.mk (show r + 1 ≤ L'.length by have := HN.out; omega)
                  have HRL3 := Aside0.mk (show r + 1 ≤ maxLen by have := HCAP.out; have := HMAX.out; omega)
                  have HWZ := Aside0.mk (show w0.heap.size ≤ (wr.alloc (.cells #[] 34)).heap.size by have := below_size HBB.out; show w0.heap.size ≤ (wr.heap.push _).size; rw [Array.size_push]; omega)
                  have HWK := Aside0.mk (show w.heap.size ≤ (wr.alloc (.cells #[] 34)).heap.size by have := HKB.out.sz; show w.heap.size ≤ (wr.heap.push _).size; rw [Array.size_push]; omega)
                  have HTA := Aside0.mk (HTB.out.alloc (.cells #[] 34))
                  have HNW := Aside0.mk (heap_alloc_new wr (.cells #[] 34))
                  have hroom : (r + 1) * 24 ≤ 140737488355328 := by have := HMM.out; omega
                  have HROOM := Aside0.mk hroom
                  obtain ⟨ti, hti1, hti2, hti3, hti4⟩ := infoHead
                  clear HL2 hroom
                  go_wp2_with ((with_reducible refine gate_builtin (b := .append) (xs := #[.tmp 146, .tmp 150]) rfl ?_); at_builtin; refine wpList_append_own _ rfl (.tmp 146) (.tmp 150) 26 rfl w.heap.size 34 ti (.slice none 0 0) 1 24 Try.underlying26 hti1 hti2 hti3 hti4 rfl (by decide) (.slice (some ⟨wr.heap.size, 0, none⟩) 0 0) 0 [] rfl ?own ⟨g, 0, none⟩ (r + 1) cap ((List.range (r + 1)).map fun j => .slice (some ⟨bs' j, 0, none⟩) n (cs' j)) rfl ?len ?news ?one ?h63 ?hby ?hbs ?_; (case own => exact own_fresh HNW.out HKB.out.sz); (case len => simp); (case news => exact fun j u hu => HTA.out.head_add HRK.out hu); (case one => exact heads_one _ _ _ _); (case h63 => have := HRL3.out; omega); (case hby => have := HROOM.out; omega); (case hbs => exact HWK.out); intro v108 w14 ho hg hat; have n1_ := Aside0.mk ho; have n2_ := Aside0.mk hg; clear ho hg hat)
                  have hTw := HTB.out.step (w' := w14) (fun k hk => (n2_.out.block k (by show k < (wr.heap.push _).size; rw [Array.size_push]; omega) (fun e => by simp [Value.ownBlock] at e; omega)).trans (Below.heap_alloc wr _ k hk))
                  obtain ⟨g2, c2, co2, ev, hS, hco2, hg2⟩ := hTw.heads (B2 := w.heap.size) HSW.out (k := r + 1) HRK.out (by omega) HN0.out (v := v108) (by have h_ := n1_.out; rw [Nat.zero_add, List.nil_append] at h_; exact h_)
                  subst ev
                  have HCO2 := Aside0.mk hco2
                  have HG2 := Aside0.mk hg2
                  have HKW := Aside0.mk (show Kg w w14 g from HKB.out.on (by have h1_ := n2_.out.size; have h2_ : wr.heap.size ≤ (wr.alloc (.cells #[] 34)).heap.size := (by show _ ≤ (wr.heap.push _).size; rw [Array.size_push]; omega); omega) (fun k hk _ => (n2_.out.block k (by show k < (wr.heap.push _).size; rw [Array.size_push]; omega) (fun e => by simp [Value.ownBlock] at e; omega)).trans (Below.heap_alloc wr _ k hk)))
                  have HS2 := Aside0.mk hS
                  have HT2 := Aside0.mk hTw
                  have HB2 := Aside0.mk (show Below w0.heap.size w0 w14 from grown_below (HBB.out.alloc (below_size HBB.out) (.cells #[] 34)) n2_.out HWZ.out (fun k hk => by have h1_ := below_size HBB.out; simp [Value.ownBlock] at hk; omega))
                  have HR2 := Aside0.mk (show r + 1 ≤ c + 1 ∧ r + 1 ≤ m by have := HR.out; have := HRM.out; omega)
                  clear n1_ n2_ hTw hS hco2 hg2
                  go_roundg dq
                  case measure => omega
                  case rel => exact ⟨c + 1, r + 1, c2, g2, L', bs', cs', bs', co2, rfl, congrArg _ HWC.out, ⟨by omega⟩, HR2, HN, HH3, HT2, HB2, HS2, HCO2, HG2, HKW, HNA, ⟨fun j hj => HNA.out j (by have := HRM.out; omega)⟩⟩
                | succ eq =>
                  have hie := HIE.out
                  have d1 : decide ((i : Int) < (m : Int)) = true := decide_eq_true (by omega)
                  have hil : i < L'.length := by have := HN.out; omega
                  have hrl : r < L'.length := by have := HN.out; omega
                  have e := HL2.out
                  simp only [h1] at e
                  obtain ⟨f, hf⟩ : ∃ f, ent L' i c = f := ⟨_, rfl⟩
                  rw [hf] at e
                  have z1 := HTB.out.head (j := i) hil
                  have z2 := HTB.out.cell (j := i) (i := c) hil (by omega)
                  rw [hf] at z2
                  have p5 := eq_true (show (0 : Int) ≤ (i : Int) by omega)
                  have p6 := eq_true (show (i : Int) < (m : Int) by omega)
                  have hwi : wrap64 ((i : Int) + 1) = ((i + 1 : Nat) : Int) := by have := HMM.out; unfold wrap64; omega
                  have HWI := Aside0.mk hwi
                  have HIL := Aside0.mk hil
                  have HRL2 := Aside0.mk hrl
                  clear hwi HL2 hf hil hrl
                  by_cases hir : i = r ∨ f = 0
                  · rw [if_pos hir] at e
                    have HL4 := Aside0.mk e
                    clear e
                    by_cases hir2 : i = r
                    · have d2 : ((i : Int) == (r : Int)) = true := by rw [beq_iff_eq]; omega
                      have d3 : (i == r) = true := by rw [beq_iff_eq]; exact hir2
                      have HIR := Aside0.mk hir2
                      clear hir hir2
                      go_wp2_with ((with_reducible refine gate_dst (N := 109) rfl ?_); refine Kd.R_lit (Kd.int .i64) _ 2 ?hg (N := 109) ?hd (xs := ([] : List Int)) (inner := []) (ok := fun _ => True) (okp := fun _ => True) ?hr ?hp (fun _ hk => hk) trivial (Below.refl _ _) (Nat.le_refl _) (by simp) ?_; (case hd => rfl); (case hg => rfl); (case hr => first | (go_simp; done) | (go_simp; rfl)); (case hp => exact (Reps.none _ _)); intro v139 w6 ho7 hb hg_ hnew_; clear hg_ hnew_; have HO := Aside0.mk ho7; have HB6 := Aside0.mk hb; clear ho7 hb)
                      go_roundg eq
                      case measure => omega
                      case rel => exact ⟨i + 1, L', bs', cs', congrArg _ HWI.out, ⟨by omega⟩, HN, HL4, HBC, ⟨HTB.out.below HB6.out⟩, ⟨below_step HBB.out HB6.out⟩, ⟨HKB.out.below HB6.out⟩, HNA⟩
                    · have hf0 : f = 0 := hir.resolve_left hir2
                      have d2 : ((i : Int) == (r : Int)) = false := by rw [beq_eq_false_iff_ne]; omega
                      have d3 : (i == r) = false := by rw [beq_eq_false_iff_ne]; exact hir2
                      have d4 : (f == 0) = true := by rw [beq_iff_eq]; exact hf0
                      clear hir hir2 hf0
                      go_wp2_with ((with_reducible refine gate_dst (N := 109) rfl ?_); refine Kd.R_lit (Kd.int .i64) _ 2 ?hg (N := 109) ?hd (xs := ([] : List Int)) (inner := []) (ok := fun _ => True) (okp := fun _ => True) ?hr ?hp (fun _ hk => hk) trivial (Below.refl _ _) (Nat.le_refl _) (by simp) ?_; (case hd => rfl); (case hg => rfl); (case hr => first | (go_simp; done) | (go_simp; rfl)); (case hp => exact (Reps.none _ _)); intro v139 w6 ho7 hb hg_ hnew_; clear hg_ hnew_; have HO := Aside0.mk ho7; have HB6 := Aside0.mk hb; clear ho7 hb)
                      go_roundg eq
                      case measure => omega
                      case rel => exact ⟨i + 1, L', bs', cs', congrArg _ HWI.out, ⟨by omega⟩, HN, HL4, HBC, ⟨HTB.out.below HB6.out⟩, ⟨below_step HBB.out HB6.out⟩, ⟨HKB.out.below HB6.out⟩, HNA⟩
                  · rw [if_neg hir] at e
                    have HL4 := Aside0.mk e
                    have d2 : ((i : Int) == (r : Int)) = false := by rw [beq_eq_false_iff_ne]; exact fun h => hir (.inl (by omega))
                    have d3 : (i == r) = false := by rw [beq_eq_false_iff_ne]; exact fun h => hir (.inl h)
                    have d4 : (f == 0) = false := by rw [beq_eq_false_iff_ne]; exact fun h => hir (.inr h)
                    have HIR := Aside0.mk (show ¬ i = r from fun h => hir (.inl h))
                    clear e hir
                    go_wp2_with ((with_reducible refine gate_dst (N := 109) rfl ?_); refine Kd.R_lit (Kd.int .i64) _ 2 ?hg (N := 109) ?hd (xs := ([] : List Int)) (inner := []) (ok := fun _ => True) (okp := fun _ => True) ?hr ?hp (fun _ hk => hk) trivial (Below.refl _ _) (Nat.le_refl _) (by simp) ?_; (case hd => rfl); (case hg => rfl); (case hr => first | (go_simp; done) | (go_simp; rfl)); (case hp => exact (Reps.none _ _)); intro v139 w6 ho7 hb hg_ hnew_; clear hg_ hnew_; have HO := Aside0.mk ho7; have HB6 := Aside0.mk hb; clear ho7 hb)
                    have hj0 := HIE.out
                    clear z1 z2 d2 d3 d4
                    obtain ⟨wo2, hwo⟩ : ∃ wo2, wr = wo2 := ⟨_, rfl⟩
                    rw [hwo] at HTB HBB HO HB6 HKB
                    clear hwo
                    go_loopg [16, 17] n (fun fq v16 v17 w' => ∃ (j : Nat), v17 = .int .i64 (j : Int) ∧ Aside0 (j + fq = n) ∧ Aside0 (Kd.R (Kd.int .i64) 2 w' wo2.heap.size (fun _ => True) v16 (nr p f L' i r j)) ∧ Aside0 (Below wo2.heap.size wo2 w'))
                    case atStart => exact ⟨0, rfl, ⟨by omega⟩, HO, HB6⟩
                    case round =>
                      clear HO HB6
                      obtain ⟨j, rfl, HJ, HO, HB6⟩ := hrel
                      have HTW := Aside0.mk (HTB.out.below HB6.out)
                      cases gk with
                      | zero =>
                        have hj := HJ.out
                        have d3 : decide ((j : Int) < (n : Int)) = false := decide_eq_false (by omega)
                        have d3n : decide (j < n) = false := decide_eq_false (by omega)
                        have hjn : j = n := by omega
                        have ho := HO.out
                        rw [hjn] at ho
                        obtain ⟨b3, cap3, RC, hv2, hb2, hcap2, hRC, hsz2, hcell⟩ := row_of_R ho (by rw [nr_len]; omega)
                        rw [nr_len] at hv2 hcap2 hcell
                        have hap : ∀ l, l < L'.length → bs' l ≠ b3 := by
                          intro l hl e
                          obtain ⟨_, _, RC', h3, _⟩ := HTB.out.row l hl
                          have := (Array.getElem?_eq_some_iff.1 h3).1
                          omega
                        have HTR := Aside0.mk (HTW.out.renew (j := i) (b := b3) (c := cap3) (r := nr p f L' i r n) HIL.out (Nat.le_trans (below_size HBB.out) hb2) hcap2 hsz2 (nr_len ..) hRC hcell hap)
                        have HBR := Aside0.mk ((below_step HBB.out HB6.out).setCell (p := ⟨g, i, none⟩) HTB.out.gB (.slice (some ⟨b3, 0, none⟩) n cap3))
                        have HNR := Aside0.mk (show ∀ l, l < m → Nw (if i = l then b3 else bs' l) by
                          intro l hl
                          split
                          · exact (HNW.out _).2 (.inr (Nat.le_trans HKB.out.sz hb2))
                          · exact HNA.out l hl)
                        have HKR := Aside0.mk ((HKB.out.below HB6.out).set i (.slice (some ⟨b3, 0, none⟩) n cap3))
                        subst hv2
                        have f1 := HTW.out.head_frozen i
                        have z1 := HTW.out.head (j := i) HIL.out
                        clear ho hb2 hcap2 hRC hsz2 hcell hap HO hjn HTW
                        go_wp2_with fail
                        go_roundg eq
                        case measure => omega
                        case rel => exact ⟨i + 1, L'.set i (nr p f L' i r n), fun l => if i = l then b3 else bs' l, fun l => if i = l then cap3 else cs' l, congrArg _ HWI.out, ⟨by omega⟩, ⟨by rw [List.length_set]; exact HN.out⟩, HL4, ⟨by show (if i = r then b3 else bs' r) = b2 ∧ (if i = r then cap3 else cs' r) = cap2; rw [if_neg HIR.out, if_neg HIR.out]; exact HBC.out⟩, HTR, HBR, HKR, HNR⟩
                      | succ fq =>
                        have hj := HJ.out
                        have d3 : decide ((j : Int) < (n : Int)) = true := decide_eq_true (by omega)
                        have d3n : decide (j < n) = true := decide_eq_true (by omega)
                        have z1 := HTW.out.head (j := i) HIL.out
                        have z2 := HTW.out.cell (j := i) (i := j) HIL.out (by omega)
                        have z3 := HTW.out.cell (j := r) (i := j) HRL2.out (by omega)
                        rw [HBC.out.1] at z3
                        have p7 := eq_true (show (0 : Int) ≤ (j : Int) by omega)
                        have p8 := eq_true (show (j : Int) < (n : Int) by omega)
                        have hw2 := i64_w (f * ent L' r j)
                        have hw3 := i64_w (ent L' i j - wrap64 (f * ent L' r j))
                        have hwj : wrap64 ((j : Int) + 1) = ((j + 1 : Nat) : Int) := by have := HM.out; unfold wrap64; omega
                        have HWJ := Aside0.mk hwj
                        have HLN := Aside0.mk (nr_small p f L' i r (m := j) (n := n) HM.out (by omega))
                        clear hwj
                        have HS := Aside0.mk (show ∀ w', Below wo2.heap.size wo2 w' → (w'.cell? ⟨g, i, none⟩ = some (.slice (some ⟨bs' i, 0, none⟩) n (cs' i)) ∧ w'.cell? ⟨bs' i, j, none⟩ = some (.int .i64 (ent L' i j)) ∧ w'.cell? ⟨b2, j, none⟩ = some (.int .i64 (ent L' r j))) by
                          intro w' hb'
                          have T := HTB.out.below hb'
                          refine ⟨T.head (j := i) HIL.out, T.cell (j := i) (i := j) HIL.out (by omega), ?_⟩
                          rw [← HBC.out.1]
                          exact T.cell (j := r) (i := j) HRL2.out (by omega))
                        obtain ⟨x, hx⟩ : ∃ x, md p (wrap64 (ent L' i j - wrap64 (f * ent L' r j))) = x := ⟨_, rfl⟩
                        have HX := Aside0.mk hx
                        have HCM : ∀ ww, Calls Try.prog 50 #[.int .i64 p, .int .i64 (wrap64 (ent L' i j - wrap64 (f * ent L' r j)))] ww fun e w' => e = .returned (.int .i64 x) ∧ w' = ww := by
                          intro ww; rw [← hx]; exact mod_same p _ ww HP.out
                        have HC2 := Aside0.mk HCM
                        clear hx HTW HCM
                        have HO2 := Aside0.mk (show Kd.R (Kd.int .i64) 2 wr.drew wo2.heap.size (fun _ => True) u16 (nr p f L' i r j) from Kd.R_drew HO.out)
                        have HB2 := Aside0.mk (show Below wo2.heap.size wo2 wr.drew from HB6.out.drew)
                        go_wp2_with fail
                        go_region_held3 (fun w' => w'.cell? ⟨g, i, none⟩ = some (.slice (some ⟨bs' i, 0, none⟩) n (cs' i)) ∧ w'.cell? ⟨bs' i, j, none⟩ = some (.int .i64 (ent L' i j)) ∧ w'.cell? ⟨b2, j, none⟩ = some (.int .i64 (ent L' r j)))
                          (first | exact HS.out _ hb | go_keep)
                          (first | (refine Kd.R_append_step (Kd.int .i64) (w0 := wo2) (W := wr.drew) wo2.heap.size (by rfl) (.tmp 123) (.tmp 140) 34 2 (.int .i64 0) 8 (by rfl) Try.underlying34 infoI64 rfl (by decide) (by omega) u16 (nr p f L' i r j) x [.int .i64 x] (fun _ => True) (fun _ => False) (by rfl) (by rfl) rfl (fun _ hk => hk.elim) (fun _ _ => trivial) HO2.out HB2.out (below_size HB2.out) HLN.out ?_; intro v155 w10 ho hb hg hat) | (go_simp; go_at_call 50; (with_reducible refine (HC2.out _).mono ?_); rintro e w' ⟨rfl, rfl⟩))
                        rw [← HX.out, ← nr_succ] at ho
                        have n0_ := Aside0.mk hb
                        have n1_ := Aside0.mk ho
                        clear HB6 HO ho hb hg hat z1 z2 z3
                        have HB6 := n0_
                        have HO := n1_
                        clear n0_ n1_
                        go_wp2_with fail
                        go_roundg fq
                        case measure => omega
                        case rel => exact ⟨j + 1, congrArg _ HWJ.out, ⟨by omega⟩, HO, HB6⟩
end Go.Proofs.Ytmpdloamgiejhaa.Hand
