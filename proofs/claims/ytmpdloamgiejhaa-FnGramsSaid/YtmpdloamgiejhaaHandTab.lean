/- A table of whole numbers as it lies: block g holds the rows' heads (row j: block bs j, capacity cs j), m rows of n numbers, no two rows in one block. No condition. -/
import Derived.Test.YtmpdloamgiejhaaHandP
import Derived.Test.YtmpdloamgiejhaaHandArcs8
namespace Go.Proofs.Ytmpdloamgiejhaa.Hand
open Go.RowKit Go.Proofs.YtmpdloamgiejhaaW.PrintWords Go.Proofs.YtmpdloamgiejhaaW.PrintLast Go.Proofs.YtmpdloamgiejhaaW.PrintMore
set_option linter.unusedVariables false
set_option linter.unusedSimpArgs false

/-- An entry. -/
def ent (L : List (List Int)) (j i : Nat) : Int := (L.getD j []).getD i 0
/-- A stored entry. -/
def put (L : List (List Int)) (j i : Nat) (v : Int) : List (List Int) := L.set j ((L.getD j []).set i v)
/-- Two rows change places. -/
def swp (L : List (List Int)) (j k : Nat) : List (List Int) := (L.set j (L.getD k [])).set k (L.getD j [])
/-- How large the blocks of a table are: place m of cs holds the capacity of the heads' row. -/
structure Siz (w : World) (g : Nat) (bs cs : Nat → Nat) (m : Nat) : Prop where
  head : ∃ HC : Array Value, w.heap[g]? = some (.cells HC 34 (0, 0)) ∧ HC.size = cs m ∧ m ≤ cs m ∧ cs m ≤ maxLen
  row : ∀ j, j < m → cs j ≤ maxLen ∧ ∃ RC : Array Value, w.heap[bs j]? = some (.cells RC 2 (0, 0)) ∧ RC.size = cs j
structure Tab (w : World) (B g n : Nat) (bs cs : Nat → Nat) (L : List (List Int)) : Prop where
  rows : ∀ j, j < L.length → (L.getD j []).length = n
  gB : B ≤ g
  outer : ∃ HC : Array Value, w.heap[g]? = some (.cells HC 34 (0, 0)) ∧ ∀ j, j < L.length → HC[j]? = some (.slice (some ⟨bs j, 0, none⟩) n (cs j))
  row : ∀ j, j < L.length → B ≤ bs j ∧ n ≤ cs j ∧ ∃ RC : Array Value, w.heap[bs j]? = some (.cells RC 2 (0, 0)) ∧ ∀ i, i < n → RC[i]? = some (.int .i64 (ent L j i))
  apart : ∀ j k, j < L.length → k < L.length → bs j = bs k → j = k
  sz : Siz w g bs cs L.length
section
variable {w w' : World} {B g n : Nat} {bs cs : Nat → Nat} {L : List (List Int)}
theorem Tab.head (h : Tab w B g n bs cs L) {j : Nat} (hj : j < L.length) : w.cell? ⟨g, j, none⟩ = some (.slice (some ⟨bs j, 0, none⟩) n (cs j)) := by
  obtain ⟨HC, h1, h2⟩ := h.outer
  rw [cell_of_row w g j _ _ (0, 0) h1]
  simpa using h2 j hj
theorem Tab.head_frozen (h : Tab w B g n bs cs L) (j : Nat) : w.frozen? ⟨g, j, none⟩ = false := by
  obtain ⟨HC, h1, _⟩ := h.outer
  exact frozen_of_row w g j _ _ h1
theorem Tab.cell (h : Tab w B g n bs cs L) {j i : Nat} (hj : j < L.length) (hi : i < n) : w.cell? ⟨bs j, i, none⟩ = some (.int .i64 (ent L j i)) := by
  obtain ⟨_, _, RC, h1, h2⟩ := h.row j hj
  rw [cell_of_row w (bs j) i _ _ (0, 0) h1]
  simpa using h2 i hi
theorem Tab.cell_frozen (h : Tab w B g n bs cs L) {j : Nat} (hj : j < L.length) (i : Nat) : w.frozen? ⟨bs j, i, none⟩ = false := by
  obtain ⟨_, _, RC, h1, _⟩ := h.row j hj
  exact frozen_of_row w (bs j) i _ _ h1
theorem Tab.ne (h : Tab w B g n bs cs L) {j : Nat} (hj : j < L.length) : bs j ≠ g := by
  obtain ⟨_, _, RC, h1, _⟩ := h.row j hj
  obtain ⟨HC, h2, _⟩ := h.outer
  intro e
  rw [e, h2] at h1
  injection h1 with h1
  injection h1 with _ h1
  exact absurd h1 (by decide)
theorem Siz.step {m : Nat} (h : Siz w g bs cs m) (hb : ∀ k, k < w.heap.size → w'.heap[k]? = w.heap[k]?) : Siz w' g bs cs m := by
  have lt : ∀ {k : Nat} {o : Obj}, w.heap[k]? = some o → k < w.heap.size := fun hk => (Array.getElem?_eq_some_iff.1 hk).1
  obtain ⟨⟨HC, h1, h2⟩, h3⟩ := h
  refine ⟨⟨HC, (hb g (lt h1)).trans h1, h2⟩, fun j hj => ?_⟩
  obtain ⟨h4, RC, h5, h6⟩ := h3 j hj
  exact ⟨h4, RC, (hb _ (lt h5)).trans h5, h6⟩
/-- A store keeps all sizes. -/
theorem size_kept {w : World} {b : Nat} {RC : Array Value} {t : TypeId} {fr : Nat × Nat} (h : w.heap[b]? = some (.cells RC t fr)) (p : Addr) (v : Value) : ∃ RC' : Array Value, (w.setCell p v).heap[b]? = some (.cells RC' t fr) ∧ RC'.size = RC.size := by
  by_cases e : b = p.block
  · subst e
    unfold World.setCell
    refine ⟨if p.spot.isSome then RC else RC.setIfInBounds p.off v, ?_, by split; rfl; rw [Array.size_setIfInBounds]⟩
    show (w.heap.modify p.block _)[p.block]? = _
    rw [Array.getElem?_modify, if_pos rfl, h]
    rfl
  · exact ⟨RC, Below.heap_setCell w p v b e |>.trans h, rfl⟩
theorem Siz.set {m : Nat} (h : Siz w g bs cs m) (p : Addr) (v : Value) : Siz (w.setCell p v) g bs cs m := by
  obtain ⟨⟨HC, h1, h2, h2b⟩, h3⟩ := h
  obtain ⟨HC', k1, k2⟩ := size_kept h1 p v
  refine ⟨⟨HC', k1, k2.trans h2, h2b⟩, fun j hj => ?_⟩
  obtain ⟨h4, RC, h5, h6⟩ := h3 j hj
  obtain ⟨RC', k3, k4⟩ := size_kept h5 p v
  exact ⟨h4, RC', k3, k4.trans h6⟩
theorem Tab.step (h : Tab w B g n bs cs L) (hb : ∀ k, k < w.heap.size → w'.heap[k]? = w.heap[k]?) : Tab w' B g n bs cs L := by
  have lt : ∀ {k : Nat} {o : Obj}, w.heap[k]? = some o → k < w.heap.size := fun hk => (Array.getElem?_eq_some_iff.1 hk).1
  refine ⟨h.rows, h.gB, ?_, ?_, h.apart, h.sz.step hb⟩
  · obtain ⟨HC, h1, h2⟩ := h.outer
    exact ⟨HC, (hb g (lt h1)).trans h1, h2⟩
  · intro j hj
    obtain ⟨h1, h2, RC, h3, h4⟩ := h.row j hj
    exact ⟨h1, h2, RC, (hb _ (lt h3)).trans h3, h4⟩
theorem Tab.below (h : Tab w B g n bs cs L) (hb : Below w.heap.size w w') : Tab w' B g n bs cs L := h.step fun k hk => hb.block k hk
theorem Tab.drewN (h : Tab w B g n bs cs L) (q : Nat) : Tab (w.drewN q) B g n bs cs L := h.step fun _ _ => rfl
theorem Tab.drew (h : Tab w B g n bs cs L) : Tab w.drew B g n bs cs L := h.step fun _ _ => rfl
theorem Tab.alloc (h : Tab w B g n bs cs L) (o : Obj) : Tab (w.alloc o) B g n bs cs L := h.step fun k hk => Below.heap_alloc w o k hk
/-- A store into a block that is none of the table's. -/
theorem Tab.far (h : Tab w B g n bs cs L) {p : Addr} (hg : g ≠ p.block) (hb : ∀ j, j < L.length → bs j ≠ p.block) (v : Value) : Tab (w.setCell p v) B g n bs cs L := by
  refine ⟨h.rows, h.gB, ?_, ?_, h.apart, h.sz.set p v⟩
  · obtain ⟨HC, h1, h2⟩ := h.outer
    exact ⟨HC, (heap_setCell_other w p g v hg).trans h1, h2⟩
  · intro j hj
    obtain ⟨h1, h2, RC, h3, h4⟩ := h.row j hj
    exact ⟨h1, h2, RC, (heap_setCell_other w p _ v (hb j hj)).trans h3, h4⟩
theorem put_len (L : List (List Int)) (j i : Nat) (v : Int) : (put L j i v).length = L.length := by unfold put; rw [List.length_set]
theorem swp_len (L : List (List Int)) (j k : Nat) : (swp L j k).length = L.length := by unfold swp; rw [List.length_set, List.length_set]
theorem getD_set {α : Type} (l : List α) (d v : α) (j k : Nat) (hj : j < l.length) : (l.set j v).getD k d = if j = k then v else l.getD k d := by
  rw [List.getD_eq_getElem?_getD, List.getD_eq_getElem?_getD, List.getElem?_set]
  by_cases e : j = k
  · rw [if_pos e, if_pos e, if_pos hj]; rfl
  · rw [if_neg e, if_neg e]
theorem put_row (L : List (List Int)) (j i : Nat) (v : Int) (hj : j < L.length) (k : Nat) : (put L j i v).getD k [] = if j = k then (L.getD j []).set i v else L.getD k [] := getD_set _ _ _ _ _ hj
theorem put_ent (L : List (List Int)) (j i : Nat) (v : Int) (hj : j < L.length) (hi : i < (L.getD j []).length) (k l : Nat) : ent (put L j i v) k l = if j = k ∧ i = l then v else ent L k l := by
  unfold ent
  rw [put_row L j i v hj]
  by_cases e : j = k
  · subst e
    rw [if_pos rfl, getD_set _ _ _ _ _ hi]
    by_cases e2 : i = l
    · rw [if_pos e2, if_pos ⟨rfl, e2⟩]
    · rw [if_neg e2, if_neg (fun h => e2 h.2)]
  · rw [if_neg e, if_neg (fun h => e h.1)]
/-- A store into a row. -/
theorem Tab.put (h : Tab w B g n bs cs L) {j i : Nat} (hj : j < L.length) (hi : i < n) (v : Int) : Tab (w.setCell ⟨bs j, i, none⟩ (.int .i64 v)) B g n bs cs (put L j i v) := by
  have hr := h.rows j hj
  refine ⟨fun k hk => ?_, h.gB, ?_, ?_, fun k l hk hl => h.apart k l (by rwa [put_len] at hk) (by rwa [put_len] at hl), by rw [put_len]; exact h.sz.set _ _⟩
  · rw [put_len] at hk
    rw [put_row L j i v hj]
    by_cases e : j = k
    · rw [if_pos e, List.length_set]; exact hr
    · rw [if_neg e]; exact h.rows k hk
  · obtain ⟨HC, h1, h2⟩ := h.outer
    exact ⟨HC, (heap_setCell_other w _ g _ (fun e => h.ne hj e.symm)).trans h1, fun k hk => h2 k (by rwa [put_len] at hk)⟩
  · intro k hk
    rw [put_len] at hk
    obtain ⟨h1, h2, RC, h3, h4⟩ := h.row k hk
    by_cases e : j = k
    · subst e
      refine ⟨h1, h2, RC.setIfInBounds i (.int .i64 v), heap_setCell_same w (bs j) i RC _ _ h3, fun l hl => ?_⟩
      rw [put_ent L j i v hj (by omega)]
      by_cases e2 : i = l
      · subst e2
        rw [if_pos ⟨rfl, rfl⟩, Array.getElem?_setIfInBounds_self_of_lt (Array.getElem?_eq_some_iff.1 (h4 i hl)).1]
      · rw [if_neg (fun h => e2 h.2), Array.getElem?_setIfInBounds_ne e2]
        exact h4 l hl
    · refine ⟨h1, h2, RC, (heap_setCell_other w _ _ _ (fun e2 => e (h.apart j k hj hk e2.symm))).trans h3, fun l hl => ?_⟩
      rw [put_ent L j i v hj (by omega), if_neg (fun h => e h.1)]
      exact h4 l hl
/-- Which row lies at a place behind the change. -/
def sw (j k l : Nat) : Nat := if l = j then k else if l = k then j else l
theorem sw_lt {j k l m : Nat} (hj : j < m) (hk : k < m) (hl : l < m) : sw j k l < m := by unfold sw; split; exact hk; split <;> assumption
theorem sw_inj {j k l l' : Nat} (h : sw j k l = sw j k l') : l = l' := by
  unfold sw at h
  split at h <;> split at h <;> (try split at h) <;> (try split at h) <;> omega
theorem swp_row (L : List (List Int)) (j k : Nat) (hj : j < L.length) (hk : k < L.length) (l : Nat) : (swp L j k).getD l [] = L.getD (sw j k l) [] := by
  unfold swp sw
  rw [getD_set _ _ _ _ _ (by rw [List.length_set]; exact hk), getD_set _ _ _ _ _ hj]
  by_cases e1 : k = l
  · rw [if_pos e1]
    by_cases e2 : l = j
    · rw [if_pos e2, e1, e2]
    · rw [if_neg e2, if_pos e1.symm]
  · rw [if_neg e1]
    by_cases e2 : j = l
    · rw [if_pos e2, if_pos e2.symm]
    · rw [if_neg e2, if_neg (fun h => e2 h.symm), if_neg (fun h => e1 h.symm)]
/-- Two heads change places. -/
theorem Tab.swap (h : Tab w B g n bs cs L) {j k : Nat} (hj : j < L.length) (hk : k < L.length) :
    Tab ((w.setCell ⟨g, j, none⟩ (.slice (some ⟨bs k, 0, none⟩) n (cs k))).setCell ⟨g, k, none⟩ (.slice (some ⟨bs j, 0, none⟩) n (cs j))) B g n (fun l => bs (sw j k l)) (fun l => cs (sw j k l)) (swp L j k) := by
  refine ⟨fun l hl => ?_, h.gB, ?_, ?_, fun a b ha hb e => ?_, ?_⟩
  · rw [swp_len] at hl
    rw [swp_row L j k hj hk]
    exact h.rows _ (sw_lt hj hk hl)
  · obtain ⟨HC, h1, h2⟩ := h.outer
    have s1 := heap_setCell_same w g j HC _ (.slice (some ⟨bs k, 0, none⟩) n (cs k)) h1
    refine ⟨_, heap_setCell_same _ g k _ _ _ s1, fun l hl => ?_⟩
    rw [swp_len] at hl
    have sz := fun q hq => (Array.getElem?_eq_some_iff.1 (h2 q hq)).1
    unfold sw
    by_cases e1 : k = l
    · subst e1
      rw [Array.getElem?_setIfInBounds_self_of_lt (by rw [Array.size_setIfInBounds]; exact sz k hk)]
      by_cases e2 : k = j
      · subst e2; simp only [if_true]
      · simp only [if_neg e2, if_true]
    · rw [Array.getElem?_setIfInBounds_ne e1]
      by_cases e2 : j = l
      · subst e2
        rw [Array.getElem?_setIfInBounds_self_of_lt (sz j hj)]
        simp only [if_true]
      · rw [Array.getElem?_setIfInBounds_ne e2]
        simp only [if_neg (fun h : l = j => e2 h.symm), if_neg (fun h : l = k => e1 h.symm)]
        exact h2 l hl
  · intro l hl
    rw [swp_len] at hl
    obtain ⟨h1, h2, RC, h3, h4⟩ := h.row _ (sw_lt hj hk hl)
    have hg := h.ne (sw_lt hj hk hl)
    refine ⟨h1, h2, RC, (heap_setCell_other _ _ _ _ hg).trans ((heap_setCell_other w _ _ _ hg).trans h3), fun i hi => ?_⟩
    unfold ent
    rw [swp_row L j k hj hk]
    exact h4 i hi
  · rw [swp_len] at ha hb
    exact sw_inj (h.apart _ _ (sw_lt hj hk ha) (sw_lt hj hk hb) e)
  · rw [swp_len]
    obtain ⟨z1, z2⟩ := (h.sz.set ⟨g, j, none⟩ (.slice (some ⟨bs k, 0, none⟩) n (cs k))).set ⟨g, k, none⟩ (.slice (some ⟨bs j, 0, none⟩) n (cs j))
    have e : sw j k L.length = L.length := by unfold sw; rw [if_neg (by omega), if_neg (by omega)]
    refine ⟨?_, fun l hl => z2 _ (sw_lt hj hk hl)⟩
    simp only [e]
    exact z1
/-- A new row takes the place of a row. -/
theorem Tab.renew (h : Tab w B g n bs cs L) {j b c : Nat} {RC : Array Value} {r : List Int} (hj : j < L.length) (hb : B ≤ b) (hc : n ≤ c) (hcs : RC.size = c ∧ c ≤ maxLen) (hr : r.length = n) (hR : w.heap[b]? = some (.cells RC 2 (0, 0))) (hv : ∀ i, i < n → RC[i]? = some (.int .i64 (r.getD i 0))) (hap : ∀ l, l < L.length → bs l ≠ b) :
    Tab (w.setCell ⟨g, j, none⟩ (.slice (some ⟨b, 0, none⟩) n c)) B g n (fun l => if j = l then b else bs l) (fun l => if j = l then c else cs l) (L.set j r) := by
  have hbg : b ≠ g := by
    intro e
    obtain ⟨HC, h2, _⟩ := h.outer
    rw [e, h2] at hR
    injection hR with hR
    injection hR with _ hR
    exact absurd hR (by decide)
  refine ⟨fun l hl => ?_, h.gB, ?_, ?_, fun a a' ha ha' e => ?_, ?_⟩
  · rw [List.length_set] at hl
    rw [getD_set _ _ _ _ _ hj]
    by_cases e : j = l
    · rw [if_pos e]; exact hr
    · rw [if_neg e]; exact h.rows l hl
  · obtain ⟨HC, h1, h2⟩ := h.outer
    refine ⟨_, heap_setCell_same w g j HC _ _ h1, fun l hl => ?_⟩
    rw [List.length_set] at hl
    by_cases e : j = l
    · subst e
      rw [Array.getElem?_setIfInBounds_self_of_lt (Array.getElem?_eq_some_iff.1 (h2 j hj)).1]
      simp only [if_true]
    · rw [Array.getElem?_setIfInBounds_ne e]
      simp only [if_neg e]
      exact h2 l hl
  · intro l hl
    rw [List.length_set] at hl
    by_cases e : j = l
    · subst e
      simp only [if_true]
      refine ⟨hb, hc, RC, (heap_setCell_other w _ _ _ hbg).trans hR, fun i hi => ?_⟩
      unfold ent
      rw [getD_set _ _ _ _ _ hj, if_pos rfl]
      exact hv i hi
    · simp only [if_neg e]
      obtain ⟨h1, h2, RC', h3, h4⟩ := h.row l hl
      refine ⟨h1, h2, RC', (heap_setCell_other w _ _ _ (h.ne hl)).trans h3, fun i hi => ?_⟩
      unfold ent
      rw [getD_set _ _ _ _ _ hj, if_neg e]
      exact h4 i hi
  · rw [List.length_set] at ha ha'
    by_cases e1 : j = a <;> by_cases e2 : j = a'
    · omega
    · rw [if_pos e1, if_neg e2] at e; exact absurd e.symm (hap a' ha')
    · rw [if_neg e1, if_pos e2] at e; exact absurd e (hap a ha)
    · rw [if_neg e1, if_neg e2] at e; exact h.apart a a' ha ha' e
  · rw [List.length_set]
    obtain ⟨z1, z2⟩ := h.sz.set ⟨g, j, none⟩ (.slice (some ⟨b, 0, none⟩) n c)
    refine ⟨by simp only [if_neg (show ¬ j = L.length by omega)]; exact z1, fun l hl => ?_⟩
    by_cases e : j = l
    · simp only [if_pos e]
      exact ⟨hcs.2, RC, (heap_setCell_other w _ _ _ hbg).trans hR, hcs.1⟩
    · simp only [if_neg e]
      exact z2 l hl
/-- A made table is one. -/
theorem Tab.of_S {A : Option Addr} {m c : Nat} {ok : Nat → Prop} (h : Kd.S (Kd.slice 2 (Kd.int .i64)) 34 w B ok (.slice A m c) L) (hr : ∀ r ∈ L, r.length = n) (hn : 0 < n) (hL : 0 < L.length) :
    ∃ g bs cs, A = some ⟨g, 0, none⟩ ∧ m = L.length ∧ m ≤ c ∧ c ≤ maxLen ∧ Tab w B g n bs cs L ∧ cs L.length = c := by
  obtain ⟨f, h0, inner, ho, hrep⟩ := h
  rw [List.length_zipIdx] at ho
  obtain ⟨ho1, ho2⟩ := ho
  rcases ho2 with ⟨_, hz⟩ | ⟨g, cap, cur, ev, hgB, hh, hle, hmax, hsz, htk⟩
  · omega
  · simp only [Value.slice.injEq] at ev
    obtain ⟨rfl, rfl, rfl⟩ := ev
    have hlen : inner.length = L.length * 1 := ho1
    have sz1 : (Kd.slice 2 (Kd.int .i64)).sz = 1 := rfl
    have tsz : (Kd.tag f (Kd.slice 2 (Kd.int .i64))).sz = 1 := rfl
    rw [tsz] at hrep htk hsz
    have elem : ∀ j, j < L.length → ∃ b cc RC, cur[j]? = some (.slice (some ⟨b, 0, none⟩) n cc) ∧ B ≤ b ∧ n ≤ cc ∧ f b = j ∧ w.heap[b]? = some (.cells RC 2 (0, 0)) ∧ (∀ i, i < n → RC[i]? = some (.int .i64 (ent L j i))) ∧ RC.size = cc ∧ cc ≤ maxLen := by
      intro j hj
      have hM := hrep.2 j _ (Kd.zip_at (List.getElem?_eq_getElem hj))
      obtain ⟨v, hv, hk0, inn, hown, hre⟩ := hM
      have hrn : L[j].length = n := hr _ (List.getElem_mem _)
      have hcur : cur[j]? = some v := by
        have e1 : inner[j]? = some v := by
          have := congrArg (fun l => l[0]?) hv
          simpa [List.getElem?_take, List.getElem?_drop] using this
        rw [← htk, List.getElem?_take] at e1
        split at e1
        · simpa using e1
        · cases e1
      obtain ⟨g1, g2⟩ := hown
      rcases g2 with ⟨_, hz⟩ | ⟨b, cc, RC, rfl, hbB, hbh, hble, hbm, hbsz, hbt⟩
      · simp only [] at hz; omega
      · simp only [] at hre hble hbt g1
        refine ⟨b, cc, RC, by rw [hcur, hrn], hbB, by omega, (hk0 b (by simp [Value.ownBlock])).2, hbh, fun i hi => ?_, by rw [hbsz, show (Kd.int .i64).sz = 1 from rfl, Nat.mul_one], hbm⟩
        have he := hre.2 i (L[j][i]'(by omega)) (List.getElem?_eq_getElem _)
        have e2 : inn[i]? = some (.int .i64 (L[j][i]'(by omega))) := by
          have := congrArg (fun l => l[0]?) (show (List.take 1 (List.drop (i * 1) inn)) = [Value.int .i64 _] from he)
          simpa [List.getElem?_take, List.getElem?_drop] using this
        rw [← hbt, List.getElem?_take] at e2
        split at e2
        · have e3 : RC[i]? = some (.int .i64 (L[j][i]'(by omega))) := by simpa using e2
          rw [e3]
          unfold ent
          rw [List.getD_eq_getElem?_getD, List.getD_eq_getElem?_getD, List.getElem?_eq_getElem hj, Option.getD_some, List.getElem?_eq_getElem (by omega), Option.getD_some]
        · cases e2
    have elem' : ∀ j, ∃ b cc, j < L.length → ∃ RC, cur[j]? = some (.slice (some ⟨b, 0, none⟩) n cc) ∧ B ≤ b ∧ n ≤ cc ∧ f b = j ∧ w.heap[b]? = some (.cells RC 2 (0, 0)) ∧ (∀ i, i < n → RC[i]? = some (.int .i64 (ent L j i))) ∧ RC.size = cc ∧ cc ≤ maxLen := by
      intro j
      by_cases hj : j < L.length
      · obtain ⟨b, cc, RC, hx⟩ := elem j hj
        exact ⟨b, cc, fun _ => ⟨RC, hx⟩⟩
      · exact ⟨0, 0, fun h => absurd h hj⟩
    have fact : ∀ j, j < L.length → ∃ RC, cur[j]? = some (.slice (some ⟨(elem' j).choose, 0, none⟩) n (if j < L.length then (elem' j).choose_spec.choose else c)) ∧ B ≤ (elem' j).choose ∧ n ≤ (if j < L.length then (elem' j).choose_spec.choose else c) ∧ f (elem' j).choose = j ∧ w.heap[(elem' j).choose]? = some (.cells RC 2 (0, 0)) ∧ (∀ i, i < n → RC[i]? = some (.int .i64 (ent L j i))) ∧ RC.size = (if j < L.length then (elem' j).choose_spec.choose else c) ∧ (if j < L.length then (elem' j).choose_spec.choose else c) ≤ maxLen := by
      intro j hj
      simp only [if_pos hj]
      exact (elem' j).choose_spec.choose_spec hj
    refine ⟨g, fun j => (elem' j).choose, fun j => if j < L.length then (elem' j).choose_spec.choose else c, rfl, rfl, hle, hmax, ⟨fun j hj => ?_, hgB, ⟨cur, hh, fun j hj => ?_⟩, fun j hj => ?_, fun j k hj hk e => ?_, ⟨cur, hh, ?_⟩, fun j hj => ?_⟩, ?_⟩
    · rw [List.getD_eq_getElem?_getD, List.getElem?_eq_getElem hj]
      exact hr _ (List.getElem_mem _)
    · exact (fact j hj).choose_spec.1
    · obtain ⟨RC, h1, h2, h3, h4, h5, h6, h7⟩ := fact j hj
      exact ⟨h2, h3, RC, h5, h6⟩
    · obtain ⟨_, _, _, _, e1, _⟩ := fact j hj
      obtain ⟨_, _, _, _, e2, _⟩ := fact k hk
      rw [show (elem' j).choose = (elem' k).choose from e] at e1
      omega
    · simp only [if_neg (Nat.lt_irrefl _)]
      exact ⟨by rw [hsz, Nat.mul_one], hle, hmax⟩
    · obtain ⟨RC, h1, h2, h3, h4, h5, h6, h7, h8⟩ := fact j hj
      exact ⟨h8, RC, h5, h7⟩
    · simp only [if_neg (Nat.lt_irrefl _)]
/-- .. and back: a table as it lies is a made one. -/
theorem Tab.to_S (h : Tab w B g n bs cs L) (hn : 0 < n) : Kd.S (Kd.slice 2 (Kd.int .i64)) 34 w B (fun _ => True) (.slice (some ⟨g, 0, none⟩) L.length (cs L.length)) L := by
  obtain ⟨HC, hH, hS, hle, hmx⟩ := h.sz.head
  obtain ⟨HC', hH', hE⟩ := h.outer
  rw [hH] at hH'
  obtain rfl : HC = HC' := by injection hH' with e; injection e
  obtain ⟨f, hf⟩ : ∃ f : Nat → Nat, ∀ j, j < L.length → f (bs j) = j := by
    refine ⟨fun b => ((List.range L.length).find? (fun j => bs j == b)).getD 0, fun j hj => ?_⟩
    show ((List.range L.length).find? (fun i => bs i == bs j)).getD 0 = j
    cases e : (List.range L.length).find? (fun i => bs i == bs j) with
    | none =>
      have := List.find?_eq_none.1 e j (List.mem_range.2 hj)
      simp at this
    | some i =>
      have h1 := List.find?_some e
      have h2 := List.mem_range.1 (List.mem_of_find?_eq_some e)
      simp only [beq_iff_eq] at h1
      exact h.apart i j h2 hj h1
  have hlen : (HC.toList.take L.length).length = L.length := by rw [List.length_take, show HC.toList.length = HC.size from rfl, hS]; omega
  refine ⟨f, fun _ _ => trivial, HC.toList.take L.length, ?_, ?_⟩
  · rw [List.length_zipIdx]
    refine ⟨?_, .inr ⟨g, cs L.length, HC, rfl, h.gB, hH, hle, hmx, ?_, ?_⟩⟩
    · rw [hlen]; exact (Nat.mul_one _).symm
    · rw [hS]; exact (Nat.mul_one _).symm
    · exact congrArg (fun k => HC.toList.take k) (Nat.mul_one _)
  · refine ⟨by rw [hlen, List.length_zipIdx]; exact (Nat.mul_one _).symm, fun j p hp => ?_⟩
    rw [List.getElem?_zipIdx] at hp
    cases e : L[j]? with
    | none => rw [e] at hp; cases hp
    | some r =>
      rw [e] at hp
      obtain rfl : (r, 0 + j) = p := Option.some.inj hp
      have hj : j < L.length := (List.getElem?_eq_some_iff.1 e).1
      obtain ⟨hb, hc, RC, hR, hv⟩ := h.row j hj
      obtain ⟨hm, RC', hR', hs⟩ := h.sz.row j hj
      rw [hR] at hR'
      obtain rfl : RC = RC' := by injection hR' with e; injection e
      have hrow : L.getD j [] = r := by rw [List.getD_eq_getElem?_getD, e]; rfl
      have hrl : r.length = n := by rw [← hrow]; exact h.rows j hj
      have hci : (HC.toList.take L.length)[j]? = some (.slice (some ⟨bs j, 0, none⟩) n (cs j)) := by rw [List.getElem?_take, if_pos hj, Array.getElem?_toList]; exact hE j hj
      refine ⟨.slice (some ⟨bs j, 0, none⟩) n (cs j), ?_, ?_⟩
      · show ((HC.toList.take L.length).drop (j * 1)).take 1 = _
        rw [Nat.mul_one, List.drop_eq_getElem_cons (by rw [hlen]; exact hj), List.take_succ_cons, List.take_zero, (List.getElem?_eq_some_iff.1 hci).2]
      · refine ⟨fun k hk => ?_, RC.toList.take n, ?_, ?_⟩
        · have hk2 : bs j = k := by simpa [Value.ownBlock] using hk
          subst hk2
          refine ⟨⟨trivial, ?_⟩, ?_⟩
          · simp [Value.ownBlock]
            exact h.ne hj
          · simp only [Nat.zero_add]; exact hf j hj
        · rw [hrl]
          refine ⟨?_, .inr ⟨bs j, cs j, RC, rfl, hb, hR, hc, hm, ?_, ?_⟩⟩
          · rw [List.length_take, Array.length_toList, hs, Nat.min_eq_left hc]; exact (Nat.mul_one _).symm
          · rw [hs]; exact (Nat.mul_one _).symm
          · exact congrArg (fun k => RC.toList.take k) (Nat.mul_one _)
        · refine ⟨by rw [List.length_take, Array.length_toList, hs, Nat.min_eq_left hc, hrl]; exact (Nat.mul_one _).symm, fun i x hx => ?_⟩
          have hi : i < n := by rw [← hrl]; exact (List.getElem?_eq_some_iff.1 hx).1
          have hvi := hv i hi
          have hent : ent L j i = x := by unfold ent; rw [hrow, List.getD_eq_getElem?_getD, hx]; rfl
          rw [hent] at hvi
          show ((RC.toList.take n).drop (i * 1)).take 1 = [.int .i64 x]
          have hri : (RC.toList.take n)[i]? = some (.int .i64 x) := by rw [List.getElem?_take, if_pos hi, Array.getElem?_toList]; exact hvi
          have hil : i < (RC.toList.take n).length := (List.getElem?_eq_some_iff.1 hri).1
          rw [Nat.mul_one, List.drop_eq_getElem_cons hil, List.take_succ_cons, List.take_zero, (List.getElem?_eq_some_iff.1 hri).2]
end
end Go.Proofs.Ytmpdloamgiejhaa.Hand
