/- The contract of spec.l04Radical, over a table as it lies. No condition. -/
import Derived.Test.YtmpdloamgiejhaaHandKer
import Derived.Maps.AppendAt
namespace Go.Proofs.Ytmpdloamgiejhaa.Hand
open Go.RowKit Go.Proofs.YtmpdloamgiejhaaW.PrintWords Go.Proofs.YtmpdloamgiejhaaW.PrintLast Go.Proofs.YtmpdloamgiejhaaW.PrintMore
set_option linter.unusedVariables false
set_option linter.unusedSimpArgs false

/-- append(v, row), behind 'at_builtin'; where the new row of heads lies is told. -/
theorem append_tab2 {W : World} {B g n : Nat} {bs cs : Nat → Nat} {L : List (List Int)} {ops : Array Oper} {rest : List Oper} {o : Oper} {a : Act} {Q : Exit → Act → World → Prop} (w0 : World) (hgd : o.guard = none) (s x : Operand)
    (ho : o.op = .call { callee := .builtin .append, args := #[s, x], argTypes := #[26, 26] }) (h : Tab W B g n bs cs L) {b c : Nat} {r : List Int} (hr : Row W b c r) (hrl : r.length = n) (hb : B ≤ b) (hap : ∀ l, l < L.length → bs l ≠ b)
    (hs : a.eval s = .slice (some ⟨g, 0, none⟩) L.length (cs L.length)) (hx : a.eval x = .slice (some ⟨W.heap.size, 0, none⟩) 1 1) (hB : Below B w0 W) (hBs : B ≤ W.heap.size) (hsm : L.length ≤ 1000)
    (hh : ∀ g2 cap bs2 cs2 w', Tab w' B g2 n bs2 cs2 (L ++ [r]) → cs2 (L.length + 1) = cap → Kg W w' g → Below B w0 w' → (g2 = g ∨ W.heap.size ≤ g2) → wpList Try.prog ops Q rest (a.put o.dst (.slice (some ⟨g2, 0, none⟩) (L.length + 1) cap)) w') :
    wpList Try.prog ops Q (o :: rest) a (W.alloc (.cells #[.slice (some ⟨b, 0, none⟩) n c] 34)) := by
  obtain ⟨ti, hti1, hti2, hti3, hti4⟩ := infoHead
  have hsz : (W.alloc (.cells #[.slice (some ⟨b, 0, none⟩) n c] 34)).heap.size = W.heap.size + 1 := by show (W.heap.push _).size = _; rw [Array.size_push]
  refine wpList_append_own_at _ hgd s x 26 ho B 34 ti (.slice none 0 0) 1 24 Try.underlying26 hti1 hti2 hti3 hti4 rfl (by decide) _ L.length _ hs (h.alloc _).own ⟨W.heap.size, 0, none⟩ 1 1 [.slice (some ⟨b, 0, none⟩) n c] hx rfl (cell_one_new _ _ _) ?_ ?_ ?_ ?_ ?_
  · intro u hu; rw [List.mem_singleton] at hu; subst hu; rfl
  · unfold maxLen; omega
  · omega
  · omega
  · intro v' w' hown hg _ hat
    have hk : ∀ k, k < W.heap.size → k ≠ g → w'.heap[k]? = W.heap[k]? := fun k hk hne => (hg.block k (by omega) (fun e => hne (by simpa [Value.ownBlock] using e))).trans (Below.heap_alloc W _ k hk)
    obtain ⟨g2, cap, bs2, cs2, rfl, hT, hc⟩ := h.snoc hr hrl hb hap hown hk
    refine hh g2 cap bs2 cs2 w' hT hc ⟨by have := hg.size; omega, hk⟩ (grown_below (hB.alloc hBs _) hg (by omega) (fun k hk => by have := h.gB; simp [Value.ownBlock] at hk; omega)) ?_
    rcases hat with hat | hat
    · left; simpa [Value.ownBlock] using hat
    · right; have : g2 = (W.alloc (.cells #[.slice (some ⟨b, 0, none⟩) n c] 34)).heap.size := by simpa [Value.ownBlock] using hat
      omega
/-- The first m entries of a column; the first columns. -/
def trr (T : List (List Int)) (j m : Nat) : List Int := (List.range m).map fun i => ent T i j
def trs (T : List (List Int)) (n j : Nat) : List (List Int) := (List.range j).map fun j => trr T j n
theorem trr_succ (T : List (List Int)) (j m : Nat) : trr T j (m + 1) = trr T j m ++ [ent T m j] := by unfold trr; rw [List.range_succ, List.map_append]; rfl
theorem trr_len (T : List (List Int)) (j m : Nat) : (trr T j m).length = m := by unfold trr; simp
theorem trs_succ (T : List (List Int)) (n j : Nat) : trs T n (j + 1) = trs T n j ++ [trr T j n] := by unfold trs; rw [List.range_succ, List.map_append]; rfl
theorem trs_len (T : List (List Int)) (n j : Nat) : (trs T n j).length = j := by unfold trs; simp
/-- -1 from place i on. -/
def lf : Nat → Nat → List Int → List Int
  | 0, _, l => l
  | d + 1, i, l => lf d (i + 1) (l.set i (-1))
/-- The leads of the rows from i on. -/
def ls (R : List (List Int)) (n : Nat) : Nat → Nat → List Int → List Int
  | 0, _, l => l
  | d + 1, i, l => ls R n d (i + 1) (match fz (R.getD i []) n 0 with
    | none => l
    | some j => l.set j ((i : Nat) : Int))
/-- A vector of the radical: the places from i on. -/
def ow (p : Int) (R : List (List Int)) (ld : List Int) (j : Nat) : Nat → Nat → List Int → List Int
  | 0, _, x => x
  | d + 1, i, x => ow p R ld j d (i + 1) (if 0 ≤ ld.getD i 0 then x.set i (md p (wrap64 (-(ent R (ld.getD i 0).toNat j)))) else x)
/-- All vectors from place j on. -/
def os (p : Int) (R : List (List Int)) (ld : List Int) (n : Nat) : Nat → Nat → List (List Int) → List (List Int)
  | 0, _, acc => acc
  | d + 1, j, acc => os p R ld n d (j + 1) (if 0 ≤ ld.getD j 0 then acc else acc ++ [ow p R ld j n 0 ((List.replicate n 0).set j 1)])
/-- An entry of the leads is -1 or the number of a row. -/
def Lead (r : Nat) (l : List Int) : Prop := ∀ x ∈ l, x = -1 ∨ (0 ≤ x ∧ x < (r : Int))
theorem made (n : Nat) (hn : n ≤ 100) : ∃ ZC : Array Value, (∀ W : World, (Instr.makeSlice 34 (.int .i64 (n : Int)) (.int .i64 (n : Int))).run Try.prog W = .ok (.slice (some ⟨W.heap.size, 0, none⟩) n n) (W.alloc (.cells ZC 2))) ∧ ZC.size = n ∧ ∀ i, i < n → ZC[i]? = some (.int .i64 0) := by
  have h := infoI64
  cases e : Try.prog.info? 2 with
  | none => rw [e] at h; cases h
  | some i =>
    rw [e] at h
    simp only [Option.map_some, Option.some.injEq, Prod.mk.injEq] at h
    obtain ⟨h1, h2, h3⟩ := h
    refine ⟨madeCells (Value.int .i64 0).cells (n * 1), fun W => ?_, ?_, fun k hk => ?_⟩
    · have hr := run_make (P := Try.prog) W 34 2 i (.int .i64 0) Try.underlying34 e h1 .i64 .i64 (n : Int) (n : Int) (by omega) (Int.le_refl _) (by rw [h3]; omega) (by omega)
      rw [Int.toNat_natCast, h2] at hr
      exact hr
    · rw [size_madeCells, Nat.mul_one]
    · simp [madeCells, Value.cells, hk]
      rw [Nat.mod_one]; rfl
theorem Row.fresh {w : World} {n : Nat} {ZC : Array Value} (h1 : ZC.size = n) (h2 : ∀ i, i < n → ZC[i]? = some (.int .i64 0)) (hn : n ≤ 100) : Row (w.alloc (.cells ZC 2)) w.heap.size n (List.replicate n 0) :=
  ⟨by unfold maxLen; omega, by simp, ZC, heap_alloc_new w _, h1, fun i hi => by
    rw [List.length_replicate] at hi
    rw [h2 i hi, List.getD_eq_getElem?_getD, List.getElem?_replicate, if_pos hi]; rfl⟩
theorem Tab.b_lt {w : World} {B g n : Nat} {bs cs : Nat → Nat} {L : List (List Int)} (h : Tab w B g n bs cs L) {j : Nat} (hj : j < L.length) : bs j < w.heap.size := by
  obtain ⟨_, _, RC, h1, _⟩ := h.row j hj
  exact (Array.getElem?_eq_some_iff.1 h1).1
/-- No row of a table lies where a row of heads lies. -/
theorem Tab.b_ne {w : World} {B g n B' g' n' : Nat} {bs cs bs' cs' : Nat → Nat} {L L' : List (List Int)} (h : Tab w B g n bs cs L) (h' : Tab w B' g' n' bs' cs' L') {j : Nat} (hj : j < L.length) : bs j ≠ g' := (h.row_ hj).ne h'
theorem lf_go (n : Nat) : ∀ (d i : Nat) (l : List Int), i + d = n → l.length = n → (∀ k, k < i → l.getD k 0 = -1) → lf d i l = List.replicate n (-1) := by
  intro d
  induction d with
  | zero =>
    intro i l h hl hk
    simp only [lf]
    refine List.ext_getElem (by simp [hl]) fun k h1 h2 => ?_
    rw [List.getElem_replicate]
    have := hk k (by omega)
    rw [List.getD_eq_getElem?_getD, List.getElem?_eq_getElem h1] at this
    exact this
  | succ d ih =>
    intro i l h hl hk
    simp only [lf]
    refine ih (i + 1) _ (by omega) (by rw [List.length_set]; exact hl) fun k hk2 => ?_
    rw [getD_set _ _ _ _ _ (by omega)]
    split
    · rfl
    · exact hk k (by omega)
theorem Lead.set {r : Nat} {l : List Int} (h : Lead r l) (j : Nat) {i : Nat} (hi : i < r) : Lead r (l.set j ((i : Nat) : Int)) := by
  intro x hx
  rcases List.mem_or_eq_of_mem_set hx with hx | rfl
  · exact h x hx
  · exact .inr (by omega)
theorem Lead.at_ {r : Nat} {l : List Int} (h : Lead r l) {j : Nat} (hj : j < l.length) (h0 : 0 ≤ l.getD j 0) : ∃ k, k < r ∧ l.getD j 0 = ((k : Nat) : Int) := by
  have hm : l.getD j 0 ∈ l := by rw [List.getD_eq_getElem?_getD, List.getElem?_eq_getElem hj]; exact List.getElem_mem _
  rcases h _ hm with e | ⟨a, b⟩
  · omega
  · exact ⟨(l.getD j 0).toNat, by omega, by omega⟩
theorem r0_zero (p : Int) (iv : Int → Int) (n : Nat) : ∀ (d c : Nat), r0 p iv 0 n d c [] 0 = ([], 0) := by
  intro d
  induction d with
  | zero => intro c; rfl
  | succ d ih => intro c; simp only [r0, ixg]; exact ih _
set_option maxHeartbeats 4000000 in
set_option maxRecDepth 100000 in
theorem red_zero (w0 w : World) (g n cap : Nat) (p : Int) (hB : Below w0.heap.size w0 w) :
    Calls Try.prog 57 #[.int .i64 p, .slice (some ⟨g, 0, none⟩) 0 cap] w fun e w' => ∃ ga cc bo co, e = .returned (.slice (some ⟨ga, 0, none⟩) 0 cc) ∧ Tab w' w0.heap.size ga n bo co [] ∧ co 0 = cc ∧ Below w0.heap.size w0 w' := by
  have HB1 := Aside0.mk (hB.alloc (below_size hB) (.cells #[] 34))
  have HT1 := Aside0.mk (Tab_empty (n := n) (base := w0.heap.size) (heap_alloc_new w (.cells #[] 34)) (below_size hB))
  clear hB
  go_enter Try.func57, Try.ntmps57
  go_wp2
  go_loopg [5, 6] 1 (fun kq v5 v6 w' => v5 = .slice (some ⟨w.heap.size, 0, none⟩) 0 0 ∧ v6 = .int .i64 0 ∧ w' = w.alloc (.cells #[] 34))
  case atStart => exact ⟨rfl, rfl, rfl⟩
  case round =>
    obtain ⟨rfl, rfl, rfl⟩ := hrel
    go_wp2
    go_ret
    exact ⟨_, 0, _, _, rfl, HT1.out, rfl, HB1.out⟩
theorem sz_al1 (w : World) (o : Obj) : (w.alloc o).drew.heap.size = w.heap.size + 1 := by show (w.heap.push _).size = _; rw [Array.size_push]
theorem sz_al (w : World) (o : Obj) : (w.alloc o).heap.size = w.heap.size + 1 := by show (w.heap.push _).size = _; rw [Array.size_push]
theorem sz_al2 (w : World) (o o' : Obj) : ((w.alloc o).alloc o').drew.heap.size = w.heap.size + 2 := by show ((w.heap.push _).push _).size = _; rw [Array.size_push, Array.size_push]
theorem below_al (w : World) (o : Obj) : Below w.heap.size w (w.alloc o) := (Below.refl _ w).alloc (Nat.le_refl _) o
theorem heap_new1 (w : World) (o o' : Obj) : ((w.alloc o).alloc o').heap[w.heap.size + 1]? = some o' := by rw [← sz_al w o]; exact heap_alloc_new _ _
theorem heap_mid1 (w : World) (o o' : Obj) : ((w.alloc o).alloc o').heap[w.heap.size]? = some o := by rw [Below.heap_alloc _ _ _ (by rw [sz_al]; omega)]; exact heap_alloc_new _ _
theorem heap_old1 (w : World) (o o' : Obj) (k : Nat) (hk : k < w.heap.size) : ((w.alloc o).alloc o').heap[k]? = w.heap[k]? := by rw [Below.heap_alloc _ _ _ (by rw [sz_al]; omega), Below.heap_alloc _ _ _ hk]
theorem Row.at1 {w : World} {o o' : Obj} {c : Nat} {l : List Int} (h : Row ((w.alloc o).alloc o') (w.alloc o).heap.size c l) : Row ((w.alloc o).alloc o') (w.heap.size + 1) c l := by rw [sz_al] at h; exact h
theorem Row.kg {w w' : World} {b c g : Nat} {l : List Int} (h : Row w b c l) (hk : Kg w.drew w' g) (hne : b ≠ g) : Row w' b c l := h.keep (hk.keep b h.lt hne)
theorem Below.trans1 {base : Nat} {w w1 w2 : World} (h : Below base w w1) (k : Below w1.heap.size w1 w2) (hb : base ≤ w1.heap.size := by omega) : Below base w w2 := below_step2 h k hb
theorem leafE {wx w7 w0 : World} {gR n r cR b gO : Nat} {bR oR : Nat → Nat} {L : List (List Int)} (hT : Tab w7 w0.heap.size gR n bR oR L) (hl : L.length = r) (hr : Row wx b n (List.replicate n 0)) (hO : wx.heap[gO]? = some (.cells #[] 34 (0, 0))) (hb : w0.heap.size ≤ b ∧ w0.heap.size ≤ gO ∧ gO ≠ gR) (hap : ∀ j, j < r → bR j ≠ b) (hB : Below w0.heap.size w0 w7) (hB2 : Below w0.heap.size w0 wx) (hk : ∀ k, k < w7.heap.size → wx.heap[k]? = w7.heap[k]?) :
    ∃ (gR' cR' b' cb' gO' : Nat) (bR' oR' : Nat → Nat), Value.slice (some ⟨gR, 0, none⟩) r cR = .slice (some ⟨gR', 0, none⟩) r cR' ∧ Value.slice (some ⟨b, 0, none⟩) n n = .slice (some ⟨b', 0, none⟩) n cb' ∧ Value.slice (some ⟨gO, 0, none⟩) 0 0 = .slice (some ⟨gO', 0, none⟩) 0 0 ∧ Aside0 (Tab wx w0.heap.size gR' n bR' oR' L) ∧ Aside0 (L.length = r) ∧ Aside0 (Row wx b' cb' (List.replicate n 0)) ∧ Aside0 (wx.heap[gO']? = some (.cells #[] 34 (0, 0))) ∧ Aside0 (w0.heap.size ≤ b' ∧ w0.heap.size ≤ gO' ∧ gO' ≠ gR') ∧ Aside0 (∀ j, j < r → bR' j ≠ b') ∧ Aside0 (Below w0.heap.size w0 wx) :=
  ⟨gR, cR, b, n, gO, bR, oR, rfl, rfl, rfl, ⟨hT.step hk⟩, ⟨hl⟩, ⟨hr⟩, ⟨hO⟩, ⟨hb⟩, ⟨hap⟩, ⟨hB2⟩⟩
theorem Tab.keep {w w' : World} {B g n : Nat} {bs cs : Nat → Nat} {L : List (List Int)} (h : Tab w B g n bs cs L) {go : Nat} (hk : Kg w w' go) (h1 : g ≠ go) (h2 : ∀ j, j < L.length → bs j ≠ go) : Tab w' B g n bs cs L := h.but hk.keep h1 h2
set_option maxHeartbeats 8000000 in
set_option maxRecDepth 100000 in
theorem rad_calls (K : Nat) (iv : Int → Int) (w0 w : World) (g n cap : Nat) (bs cs : Nat → Nat) (T L9 LD OUT L10 : List (List Int)) (ld : List Int) (p : Int) (r9 r10 : Nat) (hB : Below w0.heap.size w0 w) (hT : Tab w w0.heap.size g n bs cs T) (hn : T.length = n) (hn0 : 0 < n) (hm : n ≤ 100) (hp : p ≠ 0)
    (hcap : n ≤ cap) (hmax : cap ≤ maxLen) (hiv : ∀ x, spec_l01Inverse.f K p x = some (iv x)) (h : r0 p iv n n n 0 (trs T n n) 0 = (L9, r9)) (hr9 : r9 ≤ n) (hL : ls (L9.take r9) n r9 0 (lf n 0 (List.replicate n 0)) = ld)
    (hout : os p (L9.take r9) ld n n 0 [] = OUT) (h2 : r0 p iv OUT.length n n 0 OUT 0 = (L10, r10)) :
    Calls Try.prog 34 #[.int .i64 p, .slice (some ⟨g, 0, none⟩) n cap] w fun e w' => ∃ ga cc bo co, e = .returned (.slice (some ⟨ga, 0, none⟩) r10 cc) ∧ Tab w' w0.heap.size ga n bo co (L10.take r10) ∧ co r10 = cc ∧ (L10.take r10).length = r10 ∧ Below w0.heap.size w0 w' := by
  have HB := Aside0.mk hB
  have HT := Aside0.mk hT
  have HN := Aside0.mk hn
  have HN0 := Aside0.mk hn0
  have HM := Aside0.mk hm
  have HP := Aside0.mk hp
  have HCAP := Aside0.mk hcap
  have HMAX := Aside0.mk hmax
  have HIV := Aside0.mk hiv
  have HR := Aside0.mk h
  have HR9 := Aside0.mk hr9
  have HL := Aside0.mk hL
  have HOUT := Aside0.mk hout
  have H2 := Aside0.mk h2
  have HSW := Aside0.mk (below_size hB)
  have pz : (p == 0) = false := by rw [beq_eq_false_iff_ne]; exact hp
  have pz2 : (p = 0) = False := eq_false hp
  have y1 : ((n : Int) == 0) = false := by rw [beq_eq_false_iff_ne]; omega
  have y2 : (n == 0) = false := by rw [beq_eq_false_iff_ne]; omega
  have y3 := eq_false (show ¬ n = 0 by omega)
  have HB1 := Aside0.mk ((Below.refl w.heap.size w).alloc (Nat.le_refl _) (.cells #[] 34))
  have HT1 := Aside0.mk (Tab_empty (n := n) (base := w.heap.size) (heap_alloc_new w (.cells #[] 34)) (Nat.le_refl _))
  clear hB hT hn hn0 hm hp hcap hmax hiv h hr9 hL hout h2
  go_enter Try.func34, Try.ntmps34
  go_wp2
  go_loopg [6, 7] n (fun dq v6 v7 w' => ∃ (j ga cc : Nat) (bo co : Nat → Nat), v6 = .slice (some ⟨ga, 0, none⟩) j cc ∧ v7 = .int .i64 (j : Int) ∧ Aside0 (j + dq = n) ∧ Aside0 (Tab w' w.heap.size ga n bo co (trs T n j)) ∧ Aside0 (co j = cc) ∧ Aside0 (Below w.heap.size w w'))
  case atStart => exact ⟨0, _, 0, _, _, rfl, rfl, ⟨by omega⟩, HT1, ⟨rfl⟩, HB1⟩
  case round =>
    clear HT1 HB1
    obtain ⟨j, ga, cc, bo, co, rfl, rfl, HJ, HTO, HCC, HBW⟩ := hrel
    cases gk with
    | succ dq =>
      have hj := HJ.out
      have d1 : decide ((j : Int) < (n : Int)) = true := decide_eq_true (by omega)
      have d1n : decide (j < n) = true := decide_eq_true (by omega)
      have p1 := eq_true (show (0 : Int) ≤ (j : Int) by omega)
      have p2 := eq_true (show (j : Int) < (n : Int) by omega)
      have hwj : wrap64 ((j : Int) + 1) = ((j + 1 : Nat) : Int) := by have := HM.out; unfold wrap64; omega
      have HWJ := Aside0.mk hwj
      clear hwj
      go_wp2_with ((with_reducible refine gate_dst (N := 30) rfl ?_); refine Kd.R_lit (Kd.int .i64) _ 2 ?hg (N := 30) ?hd (xs := ([] : List Int)) (inner := []) (ok := fun _ => True) (okp := fun _ => True) ?hr ?hp (fun _ hk => hk) trivial (Below.refl _ _) (Nat.le_refl _) (by simp) ?_; (case hd => rfl); (case hg => rfl); (case hr => first | (go_simp; done) | (go_simp; rfl)); (case hp => exact (Reps.none _ _)); intro v139 w6 ho7 hb hg_ hnew_; clear hg_ hnew_; have HO := Aside0.mk ho7; have HB6 := Aside0.mk hb; clear ho7 hb)
      obtain ⟨wo, hwo⟩ : ∃ wo, wr = wo := ⟨_, rfl⟩
      rw [hwo] at HTO HBW HO HB6
      clear hwo
      have HSO := Aside0.mk (show w.heap.size ≤ wo.heap.size from HBW.out.size)
      go_loopg [8, 9] n (fun fq v8 v9 w' => ∃ (i : Nat), v9 = .int .i64 (i : Int) ∧ Aside0 (i + fq = n) ∧ Aside0 (Kd.R (Kd.int .i64) 2 w' wo.heap.size (fun _ => True) v8 (trr T j i)) ∧ Aside0 (Below wo.heap.size wo w'))
      case atStart => exact ⟨0, rfl, ⟨by omega⟩, HO, HB6⟩
      case round =>
        clear HO HB6
        obtain ⟨i, rfl, HI, HO, HB6⟩ := hrel
        cases gk with
        | succ fq =>
          have hi := HI.out
          have d3 : decide ((i : Int) < (n : Int)) = true := decide_eq_true (by omega)
          have d3n : decide (i < n) = true := decide_eq_true (by omega)
          have p3 := eq_true (show (0 : Int) ≤ (i : Int) by omega)
          have p4 := eq_true (show (i : Int) < (n : Int) by omega)
          have HTW := Aside0.mk (HT.out.below (below_step2 HBW.out HB6.out HSO.out))
          have z1 := HTW.out.head (j := i) (by rw [HN.out]; omega)
          have z2 := HTW.out.cell (j := i) (i := j) (by rw [HN.out]; omega) (by omega)
          have hwi : wrap64 ((i : Int) + 1) = ((i + 1 : Nat) : Int) := by have := HM.out; unfold wrap64; omega
          have HWI := Aside0.mk hwi
          have HSM := Aside0.mk (show ((trr T j i).length + 1) * 8 ≤ 140737488355328 by rw [trr_len]; exact Nat.le_trans (Nat.mul_le_mul_right 8 (show i + 1 ≤ 100 by have := HM.out; omega)) (by decide))
          have HSZ := Aside0.mk (show wo.heap.size ≤ wr.heap.size from HB6.out.size)
          have HTS := Aside0.mk (trr_succ T j i)
          clear hwi
          go_wp2_with ((with_reducible refine gate_builtin (b := .append) (xs := #[.tmp 36, .tmp 44]) rfl ?_); at_builtin; refine Kd.R_append (Kd.int .i64) (w0 := wo) (W := wr) wo.heap.size rfl (.tmp 36) (.tmp 44) 34 2 (.int .i64 0) 8 rfl Try.underlying34 infoI64 rfl (by decide) (by omega) u8 (trr T j i) (ent T i j) [.int .i64 (ent T i j)] (fun _ => True) (fun _ => False) ?aV ?aX ?aP (fun _ hk => hk.elim) (fun _ _ => trivial) ?aO ?aB ?aS ?aL ?_; (case aV => rfl); (case aX => rfl); (case aP => exact rfl); (case aB => exact HB6.out); (case aO => exact HO.out); (case aS => exact HSZ.out); (case aL => exact HSM.out); intro v108 w14 ho hb hg hat; have n1_ := Aside0.mk ho; have n2_ := Aside0.mk hb; clear ho hb hg hat)
          rw [← HTS.out] at n1_
          go_roundg fq
          case measure => omega
          case rel => exact ⟨i + 1, congrArg _ HWI.out, ⟨by omega⟩, n1_, n2_⟩
        | zero =>
          have hi := HI.out
          have d3 : decide ((i : Int) < (n : Int)) = false := decide_eq_false (by omega)
          have d3n : decide (i < n) = false := decide_eq_false (by omega)
          have hin : i = n := by omega
          have ho := HO.out
          rw [hin] at ho
          obtain ⟨b, cb, ev, hbb, hrow⟩ := row_of_RR ho (by rw [trr_len]; exact HN0.out)
          rw [trr_len] at ev
          subst ev
          have HRW := Aside0.mk hrow
          have HBB := Aside0.mk hbb
          have HTO2 := Aside0.mk (HTO.out.below HB6.out)
          have HAP := Aside0.mk (show ∀ l, l < (trs T n j).length → bo l ≠ b by
            intro l hl e
            obtain ⟨_, _, RC', h3, _⟩ := HTO.out.row l hl
            have := (Array.getElem?_eq_some_iff.1 h3).1
            have := HBB.out
            omega)
          have HBR := Aside0.mk (below_step2 HBW.out HB6.out HSO.out)
          have HSR := Aside0.mk (show w.heap.size ≤ wr.heap.size from Nat.le_trans HSO.out HB6.out.size)
          have HSB2 := Aside0.mk (show w.heap.size ≤ b from Nat.le_trans HSO.out HBB.out)
          have HSMALL := Aside0.mk (show (trs T n j).length ≤ 1000 by rw [trs_len]; have := HM.out; omega)
          have HLN := Aside0.mk (trr_len T j n)
          have HTL := Aside0.mk (trs_len T n j)
          have HTS := Aside0.mk (trs_succ T n j)
          clear ho HO hin hrow hbb
          go_wp2_with ((with_reducible refine gate_builtin (b := .append) (xs := #[.tmp 46, .tmp 48]) rfl ?_); at_builtin; refine append_tab2 w rfl (.tmp 46) (.tmp 48) rfl HTO2.out HRW.out HLN.out HSB2.out HAP.out ?aV ?aX HBR.out HSR.out HSMALL.out ?_; (case aV => rw [HTL.out, HCC.out]; rfl); (case aX => rfl); intro g2 c2 bs2 cs2 w14 hT hc2 hk hb hs; have n1_ := Aside0.mk hT; have n2_ := Aside0.mk hc2; have n3_ := Aside0.mk hb; clear hT hc2 hk hb hs)
          rw [HTL.out] at n2_
          rw [← HTS.out] at n1_
          rw [HTL.out]
          go_roundg dq
          case measure => omega
          case rel => exact ⟨j + 1, g2, c2, bs2, cs2, rfl, congrArg _ HWJ.out, ⟨by omega⟩, n1_, n2_, n3_⟩
    | zero =>
      have hj := HJ.out
      have d1 : decide ((j : Int) < (n : Int)) = false := decide_eq_false (by omega)
      have d1n : decide (j < n) = false := decide_eq_false (by omega)
      have hjn : j = n := by omega
      have hto := HTO.out
      have hcc := HCC.out
      rw [hjn] at hto hcc
      have hjn' : n = j := hjn.symm
      subst hjn'
      have HTO2 := Aside0.mk (hto.lower HSW.out)
      have hsz := hto.sz.head
      rw [trs_len, hcc] at hsz
      obtain ⟨_, _, _, hle, hmx⟩ := hsz
      have HLE := Aside0.mk hle
      have HMX := Aside0.mk hmx
      have HBT := Aside0.mk (below_step2 HB.out HBW.out HSW.out)
      have HTL := Aside0.mk (trs_len T n n)
      have HCALL := Aside0.mk (fun W (hb : Below w0.heap.size w0 W) (ht : Tab W w0.heap.size ga n bo co (trs T n n)) => red_calls K iv w0 W ga n n cc bo co (trs T n n) L9 p r9 hb ht HTL.out HN0.out HN0.out HM.out HM.out HP.out HLE.out HMX.out HIV.out HR.out)
      have HBY := Aside0.mk (show (n : Int).toNat * 8 ≤ 281474976710656 by rw [Int.toNat_natCast]; have := HM.out; omega)
      clear hto hcc hle hmx HTO HCC hjn
      go_upto_region 14 with fail
      go_cut [10, 11, 12] (fun s10 s11 s12 wx => ∃ (gR cR b cb gO : Nat) (bR oR : Nat → Nat), s10 = .slice (some ⟨gR, 0, none⟩) r9 cR ∧ s11 = .slice (some ⟨b, 0, none⟩) n cb ∧ s12 = .slice (some ⟨gO, 0, none⟩) 0 0 ∧ Aside0 (Tab wx w0.heap.size gR n bR oR (L9.take r9)) ∧ Aside0 ((L9.take r9).length = r9) ∧ Aside0 (Row wx b cb (List.replicate n 0)) ∧ Aside0 (wx.heap[gO]? = some (.cells #[] 34 (0, 0))) ∧ Aside0 (w0.heap.size ≤ b ∧ w0.heap.size ≤ gO ∧ gO ≠ gR) ∧ Aside0 (∀ j, j < r9 → bR j ≠ b) ∧ Aside0 (Below w0.heap.size w0 wx))
      case first =>
        have HT2 := Aside0.mk HTO2.out.drew
        have HB2 := Aside0.mk HBT.out.drew
        obtain ⟨ZC, hmk, hz1, hz2⟩ := made n HM.out
        have HZ := Aside0.mk (And.intro hz1 hz2)
        have HSX := Aside0.mk (show w0.heap.size ≤ wr.heap.size from below_size HBT.out)
        clear hz1 hz2
        go_region_held3 (fun w' => True) (trivial)
          (first | (go_simp; go_at_call 57; (with_reducible refine (HCALL.out _ ?cB ?cT).mono ?_); (case cB => first | exact HB2.out | exact HB2.out.alloc (below_size HB2.out) _ | exact (HB2.out.alloc (below_size HB2.out) _).alloc (below_size (HB2.out.alloc (below_size HB2.out) _)) _); (case cT => first | exact HT2.out | exact HT2.out.alloc _ | exact (HT2.out.alloc _).alloc _); rintro e w7 ⟨gR, cR, bR, oR, rfl, hTR, hoR, hlR, hbR, hgR, hkR, hnR⟩))
        all_goals (go_wp2_with fail; go_meet)
        · exact leafE hTR hlR ((Row.fresh HZ.out.1 HZ.out.2 HM.out).below (below_al _ _)) (heap_new1 w7 _ _) (by have := below_size hbR; have := hTR.g_lt; omega) (fun j hj => by have := hTR.b_lt (j := j) (by rw [hlR]; exact hj); omega) hbR ((hbR.alloc (below_size hbR) _).alloc (by rw [sz_al]; have := below_size hbR; omega) _) (fun k hk => (heap_old1 w7 _ _ k hk))
        · exact leafE hTR hlR (Row.at1 (Row.fresh HZ.out.1 HZ.out.2 HM.out)) (heap_mid1 w7 _ _) (by have := below_size hbR; have := hTR.g_lt; omega) (fun j hj => by have := hTR.b_lt (j := j) (by rw [hlR]; exact hj); omega) hbR ((hbR.alloc (below_size hbR) _).alloc (by rw [sz_al]; have := below_size hbR; omega) _) (fun k hk => (heap_old1 w7 _ _ k hk))
        · have hap3 : ∀ j, j < r9 → bR j ≠ wr.heap.size := by
            intro j hj
            rcases hnR j hj with ⟨l, hl, e⟩ | h_
            · have := HTO2.out.b_lt (j := l) (by rw [HTL.out]; exact hl)
              omega
            · rw [sz_al1] at h_
              omega
          exact leafE hTR hlR (((Row.fresh HZ.out.1 HZ.out.2 HM.out).kg hkR (by have := HTO2.out.g_lt; show wr.heap.size ≠ ga; omega)).below (below_al _ _)) (heap_alloc_new w7 _) (by have := below_size hbR; have := hTR.g_lt; have := HSX.out; omega) (hap3) hbR (hbR.alloc (below_size hbR) _) (fun k hk => Below.heap_alloc w7 _ k hk)
        · have hap4 : ∀ j, j < r9 → bR j ≠ wr.heap.size := by
            intro j hj
            rcases hnR j hj with ⟨l, hl, e⟩ | h_
            · have := HTO2.out.b_lt (j := l) (by rw [HTL.out]; exact hl)
              omega
            · rw [sz_al2] at h_
              omega
          exact leafE hTR hlR (((Row.fresh HZ.out.1 HZ.out.2 HM.out).below (below_al _ _)).kg hkR (by have := HTO2.out.g_lt; show wr.heap.size ≠ ga; omega)) ((hkR.keep _ (by rw [sz_al2]; omega) (by have := HTO2.out.g_lt; omega)).trans (heap_new1 wr _ _)) (by have := hTR.g_lt; have := HSX.out; rw [sz_al2] at hgR; omega) (hap4) hbR hbR (fun k hk => rfl)
        · exact leafE hTR hlR (Row.fresh HZ.out.1 HZ.out.2 HM.out) ((Below.heap_alloc w7 _ _ (by have := hkR.sz; rw [sz_al1] at this; omega)).trans ((hkR.keep _ (by rw [sz_al1]; omega) (by have := HTO2.out.g_lt; omega)).trans (heap_alloc_new wr _))) (by have := below_size hbR; have := hTR.g_lt; have := HSX.out; rw [sz_al1] at hgR; omega) (fun j hj => by have := hTR.b_lt (j := j) (by rw [hlR]; exact hj); omega) hbR (hbR.alloc (below_size hbR) _) (fun k hk => Below.heap_alloc w7 _ k hk)
        · have hap6 : ∀ j, j < r9 → bR j ≠ wr.heap.size + 1 := by
            intro j hj
            rcases hnR j hj with ⟨l, hl, e⟩ | h_
            · have := HTO2.out.b_lt (j := l) (by rw [HTL.out]; exact hl)
              omega
            · rw [sz_al2] at h_
              omega
          exact leafE hTR hlR ((Row.at1 (Row.fresh HZ.out.1 HZ.out.2 HM.out)).kg hkR (by have := HTO2.out.g_lt; omega)) ((hkR.keep _ (by rw [sz_al2]; omega) (by have := HTO2.out.g_lt; omega)).trans (heap_mid1 wr _ _)) (by have := hTR.g_lt; have := HSX.out; rw [sz_al2] at hgR; omega) (hap6) hbR hbR (fun k hk => rfl)
      case rest =>
        obtain ⟨gR, cR, b, cb, gO, bR, oR, rfl, rfl, rfl, HTR, HLR, HRW, HGO, HBD, HAP, HBX⟩ := hcut
        obtain ⟨RED, hRED⟩ : ∃ RED, L9.take r9 = RED := ⟨_, rfl⟩
        rw [hRED] at HTR HLR HL HOUT
        obtain ⟨LD0, hLD0⟩ : ∃ LD0, lf n 0 (List.replicate n 0) = LD0 := ⟨_, rfl⟩
        have HLD0 := Aside0.mk hLD0
        have HLE0 := Aside0.mk (show Lead r9 LD0 by
          rw [← hLD0, lf_go n n 0 _ (by omega) (by simp) (fun k hk => absurd hk (Nat.not_lt_zero _))]
          intro x hx
          exact .inl (List.eq_of_mem_replicate hx))
        rw [hLD0] at HL
        have HGB := Aside0.mk (show gR ≠ b from fun e => HRW.out.ne HTR.out e.symm)
        have HGNB := Aside0.mk (show gO ≠ b from fun e => HRW.out.ne (Tab_empty (n := n) (base := 0) HGO.out (Nat.zero_le _)) e.symm)
        clear hRED hLD0 HCALL HTO2 HLE HMX HBT HTL HBY HR
        go_wp2_with fail
        go_loopg [13] n (fun dq v13 w' => ∃ (i : Nat) (l : List Int), v13 = .int .i64 (i : Int) ∧ Aside0 (i + dq = n) ∧ Aside0 (l.length = n) ∧ Aside0 (lf dq i l = LD0) ∧ Aside0 (Row w' b cb l) ∧ Aside0 (Kg wc w' b) ∧ Aside0 (Below w0.heap.size w0 w'))
        case atStart => exact ⟨0, _, rfl, ⟨by omega⟩, ⟨List.length_replicate⟩, HLD0, HRW, ⟨Kg.refl _ _⟩, HBX⟩
        case round =>
          clear HLD0 HRW HBX
          obtain ⟨i, l, rfl, HI, HLN, HLD0, HRW, HKG, HBX⟩ := hrel
          cases gk with
          | succ dq =>
            have hi := HI.out
            have d1 : decide ((i : Int) < (n : Int)) = true := decide_eq_true (by omega)
            have d1n : decide (i < n) = true := decide_eq_true (by omega)
            have p1 := eq_true (show (0 : Int) ≤ (i : Int) by omega)
            have p2 := eq_true (show (i : Int) < (n : Int) by omega)
            obtain ⟨ux, z1⟩ : ∃ ux, wr.cell? ⟨b, i, none⟩ = some ux := ⟨_, HRW.out.cell (i := i) (by rw [HLN.out]; omega)⟩
            have f1 : wr.frozen? ⟨b, i, none⟩ = false := HRW.out.frozen i
            have HRN := Aside0.mk (show Row (wr.setCell ⟨b, i, none⟩ (.int .i64 (-1))) b cb (l.set i (-1)) from HRW.out.set (by rw [HLN.out]; omega) _)
            have HKN := Aside0.mk (HKG.out.set i (.int .i64 (-1)))
            have HBN := Aside0.mk (HBX.out.setCell (p := ⟨b, i, none⟩) HBD.out.1 (.int .i64 (-1)))
            have HL2 := Aside0.mk (show lf dq (i + 1) (l.set i (-1)) = LD0 from HLD0.out)
            have HLN2 := Aside0.mk (show (l.set i (-1)).length = n by rw [List.length_set]; exact HLN.out)
            have hwi : wrap64 ((i : Int) + 1) = ((i + 1 : Nat) : Int) := by have := HM.out; unfold wrap64; omega
            have HWI := Aside0.mk hwi
            clear hwi HLD0
            go_wp2_with fail
            go_roundg dq
            case measure => omega
            case rel => exact ⟨i + 1, _, congrArg _ HWI.out, ⟨by omega⟩, HLN2, HL2, HRN, HKN, HBN⟩
          | zero =>
            have hi := HI.out
            have d1 : decide ((i : Int) < (n : Int)) = false := decide_eq_false (by omega)
            have d1n : decide (i < n) = false := decide_eq_false (by omega)
            have e : l = LD0 := HLD0.out
            subst e
            clear HLD0
            go_wp2_with fail
            go_loopg [14] r9 (fun dq v14 w' => ∃ (i : Nat) (l : List Int), v14 = .int .i64 (i : Int) ∧ Aside0 (i + dq = r9) ∧ Aside0 (l.length = n) ∧ Aside0 (ls RED n dq i l = ld) ∧ Aside0 (Lead r9 l) ∧ Aside0 (Row w' b cb l) ∧ Aside0 (Kg wc w' b) ∧ Aside0 (Below w0.heap.size w0 w'))
            case atStart => exact ⟨0, _, rfl, ⟨by omega⟩, HLN, HL, HLE0, HRW, HKG, HBX⟩
            case round =>
              clear HLN HL HLE0 HRW HKG HBX
              obtain ⟨i, l, rfl, HI, HLN, HL, HLE, HRW, HKG, HBX⟩ := hrel
              have HTW := Aside0.mk (HTR.out.keep HKG.out HGB.out (fun j hj => HAP.out j (by rw [← HLR.out]; exact hj)))
              cases gk with
              | succ dq =>
                have hi := HI.out
                have hil : i < RED.length := by rw [HLR.out]; omega
                have d2 : decide ((i : Int) < (r9 : Int)) = true := decide_eq_true (by omega)
                have d2n : decide (i < r9) = true := decide_eq_true (by omega)
                have p1 := eq_true (show (0 : Int) ≤ (i : Int) by omega)
                have p2 := eq_true (show (i : Int) < (r9 : Int) by omega)
                have hwi : wrap64 ((i : Int) + 1) = ((i + 1 : Nat) : Int) := by have := HM.out; have := HR9.out; unfold wrap64; omega
                have HWI := Aside0.mk hwi
                have hl := HL.out
                simp only [ls] at hl
                have HL2 := Aside0.mk hl
                have z1 := HTW.out.head (j := i) hil
                clear hwi hl HL
                go_wp2_with fail
                go_loopg [15] n (fun eq v15 w' => ∃ (j : Nat), v15 = .int .i64 (j : Int) ∧ Aside0 (j + eq = n) ∧ Aside0 (fz (RED.getD i []) eq j = fz (RED.getD i []) n 0) ∧ w' = wr)
                case atStart => exact ⟨0, rfl, ⟨by omega⟩, ⟨rfl⟩, rfl⟩
                case round =>
                  obtain ⟨j, rfl, HJ, HF, rfl⟩ := hrel
                  cases gk with
                  | zero =>
                    have hj := HJ.out
                    have d3 : decide ((j : Int) < (n : Int)) = false := decide_eq_false (by omega)
                    have d3n : decide (j < n) = false := decide_eq_false (by omega)
                    have hl := HL2.out
                    rw [← HF.out] at hl
                    have HL3 := Aside0.mk (show ls RED n dq (i + 1) l = ld from hl)
                    clear hl HL2 HF
                    go_wp2_with fail
                    go_roundg dq
                    case measure => omega
                    case rel => exact ⟨i + 1, l, congrArg _ HWI.out, ⟨by omega⟩, HLN, HL3, HLE, HRW, HKG, HBX⟩
                  | succ eq =>
                    have hj := HJ.out
                    have d3 : decide ((j : Int) < (n : Int)) = true := decide_eq_true (by omega)
                    have d3n : decide (j < n) = true := decide_eq_true (by omega)
                    have p3 := eq_true (show (0 : Int) ≤ (j : Int) by omega)
                    have p4 := eq_true (show (j : Int) < (n : Int) by omega)
                    have z2 := HTW.out.cell (j := i) (i := j) hil (by omega)
                    have hwj : wrap64 ((j : Int) + 1) = ((j + 1 : Nat) : Int) := by have := HM.out; unfold wrap64; omega
                    have HWJ := Aside0.mk hwj
                    have hf := HF.out
                    simp only [fz] at hf
                    clear hwj
                    by_cases h0 : ent RED i j = 0
                    · rw [if_pos (show (RED.getD i []).getD j 0 = 0 from h0)] at hf
                      have HF2 := Aside0.mk hf
                      have c1 : (ent RED i j != 0) = false := by rw [bne_eq_false_iff_eq]; exact h0
                      clear hf h0 HF
                      go_wp2_with fail
                      go_roundg eq
                      case measure => omega
                      case rel => exact ⟨j + 1, congrArg _ HWJ.out, ⟨by omega⟩, HF2, rfl⟩
                    · rw [if_neg (show ¬ (RED.getD i []).getD j 0 = 0 from h0)] at hf
                      have hl := HL2.out
                      rw [← hf] at hl
                      have HL3 := Aside0.mk (show ls RED n dq (i + 1) (l.set j ((i : Nat) : Int)) = ld from hl)
                      have c1 : (ent RED i j != 0) = true := by rw [bne_iff_ne]; exact h0
                      obtain ⟨ux, z3⟩ : ∃ ux, wr.cell? ⟨b, j, none⟩ = some ux := ⟨_, HRW.out.cell (i := j) (by rw [HLN.out]; omega)⟩
                      have f1 : wr.frozen? ⟨b, j, none⟩ = false := HRW.out.frozen j
                      have HRN := Aside0.mk (show Row (wr.setCell ⟨b, j, none⟩ (.int .i64 ((i : Nat) : Int))) b cb (l.set j ((i : Nat) : Int)) from HRW.out.set (by rw [HLN.out]; omega) _)
                      have HKN := Aside0.mk (HKG.out.set j (.int .i64 ((i : Nat) : Int)))
                      have HBN := Aside0.mk (HBX.out.setCell (p := ⟨b, j, none⟩) HBD.out.1 (.int .i64 ((i : Nat) : Int)))
                      have HLN2 := Aside0.mk (show (l.set j ((i : Nat) : Int)).length = n by rw [List.length_set]; exact HLN.out)
                      have HLE2 := Aside0.mk (HLE.out.set j (show i < r9 by omega))
                      clear hf hl h0 HF HL2
                      go_wp2_with fail
                      go_roundg dq
                      case measure => omega
                      case rel => exact ⟨i + 1, _, congrArg _ HWI.out, ⟨by omega⟩, HLN2, HL3, HLE2, HRN, HKN, HBN⟩
              | zero =>
                have hi := HI.out
                have d2 : decide ((i : Int) < (r9 : Int)) = false := decide_eq_false (by omega)
                have d2n : decide (i < r9) = false := decide_eq_false (by omega)
                have e : l = ld := HL.out
                subst e
                have HTE := Aside0.mk (Tab_empty (n := n) (base := w0.heap.size) ((HKG.out.keep gO (Array.getElem?_eq_some_iff.1 HGO.out).1 HGNB.out).trans HGO.out) HBD.out.2.1)
                clear HL HTR HGO HKG
                have HGE := Aside0.mk HBD.out.2.2
                go_wp2_with fail
                go_loopg [12, 16] n (fun dq v12 v16 w' => ∃ (j k ga cc : Nat) (acc : List (List Int)) (bo co : Nat → Nat), v16 = .int .i64 (j : Int) ∧ v12 = .slice (some ⟨ga, 0, none⟩) k cc ∧ Aside0 (j + dq = n) ∧ Aside0 (acc.length = k ∧ k ≤ j) ∧ Aside0 (os p RED l n dq j acc = OUT) ∧ Aside0 (Tab w' w0.heap.size ga n bo co acc) ∧ Aside0 (co k = cc) ∧ Aside0 (Row w' b cb l) ∧ Aside0 (Tab w' w0.heap.size gR n bR oR RED) ∧ Aside0 (ga ≠ gR) ∧ Aside0 (Below w0.heap.size w0 w'))
                case atStart => exact ⟨0, 0, gO, 0, [], _, _, rfl, rfl, ⟨by omega⟩, ⟨rfl, by omega⟩, HOUT, HTE, ⟨rfl⟩, HRW, HTW, HGE, HBX⟩
                case round =>
                  clear HOUT HTE HRW HTW HGE HBX
                  obtain ⟨j, k, ga, cc, acc, bo, co, rfl, rfl, HJ, HK, HOUT, HTO, HCC, HRW, HTW, HGE, HBX⟩ := hrel
                  have HSX := Aside0.mk (below_size HBX.out)
                  cases gk with
                  | zero =>
                    have hj := HJ.out
                    have d3 : decide ((j : Int) < (n : Int)) = false := decide_eq_false (by omega)
                    have d3n : decide (j < n) = false := decide_eq_false (by omega)
                    have e : acc = OUT := HOUT.out
                    subst e
                    obtain ⟨hk1, hk2⟩ := HK.out
                    have hsz := HTO.out.sz.head
                    obtain ⟨HCx, _, _, hle, hmx⟩ := hsz
                    have hcc : co acc.length = cc := by rw [hk1]; exact HCC.out
                    by_cases hk0 : k = 0
                    · subst hk0
                      have he : acc = [] := List.length_eq_zero_iff.1 hk1
                      have h2_ := H2.out
                      rw [he] at h2_
                      have h3_ := r0_zero p iv n n 0
                      rw [show ([] : List (List Int)).length = 0 from rfl, h3_, Prod.mk.injEq] at h2_
                      obtain ⟨e1, e2⟩ := h2_
                      subst e1 e2
                      have HE := Aside0.mk (red_zero w0 wr ga n cc p HBX.out)
                      clear he h3_ hk1 hk2 hle hmx hcc H2
                      go_wp2_with fail
                      refine HE.out.mono ?_
                      rintro e w3 ⟨g3, c3, b3, o3, rfl, hT3, hc3, hb3⟩
                      have HT3 := Aside0.mk hT3
                      have HB3 := Aside0.mk hb3
                      have HC3 := Aside0.mk hc3
                      clear hT3 hb3 hc3 HE
                      go_wp2
                      go_ret
                      exact ⟨g3, c3, b3, o3, rfl, HT3.out, HC3.out, rfl, HB3.out⟩
                    · have HE := Aside0.mk (red_calls K iv w0 wr ga n acc.length cc bo co acc L10 p r10 HBX.out HTO.out rfl (by omega) HN0.out HM.out (by have := HM.out; omega) HP.out (by omega) (by omega) HIV.out H2.out)
                      rw [hk1] at HE
                      clear hk0 hk1 hle hmx hcc
                      go_wp2_with fail
                      refine HE.out.mono ?_
                      rintro e w3 ⟨g3, c3, b3, o3, rfl, hT3, hc3, hl3, hb3, _, _, _⟩
                      have HT3 := Aside0.mk hT3
                      have HB3 := Aside0.mk hb3
                      have HC3 := Aside0.mk hc3
                      have HL3 := Aside0.mk hl3
                      clear hT3 hb3 hc3 hl3 HE
                      go_wp2
                      go_ret
                      exact ⟨g3, c3, b3, o3, rfl, HT3.out, HC3.out, HL3.out, HB3.out⟩
                  | succ dq =>
                    have hj := HJ.out
                    have d3 : decide ((j : Int) < (n : Int)) = true := decide_eq_true (by omega)
                    have d3n : decide (j < n) = true := decide_eq_true (by omega)
                    have p1 := eq_true (show (0 : Int) ≤ (j : Int) by omega)
                    have p2 := eq_true (show (j : Int) < (n : Int) by omega)
                    have hwj : wrap64 ((j : Int) + 1) = ((j + 1 : Nat) : Int) := by have := HM.out; unfold wrap64; omega
                    have HWJ := Aside0.mk hwj
                    obtain ⟨y, hy⟩ : ∃ y, l.getD j 0 = y := ⟨_, rfl⟩
                    have z1 := HRW.out.cell (i := j) (by rw [HLN.out]; omega)
                    rw [hy] at z1
                    have ho := HOUT.out
                    simp only [os] at ho
                    rw [hy] at ho
                    clear hwj hy HOUT
                    by_cases hy0 : 0 ≤ y
                    · rw [if_pos hy0] at ho
                      have HO2 := Aside0.mk ho
                      have c1 : decide (0 ≤ y) = true := decide_eq_true hy0
                      have c2 : decide (y ≥ 0) = true := decide_eq_true hy0
                      clear ho hy0
                      go_wp2_with fail
                      go_roundg dq
                      case measure => omega
                      case rel => exact ⟨j + 1, k, ga, cc, acc, bo, co, congrArg _ HWJ.out, rfl, ⟨by omega⟩, ⟨by have := HK.out; omega⟩, HO2, HTO, HCC, HRW, HTW, HGE, HBX⟩
                    · rw [if_neg hy0] at ho
                      have HO2 := Aside0.mk ho
                      have c1 : decide (0 ≤ y) = false := decide_eq_false hy0
                      have c2 : decide (y ≥ 0) = false := decide_eq_false hy0
                      have HBY := Aside0.mk (show (n : Int).toNat * 8 ≤ 281474976710656 by rw [Int.toNat_natCast]; have := HM.out; omega)
                      obtain ⟨wA, hwA⟩ : ∃ wA, wA = wr := ⟨_, rfl⟩
                      have HWA := Aside0.mk hwA
                      clear ho hy0 hwA
                      go_wp2_with ((with_reducible refine gate_dst (N := 98) rfl ?_); refine Kd.R_make (Kd.int .i64) (w0 := wr) wr.heap.size 2 rfl (N := 98) rfl 34 _ _ rfl (n : Int) rfl rfl Try.underlying34 (.int .i64 0) 8 infoI64 rfl (by decide) (by omega) 0 (ok := fun _ => True) (okp := fun _ => True) rfl (fun _ hk => hk) trivial (Int.natCast_nonneg n) HBY.out (Below.refl _ _) (Nat.le_refl _) ?_; intro vx w5 hmk hbm hgm hnew; clear hgm hnew; rw [Int.toNat_natCast] at hmk; obtain ⟨bx, cx, ev, hbb, hrow⟩ := row_of_RR hmk (by rw [List.length_replicate]; exact HN0.out); rw [List.length_replicate] at ev; subst ev; have HRX := Aside0.mk hrow; have z7 := hrow.cell (i := j) (by rw [List.length_replicate]; have := HJ.out; omega); have f7 : w5.frozen? ⟨bx, j, none⟩ = false := hrow.frozen j; have HBM := Aside0.mk hbm; have HBB := Aside0.mk hbb; clear hmk hbm hbb hrow)
                      rw [← HWA.out] at HBM HBB HTO HRW HTW HBX HSX
                      have HRC := Aside0.mk (show Row (w5.setCell ⟨bx, j, none⟩ (.int .i64 1)) bx cx ((List.replicate n 0).set j 1) from HRX.out.set (by rw [List.length_replicate]; have := HJ.out; omega) 1)
                      have HBC := Aside0.mk (show Below wA.heap.size wA (w5.setCell ⟨bx, j, none⟩ (.int .i64 1)) from HBM.out.setCell (p := ⟨bx, j, none⟩) HBB.out _)
                      have HXL := Aside0.mk (show ((List.replicate n (0 : Int)).set j 1).length = n by rw [List.length_set, List.length_replicate])
                      obtain ⟨X9, hX9⟩ : ∃ X9, ow p RED l j n 0 ((List.replicate n 0).set j 1) = X9 := ⟨_, rfl⟩
                      rw [hX9] at HO2
                      have HX9 := Aside0.mk hX9
                      clear hX9 z7 f7 HRX HBM z1 c1 c2 HWA
                      go_loopg [18] n (fun eq v18 w' => ∃ (i : Nat) (x : List Int), v18 = .int .i64 (i : Int) ∧ Aside0 (i + eq = n) ∧ Aside0 (x.length = n) ∧ Aside0 (ow p RED l j eq i x = X9) ∧ Aside0 (Row w' bx cx x) ∧ Aside0 (Below wA.heap.size wA w'))
                      case atStart => exact ⟨0, _, rfl, ⟨by omega⟩, HXL, HX9, HRC, HBC⟩
                      case round =>
                        clear HXL HX9 HRC HBC
                        obtain ⟨i, x, rfl, HI, HXL, HX9, HRC, HBC⟩ := hrel
                        have HRL := Aside0.mk (HRW.out.below HBC.out)
                        have HTL := Aside0.mk (HTW.out.below HBC.out)
                        cases gk with
                        | zero =>
                          have hi := HI.out
                          have d4 : decide ((i : Int) < (n : Int)) = false := decide_eq_false (by omega)
                          have d4n : decide (i < n) = false := decide_eq_false (by omega)
                          have e : x = X9 := HX9.out
                          subst e
                          have HTQ := Aside0.mk (HTO.out.below HBC.out)
                          have hk1 := HK.out.1
                          have HK1 := Aside0.mk hk1
                          have HAQ := Aside0.mk (show ∀ q, q < acc.length → bo q ≠ bx by
                            intro q hq e
                            have := HTO.out.b_lt hq
                            have := HBB.out
                            omega)
                          have HBR := Aside0.mk (below_step2 HBX.out HBC.out HSX.out)
                          have HSR := Aside0.mk (show w0.heap.size ≤ wr.heap.size from Nat.le_trans HSX.out HBC.out.size)
                          have HSB2 := Aside0.mk (show w0.heap.size ≤ bx from Nat.le_trans HSX.out HBB.out)
                          have HSMALL := Aside0.mk (show acc.length ≤ 1000 by have := HK.out; have := HM.out; omega)
                          have hcc := HCC.out
                          rw [← hk1] at hcc
                          have HCC2 := Aside0.mk hcc
                          have HGRL := Aside0.mk HTL.out.g_lt
                          clear HX9 hcc hk1
                          go_wp2_with ((with_reducible refine gate_builtin (b := .append) (xs := #[.tmp 128, .tmp 130]) rfl ?_); at_builtin; refine append_tab2 w0 rfl (.tmp 128) (.tmp 130) rfl HTQ.out HRC.out HXL.out HSB2.out HAQ.out ?aV ?aX HBR.out HSR.out HSMALL.out ?_; (case aV => rw [HCC2.out, HK1.out]; rfl); (case aX => rfl); intro g2 c2 bs2 cs2 w14 hT hc2 hk hb hs; have n1_ := Aside0.mk hT; have n2_ := Aside0.mk hc2; have n3_ := Aside0.mk hb; have n4_ := Aside0.mk (HRL.out.keep (hk.keep b HRL.out.lt (HRL.out.ne HTQ.out))); have n5_ := Aside0.mk (HTL.out.keep hk (Ne.symm HGE.out) (fun q hq => HTL.out.b_ne HTQ.out hq)); have n6_ := Aside0.mk (show g2 ≠ gR from hs.elim (fun e => by rw [e]; exact HGE.out) (fun h_ => by have := HGRL.out; omega)); clear hT hc2 hk hb hs)
                          have HKC := Aside0.mk (show (acc ++ [x]).length = k + 1 ∧ k + 1 ≤ j + 1 from ⟨by rw [List.length_append]; simp [HK1.out], by have := HK.out; omega⟩)
                          rw [HK1.out] at n2_
                          rw [show acc.length + 1 = k + 1 by rw [HK1.out]]
                          go_roundg dq
                          case measure => omega
                          case rel => exact ⟨j + 1, k + 1, g2, c2, acc ++ [x], bs2, cs2, congrArg _ HWJ.out, rfl, ⟨by omega⟩, HKC, HO2, n1_, n2_, n4_, n5_, n6_, n3_⟩
                        | succ eq =>
                          have hi := HI.out
                          have d4 : decide ((i : Int) < (n : Int)) = true := decide_eq_true (by omega)
                          have d4n : decide (i < n) = true := decide_eq_true (by omega)
                          have p3 := eq_true (show (0 : Int) ≤ (i : Int) by omega)
                          have p4 := eq_true (show (i : Int) < (n : Int) by omega)
                          have hwi : wrap64 ((i : Int) + 1) = ((i + 1 : Nat) : Int) := by have := HM.out; unfold wrap64; omega
                          have HWI := Aside0.mk hwi
                          have z1 := HRL.out.cell (i := i) (by rw [HLN.out]; omega)
                          have hx := HX9.out
                          simp only [ow] at hx
                          by_cases hz0 : 0 ≤ l.getD i 0
                          · obtain ⟨q, hq, hqe⟩ := HLE.out.at_ (j := i) (by rw [HLN.out]; omega) hz0
                            rw [if_pos hz0, hqe, Int.toNat_natCast] at hx
                            rw [hqe] at z1
                            have c1 : decide ((0 : Int) ≤ (q : Int)) = true := decide_eq_true (by omega)
                            have p5 := eq_true (show (0 : Int) ≤ (q : Int) by omega)
                            have p6 := eq_true (show (q : Int) < (r9 : Int) by omega)
                            have z2 := HTL.out.head (j := q) (by rw [HLR.out]; exact hq)
                            have z3 := HTL.out.cell (j := q) (i := j) (by rw [HLR.out]; exact hq) (by omega)
                            obtain ⟨ux, z4⟩ : ∃ ux, wr.cell? ⟨bx, i, none⟩ = some ux := ⟨_, HRC.out.cell (i := i) (by rw [HXL.out]; omega)⟩
                            have f4 : wr.frozen? ⟨bx, i, none⟩ = false := HRC.out.frozen i
                            have hwn := i64_w (-(ent RED q j))
                            obtain ⟨u, hu⟩ : ∃ u, md p (wrap64 (-(ent RED q j))) = u := ⟨_, rfl⟩
                            rw [hu] at hx
                            have HX2 := Aside0.mk hx
                            have HCM := Aside0.mk (show ∀ ww, Calls Try.prog 50 #[.int .i64 p, .int .i64 (wrap64 (-(ent RED q j)))] ww fun e w' => e = .returned (.int .i64 u) ∧ w' = ww by
                              intro ww; rw [← hu]; exact mod_same p _ ww HP.out)
                            have HRN := Aside0.mk (show Row (wr.setCell ⟨bx, i, none⟩ (.int .i64 u)) bx cx (x.set i u) from HRC.out.set (by rw [HXL.out]; omega) u)
                            have HBN := Aside0.mk (show Below wA.heap.size wA (wr.setCell ⟨bx, i, none⟩ (.int .i64 u)) from HBC.out.setCell (p := ⟨bx, i, none⟩) HBB.out _)
                            have HXN := Aside0.mk (show (x.set i u).length = n by rw [List.length_set]; exact HXL.out)
                            clear hx hu hwi HX9 hqe hz0
                            go_wp2_with fail
                            refine (HCM.out _).mono ?_
                            rintro e w' ⟨rfl, rfl⟩
                            go_wp2_with fail
                            go_roundg eq
                            case measure => omega
                            case rel => exact ⟨i + 1, x.set i u, congrArg _ HWI.out, ⟨by omega⟩, HXN, HX2, HRN, HBN⟩
                          · rw [if_neg hz0] at hx
                            have HX2 := Aside0.mk hx
                            obtain ⟨u, hu⟩ : ∃ u, l.getD i 0 = u := ⟨_, rfl⟩
                            rw [hu] at z1 hz0
                            have c1 : decide (0 ≤ u) = false := decide_eq_false hz0
                            clear hx hu hwi HX9 hz0
                            go_wp2_with fail
                            go_roundg eq
                            case measure => omega
                            case rel => exact ⟨i + 1, x, congrArg _ HWI.out, ⟨by omega⟩, HXL, HX2, HRC, HBC⟩
end Go.Proofs.Ytmpdloamgiejhaa.Hand
