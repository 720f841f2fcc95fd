/- Lists of the numbers below n, each once; the joined places that an order tells: plain words for MeanderOfOrder. No condition. -/
import Derived.Test.YtopcnhppbmmbbaaHandText
import Derived.Test.YtopcnhppbmmbbaaHandP
namespace Go.Proofs.Ytopcnhppbmmbbaa.Hand
open Go.RowKit Go.Proofs.YtopcnhppbmmbbaaW.PrintWords Go.Proofs.YtopcnhppbmmbbaaW.PrintLast Go.Proofs.YtopcnhppbmmbbaaW.PrintMore
set_option linter.unusedVariables false
set_option linter.unusedSimpArgs false

def encBm (o : List Bool) : List Value := o.map Value.bool
def ArrBm (w : World) (g t : Nat) (o : List Bool) : Prop := w.heap[g]? = some (.cells (encBm o).toArray t (0, 0))
theorem ArrBm.cell {w : World} {g t : Nat} {o : List Bool} (h : ArrBm w g t o) (i : Nat) (h1 : i < o.length) : w.cell? ⟨g, i, none⟩ = some (.bool (o.getD i false)) := by
  rw [cell_of_row w g i _ t (0, 0) h]
  unfold encBm
  rw [List.getD_eq_getElem?_getD]
  simp [List.getElem?_eq_getElem h1]
theorem ArrBm.frozen {w : World} {g t : Nat} {o : List Bool} (h : ArrBm w g t o) (i : Nat) : w.frozen? ⟨g, i, none⟩ = false := frozen_of_row w g i _ t h
theorem ArrBm.set {w : World} {g t : Nat} {o : List Bool} (h : ArrBm w g t o) (i : Nat) (v : Bool) : ArrBm (w.setCell ⟨g, i, none⟩ (.bool v)) g t (o.set i v) := by
  unfold ArrBm at *
  rw [heap_setCell_same w g i _ t _ h]
  congr 2
  unfold encBm
  rw [List.map_set]
  simp
theorem ArrBm.new (w : World) (t : Nat) (o : List Bool) (cs : Array Value) (h : cs = (encBm o).toArray) : ArrBm (w.alloc (.cells cs t)) w.heap.size t o := by
  subst h
  exact heap_alloc_new w _
theorem ArrBm.lt {w : World} {g t : Nat} {o : List Bool} (h : ArrBm w g t o) : g < w.heap.size := (Array.getElem?_eq_some_iff.1 h).1
theorem ArrBm.alloc {w : World} {g t : Nat} {o : List Bool} (h : ArrBm w g t o) (ob : Obj) : ArrBm (w.alloc ob) g t o := (Below.heap_alloc w ob g h.lt).trans h
theorem ArrBm.drewN {w : World} {g t : Nat} {o : List Bool} (h : ArrBm w g t o) (n : Nat) : ArrBm (w.drewN n) g t o := h
theorem Arr.celln {w : World} {g t : Nat} {o : List Int} (h : Arr w g t o) (i : Nat) (h1 : i < o.length) : w.cell? ⟨g, i, none⟩ = some (.int .i64 (o.getD i 0)) := by
  have := h.cell (i : Int) (by omega) (by omega)
  rw [Int.toNat_natCast] at this
  exact this
theorem Arr.reads {w : World} {g t : Nat} {o : List Int} (h : Arr w g t o) (hl : o.length ≤ 1000000) : Kd.C (Kd.int .i64) w (some ⟨g, 0, none⟩) o.length o := by
  refine Kd.C_of_reads (d := (0 : Int)) ⟨rfl, by omega, fun _ => ⟨_, rfl, fun j hj => ?_⟩⟩
  have hadd : (⟨g, 0, none⟩ : Addr).add j = ⟨g, j, none⟩ := by unfold Addr.add; split <;> simp_all
  rw [hadd]
  exact h.celln j hj
theorem Arr.made (w : World) (t n : Nat) : Arr (w.alloc (.cells (madeCells #[.int .i64 0] n) t)) w.heap.size t (List.replicate n 0) := by
  refine Arr.new w t _ _ ?_
  unfold enc madeCells
  apply Array.ext
  · simp
  · intro i h1 h2
    simp [Nat.mod_one]
theorem drop_rd (l : List Int) (i : Nat) (h : i < l.length) : l.drop i = rd l (i : Int) :: l.drop (i + 1) := by
  rw [List.drop_eq_getElem_cons h]
  congr 1
  unfold rd
  rw [Int.toNat_natCast, List.getD_eq_getElem?_getD, List.getElem?_eq_getElem h]
  rfl
/-- The rest of a list from a place on, some numbers having been met: within 0 to n - 1, and none twice. -/
def pmR (n : Int) : List Int → List Bool → Bool
  | [], _ => true
  | x :: r, m => if 0 ≤ x ∧ x ≤ n - 1 then (if m.getD x.toNat false = true then false else pmR n r (m.set x.toNat true)) else false
theorem pmR_rng (n : Int) : ∀ (l : List Int) (m : List Bool), pmR n l m = true → ∀ x ∈ l, 0 ≤ x ∧ x ≤ n - 1 := by
  intro l
  induction l with
  | nil => intro m _ x hx; cases hx
  | cons y r ih =>
    intro m h x hx
    simp only [pmR] at h
    by_cases c1 : 0 ≤ y ∧ y ≤ n - 1
    · rw [if_pos c1] at h
      by_cases c2 : m.getD y.toNat false = true
      · rw [if_pos c2] at h; cases h
      · rw [if_neg c2] at h
        rcases List.mem_cons.1 hx with rfl | hx
        · exact c1
        · exact ih _ h x hx
    · rw [if_neg c1] at h; cases h
theorem rd_mem (l : List Int) (i : Nat) (h : i < l.length) : rd l (i : Int) ∈ l := by
  unfold rd
  rw [Int.toNat_natCast, List.getD_eq_getElem?_getD, List.getElem?_eq_getElem h]
  exact List.getElem_mem h
/-- The joined places above and below, when i steps of an order are told. -/
def mtS (l : List Int) (n : Nat) : Nat → List Int × List Int
  | 0 => (List.replicate n 0, List.replicate n 0)
  | i + 1 => if i % 2 = 0 then ((((mtS l n i).1.set (rd l (i : Int)).toNat (rd l (((i + 1) % n : Nat) : Int))).set (rd l (((i + 1) % n : Nat) : Int)).toNat (rd l (i : Int))), (mtS l n i).2)
    else ((mtS l n i).1, (((mtS l n i).2.set (rd l (i : Int)).toNat (rd l (((i + 1) % n : Nat) : Int))).set (rd l (((i + 1) % n : Nat) : Int)).toNat (rd l (i : Int))))
theorem mtS_len (l : List Int) (n : Nat) : ∀ i, (mtS l n i).1.length = n ∧ (mtS l n i).2.length = n := by
  intro i
  induction i with
  | zero => simp [mtS]
  | succ i ih => simp only [mtS]; split <;> simp [ih.1, ih.2]
def okO (l : List Int) : Bool := decide (2 ≤ l.length ∧ l.length ≤ 12 ∧ l.length % 2 = 0) && (rd l 0 == 0)
def finO (a b : ByteArray × Bool) : ByteArray × ByteArray × Int := if (a.2 && b.2) = true then (a.1, b.1, 0) else ((⟨#[]⟩ : ByteArray), (⟨#[]⟩ : ByteArray), 5)
theorem spec_in_calls (x lo hi : Int) (b : Bool) (hb : (decide (lo ≤ x) && decide (x ≤ hi)) = b) (w : World) : Calls Try.prog 39 #[.int .i64 x, .int .i64 lo, .int .i64 hi] w fun e w' => e = .returned (.bool b) ∧ Drawn0 w w' := by
  refine spec_l01In.calls x lo hi b w ?_
  unfold spec_l01In.f
  by_cases c : x ≥ lo
  · rw [if_pos c, ← hb, decide_eq_true c, Bool.true_and]
  · rw [if_neg c, ← hb, decide_eq_false c, Bool.false_and]
theorem impl_in_calls (x lo hi : Int) (b : Bool) (hb : (decide (lo ≤ x) && decide (x ≤ hi)) = b) (w : World) : Calls Try.prog 28 #[.int .i64 x, .int .i64 lo, .int .i64 hi] w fun e w' => e = .returned (.bool b) ∧ Drawn0 w w' := by
  refine impl_in.calls x lo hi b w ?_
  unfold impl_in.f
  by_cases c : x ≥ lo
  · rw [if_pos c, ← hb, decide_eq_true c, Bool.true_and]
  · rw [if_neg c, ← hb, decide_eq_false c, Bool.false_and]
end Go.Proofs.Ytopcnhppbmmbbaa.Hand
