/- The contracts of impl.AllPartitions' two closures. Condition: said in the theorems. -/
import Derived.Test.YtcmkibljlfnkbaaHandAll7
namespace Go.Proofs.Ytcmkibljlfnkbaa.Hand
open Go.RowKit Go.Proofs.YtcmkibljlfnkbaaW.PrintWords Go.Proofs.YtcmkibljlfnkbaaW.PrintLast Go.Proofs.YtcmkibljlfnkbaaW.PrintMore
set_option linter.unusedVariables false
set_option linter.unusedSimpArgs false

/-- The world has grown, the row of v and the box bo alone being written; v' is v's row or a new one. -/
structure Ext (bo : Nat) (w w' : World) (v v' : Value) : Prop where
  os : w'.os = w.os
  tape : w'.tape = w.tape
  output : w'.output = w.output
  size : w.heap.size ≤ w'.heap.size
  block : ∀ k, k < w.heap.size → k ≠ bo → some k ≠ v.ownBlock → w'.heap[k]? = w.heap[k]?
  at_ : v'.ownBlock = v.ownBlock ∨ ∃ b, v'.ownBlock = some b ∧ w.heap.size ≤ b
theorem Ext.trans {bo : Nat} {w w1 w2 : World} {v v1 v2 : Value} (h : Ext bo w w1 v v1) (k : Ext bo w1 w2 v1 v2) : Ext bo w w2 v v2 := by
  have hs := h.size
  refine ⟨k.os.trans h.os, k.tape.trans h.tape, k.output.trans h.output, Nat.le_trans h.size k.size, fun i hi hb hne => ?_, ?_⟩
  · refine (k.block i (by omega) hb ?_).trans (h.block i hi hb hne)
    rcases h.at_ with e | ⟨b, e, hb⟩
    · rw [e]; exact hne
    · rw [e]; intro he; have := Option.some.inj he; omega
  · rcases k.at_ with e | ⟨b, e, hb⟩
    · rw [e]; exact h.at_
    · exact .inr ⟨b, e, by omega⟩
theorem Ext.of {bo : Nat} {w w' : World} {v v' : Value} (h : Grow w w' v v') : Ext bo w w' v v' := ⟨h.g.os, h.g.tape, h.g.output, h.g.size, fun k hk _ hne => h.g.block k hk hne, h.at_⟩
theorem Ext.set {bo : Nat} {w w1 : World} {v v1 : Value} (h : Ext bo w w1 v v1) {p : Addr} (hp : w.heap.size ≤ p.block ∨ p.block = bo) (u : Value) : Ext bo w (w1.setCell p u) v v1 :=
  ⟨h.os, h.tape, h.output, by simp [World.setCell]; exact h.size, fun i hi hb hne => (Below.heap_setCell w1 p u i (by omega)).trans (h.block i hi hb hne), h.at_⟩
theorem Ext.ne {bo : Nat} {w w' : World} {v v' : Value} (h : Ext bo w w' v v') {B : Nat} (hB : B < w.heap.size) (hv : v.ownBlock ≠ some B) : v'.ownBlock ≠ some B := by
  rcases h.at_ with e | ⟨b, e, hb⟩
  · rw [e]; exact hv
  · rw [e]; intro he; have := Option.some.inj he; omega
theorem box_facts {w : World} {g t : Nat} {v : Value} (h : w.heap[g]? = some (.cells #[v] t (0, 0))) : w.cell? ⟨g, 0, none⟩ = some v ∧ w.frozen? ⟨g, 0, none⟩ = false := ⟨by rw [cell_of_row w g 0 _ _ _ h]; rfl, frozen_of_row w g 0 _ _ h⟩
/-- What the closures find. -/
structure St (N bn bd bm bo base : Nat) (w : World) (v : Value) (xs : List (List Int)) : Prop where
  hn : w.heap[bn]? = some (.cells #[.int .i64 N] 3 (0, 0))
  hd : w.heap[bd]? = some (.cells #[.func (.func 13) #[] #[.pointer (some ⟨bo, 0, none⟩)]] 34 (0, 0))
  hm : w.heap[bm]? = some (.cells #[.func (.func 16) #[] #[.pointer (some ⟨bn, 0, none⟩), .pointer (some ⟨bd, 0, none⟩), .pointer (some ⟨bm, 0, none⟩)]] 37 (0, 0))
  ho : w.heap[bo]? = some (.cells #[v] 22 (0, 0))
  hr : (parK N).R 33 w base (fun _ => True) v xs
  vn : v.ownBlock ≠ some bn
  vd : v.ownBlock ≠ some bd
  vm : v.ownBlock ≠ some bm
  vo : v.ownBlock ≠ some bo
  on : bo ≠ bn
  od : bo ≠ bd
  om : bo ≠ bm
  hs : base ≤ w.heap.size
theorem St.step {N bn bd bm bo base : Nat} {w w' : World} {v v' : Value} {xs ys : List (List Int)} (h : St N bn bd bm bo base w v xs) (hx : Ext bo w w' v v') (ho : w'.heap[bo]? = some (.cells #[v'] 22 (0, 0))) (hr : (parK N).R 33 w' base (fun _ => True) v' ys) : St N bn bd bm bo base w' v' ys := by
  have lt : ∀ {g : Nat} {o : Obj}, w.heap[g]? = some o → g < w.heap.size := fun h => (Array.getElem?_eq_some_iff.1 h).1
  exact ⟨(hx.block bn (lt h.hn) (Ne.symm h.on) (Ne.symm h.vn)).trans h.hn, (hx.block bd (lt h.hd) (Ne.symm h.od) (Ne.symm h.vd)).trans h.hd, (hx.block bm (lt h.hm) (Ne.symm h.om) (Ne.symm h.vm)).trans h.hm, ho, hr,
    hx.ne (lt h.hn) h.vn, hx.ne (lt h.hd) h.vd, hx.ne (lt h.hm) h.vm, hx.ne (lt h.ho) h.vo, h.on, h.od, h.om, Nat.le_trans h.hs hx.size⟩
set_option maxHeartbeats 4000000 in
set_option maxRecDepth 100000 in
theorem do_calls (N bo base : Nat) (b : List Int) (hb : b.length = 8) (v : Value) (xs : List (List Int)) (w : World) (ho : w.heap[bo]? = some (.cells #[v] 22 (0, 0))) (hvo : v.ownBlock ≠ some bo) (hl : xs.length + 1 ≤ 1000000) (hbs : base ≤ w.heap.size) (hr : (parK N).R 33 w base (fun _ => True) v xs) :
    Calls Try.prog 13 #[.agg (par N b), .pointer (some ⟨bo, 0, none⟩)] w fun e w' => e = .returned (.tuple #[]) ∧ ∃ v', w'.heap[bo]? = some (.cells #[v'] 22 (0, 0)) ∧ (parK N).R 33 w' base (fun _ => True) v' (xs ++ [b]) ∧ Ext bo w w' v v' := by
  obtain ⟨x0, x1, x2, x3, x4, x5, x6, x7, rfl⟩ := arr8 b hb
  have hlt : bo < w.heap.size := (Array.getElem?_eq_some_iff.1 ho).1
  have c1 : (w.alloc (.cells #[.int .i64 N, .int .u8 x0, .int .u8 x1, .int .u8 x2, .int .u8 x3, .int .u8 x4, .int .u8 x5, .int .u8 x6, .int .u8 x7] 33)).cell? ⟨bo, 0, none⟩ = some v := by
    rw [World.cell?_alloc_lt _ _ _ hlt, cell_of_row w bo 0 _ _ _ ho]; rfl
  have HR := Aside0.mk hr
  have HBS := Aside0.mk hbs
  have HL := Aside0.mk hl
  have HO := Aside0.mk ho
  have HVO := Aside0.mk hvo
  have HLT := Aside0.mk hlt
  have HRM := Aside0.mk (parR_move (w1 := w.alloc (.cells #[.int .i64 N, .int .u8 x0, .int .u8 x1, .int .u8 x2, .int .u8 x3, .int .u8 x4, .int .u8 x5, .int .u8 x6, .int .u8 x7] 33)) hr (fun k hk => Below.heap_alloc w _ k (Kd.R_lt hr k hk)))
  rw [show par (N : Int) [x0, x1, x2, x3, x4, x5, x6, x7] = #[.int .i64 N, .int .u8 x0, .int .u8 x1, .int .u8 x2, .int .u8 x3, .int .u8 x4, .int .u8 x5, .int .u8 x6, .int .u8 x7] from rfl]
  clear hr hbs hl ho hvo hb hlt
  obtain ⟨Av, cv, ev⟩ := Kd.R_slice HR.out
  subst ev
  go_enter Try.func13, Try.ntmps13
  go_wp2_with ((with_reducible refine gate_builtin (b := .append) (xs := #[.tmp 3, .tmp 5]) rfl ?_); at_builtin; refine Kd.R_append (parK N) (w0 := w.alloc (.cells #[.int .i64 N, .int .u8 x0, .int .u8 x1, .int .u8 x2, .int .u8 x3, .int .u8 x4, .int .u8 x5, .int .u8 x6, .int .u8 x7] 33)) base rfl (.tmp 3) (.tmp 5) 22 33 (.agg #[.int .i64 0, .int .u8 0, .int .u8 0, .int .u8 0, .int .u8 0, .int .u8 0, .int .u8 0, .int .u8 0, .int .u8 0]) 16 rfl Try.underlying22 infoPar rfl (show 0 < 9 by omega) (by omega) (.slice Av xs.length cv) xs [x0, x1, x2, x3, x4, x5, x6, x7] [.int .i64 N, .int .u8 x0, .int .u8 x1, .int .u8 x2, .int .u8 x3, .int .u8 x4, .int .u8 x5, .int .u8 x6, .int .u8 x7] (fun _ => True) (fun _ => False) rfl ?aX ?aP (fun _ hk => hk.elim) (fun _ _ => trivial) ?aO ?aB ?aS ?aL ?_; (case aX => simp [Act.eval, World.setCell]); (case aP => exact ⟨rfl, rfl⟩); (case aB => exact Below.refl _ _); (case aO => exact HRM.out); (case aS => simp; have := HBS.out; omega); (case aL => have := HL.out; omega); intro v108 w14 ho hb hg hat; have n1_ := Aside0.mk ho; have n2_ := Aside0.mk (Grow.trans (Grow.alloc w (.slice Av xs.length cv) _) ⟨hg, hat⟩); have n3_ : w14.heap[bo]? = some (.cells #[.slice Av xs.length cv] 22 (0, 0)) := (n2_.out.g.block bo HLT.out (Ne.symm HVO.out)).trans HO.out; have n4_ := Aside0.mk n3_; obtain ⟨k1_, k2_⟩ := box_facts n3_; obtain ⟨vA_, vc_, vr_⟩ := Kd.R_slice ho; subst vr_; clear ho hb hg hat n3_ c1)
  go_end0
  have m1 := n1_.out
  have m2 := n2_.out
  rw [show (xs ++ [[x0, x1, x2, x3, x4, x5, x6, x7]]).length = xs.length + 1 from by simp] at m1 m2
  refine ⟨rfl, .slice vA_ (xs.length + 1) vc_, ?_, ?_, (Ext.of (bo := bo) m2).set (p := ⟨bo, 0, none⟩) (.inr rfl) _⟩
  · rw [heap_setCell_same w14 bo 0 _ _ _ n4_.out]; rfl
  · refine parR_move m1 (fun k hk => Below.heap_setCell _ _ _ _ (fun e => ?_))
    have h1 := (Ext.of (bo := bo) m2).ne HLT.out HVO.out
    exact h1 (by rw [hk]; exact congrArg some e)
end Go.Proofs.Ytcmkibljlfnkbaa.Hand
