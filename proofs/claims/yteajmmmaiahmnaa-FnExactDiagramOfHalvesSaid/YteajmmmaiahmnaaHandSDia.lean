/- The contract of spec.l04Diagram, for two half diagrams of one size. Condition: said in the theorem. -/
import Derived.Test.YteajmmmaiahmnaaHandP
import Derived.Test.YteajmmmaiahmnaaHandDiaC
import Derived.Test.YteajmmmaiahmnaaHandHalt
import Derived.Deep.RegionHeld
namespace Go.Proofs.Yteajmmmaiahmnaa.Hand
open Go.RowKit Go.Proofs.YteajmmmaiahmnaaW.PrintWords Go.Proofs.YteajmmmaiahmnaaW.PrintLast Go.Proofs.YteajmmmaiahmnaaW.PrintMore
set_option linter.unusedVariables false
set_option linter.unusedSimpArgs false

theorem Arr.celln {w : World} {g t : Nat} {o : List Int} (h : Arr w g t o) (i : Nat) (h1 : i < o.length) : w.cell? ⟨g, i, none⟩ = some (.int .i64 (o.getD i 0)) := by
  have := h.cell (i : Int) (by omega) (by omega)
  rw [Int.toNat_natCast] at this
  exact this
/-- Arcs of eight places. -/
structure Arc8 (o : List Int) : Prop where
  len : o.length = 8
  rng : ∀ i, i < 8 → 0 ≤ o.getD i 0 ∧ o.getD i 0 < 8
/-- The bytes, when i places are told. -/
def B1 (n : Nat) (o1 o2 : List Int) : Nat → List Int
  | 0 => List.replicate 16 0
  | i + 1 => ((B1 n o1 o2 i).set i (o1.getD i 0)).set (n + i) ((n : Int) + o2.getD i 0)
/-- The open points among the first i places of the one half. -/
def F1 (o : List Int) : Nat → List Int
  | 0 => []
  | i + 1 => if o.getD i 0 = (i : Int) then F1 o i ++ [(i : Int)] else F1 o i
/-- .. of the other half, n on. -/
def S1 (n : Nat) (o : List Int) : Nat → List Int
  | 0 => []
  | i + 1 => if o.getD i 0 = (i : Int) then S1 n o i ++ [((n + i : Nat) : Int)] else S1 n o i
/-- The bytes, when k open points are joined. -/
def B2 (f s b : List Int) : Nat → List Int
  | 0 => b
  | k + 1 => ((B2 f s b k).set (f.getD k 0).toNat (s.getD k 0)).set (s.getD k 0).toNat (f.getD k 0)
theorem B1_len (n : Nat) (o1 o2 : List Int) : ∀ i, (B1 n o1 o2 i).length = 16
  | 0 => rfl
  | i + 1 => by rw [B1, List.length_set, List.length_set, B1_len n o1 o2 i]
theorem B2_len (f s b : List Int) (hb : b.length = 16) : ∀ k, (B2 f s b k).length = 16
  | 0 => hb
  | k + 1 => by rw [B2, List.length_set, List.length_set, B2_len f s b hb k]
theorem F1_len (o : List Int) : ∀ i, (F1 o i).length ≤ i
  | 0 => Nat.le_refl _
  | i + 1 => by
    have := F1_len o i
    rw [F1]
    split
    · rw [List.length_append, List.length_singleton]; omega
    · omega
theorem S1_len (n : Nat) (o : List Int) : ∀ i, (S1 n o i).length ≤ i
  | 0 => Nat.le_refl _
  | i + 1 => by
    have := S1_len n o i
    rw [S1]
    split
    · rw [List.length_append, List.length_singleton]; omega
    · omega
theorem F1_mem (o : List Int) : ∀ i, ∀ x ∈ F1 o i, 0 ≤ x ∧ x < (i : Int)
  | 0, x, h => by simp [F1] at h
  | i + 1, x, h => by
    rw [F1] at h
    split at h
    · rcases List.mem_append.1 h with h | h
      · have := F1_mem o i x h; omega
      · rw [List.mem_singleton] at h; omega
    · have := F1_mem o i x h; omega
theorem S1_mem (n : Nat) (o : List Int) : ∀ i, ∀ x ∈ S1 n o i, (n : Int) ≤ x ∧ x < ((n + i : Nat) : Int)
  | 0, x, h => by simp [S1] at h
  | i + 1, x, h => by
    rw [S1] at h
    split at h
    · rcases List.mem_append.1 h with h | h
      · have := S1_mem n o i x h; omega
      · rw [List.mem_singleton] at h; omega
    · have := S1_mem n o i x h; omega
theorem dia_set (n : Int) (b : List Int) (i : Nat) (v : Int) : (dia n b).setIfInBounds (1 + i) (.int .u8 v) = dia n (b.set i v) := by
  unfold dia
  rw [List.setIfInBounds_toArray, Nat.add_comm 1 i, List.set_cons_succ, List.map_set]
theorem dia_at (n : Int) (b : List Int) (i : Nat) (hi : i < b.length) : (dia n b)[1 + i]? = some (.int .u8 (b.getD i 0)) := by
  unfold dia
  rw [List.getElem?_toArray, Nat.add_comm 1 i, List.getElem?_cons_succ, List.getElem?_map, List.getD_eq_getElem?_getD, List.getElem?_eq_getElem hi]
  rfl
/-- The blocks of the making. -/
def okB (g X Y k : Nat) : Prop := k ≠ g ∧ k ≠ g + 1 + 1 + 1 ∧ k ≠ X ∧ k ≠ Y
/-- How the making stands. -/
structure St (w : World) (g X Y n : Nat) (o1 o2 b f s : List Int) (v7 v8 : Value) (w' : World) : Prop where
  res : w'.heap[g]? = some (.cells (dia 0 (List.replicate 16 0)) 24 (0, 0))
  out : w'.heap[g + 1 + 1 + 1]? = some (.cells (dia n b) 24 (0, 0))
  up : Arr w' X 35 o1
  lo : Arr w' Y 35 o2
  fst : Kd.R (Kd.int .i64) 2 w' g (fun k => okB g X Y k ∧ some k ≠ v8.ownBlock) v7 f
  snd : Kd.R (Kd.int .i64) 2 w' g (fun k => okB g X Y k ∧ some k ≠ v7.ownBlock) v8 s
  gx : g + 4 ≤ X
  xy : X < Y
  lt : Y < w'.heap.size
  bel : Below g w w'
section
variable {w w' w1 : World} {g X Y n : Nat} {o1 o2 b f s : List Int} {v7 v8 v : Value}
theorem St.set (h : St w g X Y n o1 o2 b f s v7 v8 w') (i : Nat) (x : Int) : St w g X Y n o1 o2 (b.set i x) f s v7 v8 (w'.setCell ⟨g + 1 + 1 + 1, 1 + i, none⟩ (.int .u8 x)) := by
  have hx := h.gx
  have hy := h.xy
  refine ⟨(heap_setCell_other w' _ g _ (by show g ≠ g + 1 + 1 + 1; omega)).trans h.res, ?_, h.up.far (by show X ≠ g + 1 + 1 + 1; omega) _, h.lo.far (by show Y ≠ g + 1 + 1 + 1; omega) _, Kd.R_move h.fst (fun k hk => heap_setCell_other w' _ k _ hk.1.2.1), Kd.R_move h.snd (fun k hk => heap_setCell_other w' _ k _ hk.1.2.1), hx, hy, ?_, h.bel.setCell (by show g ≤ g + 1 + 1 + 1; omega) _⟩
  · rw [heap_setCell_same w' (g + 1 + 1 + 1) (1 + i) _ _ _ h.out, dia_set]
  · have := h.lt
    simpa [World.setCell] using this
theorem St.fresh7 (h : St w g X Y n o1 o2 b f s v7 v8 w') : ∀ k, w'.heap.size ≤ k → okB g X Y k ∧ some k ≠ v8.ownBlock := fun k hk => by
  have h1 := h.gx; have h2 := h.xy; have h3 := h.lt
  exact ⟨⟨by omega, by omega, by omega, by omega⟩, Kd.fresh' (Kd.R_lt h.snd) k hk⟩
theorem St.fresh8 (h : St w g X Y n o1 o2 b f s v7 v8 w') : ∀ k, w'.heap.size ≤ k → okB g X Y k ∧ some k ≠ v7.ownBlock := fun k hk => by
  have h1 := h.gx; have h2 := h.xy; have h3 := h.lt
  exact ⟨⟨by omega, by omega, by omega, by omega⟩, Kd.fresh' (Kd.R_lt h.fst) k hk⟩
theorem St.app7 (h : St w g X Y n o1 o2 b f s v7 v8 w') {f' : List Int} (ho : Kd.R (Kd.int .i64) 2 w1 g (fun k => okB g X Y k ∧ some k ≠ v8.ownBlock) v f') (hb : Below g w w1) (hg : w'.grownBy w1 v7.ownBlock) (hat : v.ownBlock = v7.ownBlock ∨ ∃ b, v.ownBlock = some b ∧ w'.heap.size ≤ b) : St w g X Y n o1 o2 b f' s v v8 w1 := by
  have hx := h.gx; have hy := h.xy; have hl := h.lt
  have ne : ∀ k, k = g ∨ k = g + 1 + 1 + 1 ∨ k = X ∨ k = Y → some k ≠ v7.ownBlock := fun k hk e => by
    have := (h.fst.1 k e.symm).1
    obtain ⟨a1, a2, a3, a4⟩ := this
    omega
  exact ⟨(hg.block g (by omega) (ne _ (.inl rfl))).trans h.res, (hg.block _ (by omega) (ne _ (.inr (.inl rfl)))).trans h.out, h.up.grown hg (ne _ (.inr (.inr (.inl rfl)))), h.lo.grown hg (ne _ (.inr (.inr (.inr rfl)))), ho, Kd.R_after h.snd hg hat, hx, hy, Nat.lt_of_lt_of_le hl hg.size, hb⟩
theorem St.app8 (h : St w g X Y n o1 o2 b f s v7 v8 w') {s' : List Int} (ho : Kd.R (Kd.int .i64) 2 w1 g (fun k => okB g X Y k ∧ some k ≠ v7.ownBlock) v s') (hb : Below g w w1) (hg : w'.grownBy w1 v8.ownBlock) (hat : v.ownBlock = v8.ownBlock ∨ ∃ b, v.ownBlock = some b ∧ w'.heap.size ≤ b) : St w g X Y n o1 o2 b f s' v7 v w1 := by
  have hx := h.gx; have hy := h.xy; have hl := h.lt
  have ne : ∀ k, k = g ∨ k = g + 1 + 1 + 1 ∨ k = X ∨ k = Y → some k ≠ v8.ownBlock := fun k hk e => by
    have := (h.snd.1 k e.symm).1
    obtain ⟨a1, a2, a3, a4⟩ := this
    omega
  exact ⟨(hg.block g (by omega) (ne _ (.inl rfl))).trans h.res, (hg.block _ (by omega) (ne _ (.inr (.inl rfl)))).trans h.out, h.up.grown hg (ne _ (.inr (.inr (.inl rfl)))), h.lo.grown hg (ne _ (.inr (.inr (.inr rfl)))), Kd.R_after h.fst hg hat, ho, hx, hy, Nat.lt_of_lt_of_le hl hg.size, hb⟩
theorem St.drew (h : St w g X Y n o1 o2 b f s v7 v8 w') : St w g X Y n o1 o2 b f s v7 v8 w'.drew := ⟨h.res, h.out, h.up, h.lo, Kd.R_move h.fst (fun _ _ => rfl), Kd.R_move h.snd (fun _ _ => rfl), h.gx, h.xy, h.lt, below_drew1 h.bel⟩
end
theorem four (w : World) (a b c d : Array Value) (t : TypeId) : ((((w.alloc (.cells a t)).alloc (.cells b 2)).alloc (.cells c 2)).alloc (.cells d t)).heap[w.heap.size]? = some (.cells a t (0, 0)) ∧
    ((((w.alloc (.cells a t)).alloc (.cells b 2)).alloc (.cells c 2)).alloc (.cells d t)).heap[w.heap.size + 1]? = some (.cells b 2 (0, 0)) ∧
    ((((w.alloc (.cells a t)).alloc (.cells b 2)).alloc (.cells c 2)).alloc (.cells d t)).heap[w.heap.size + 1 + 1]? = some (.cells c 2 (0, 0)) ∧
    ((((w.alloc (.cells a t)).alloc (.cells b 2)).alloc (.cells c 2)).alloc (.cells d t)).heap[w.heap.size + 1 + 1 + 1]? = some (.cells d t (0, 0)) ∧
    ((((w.alloc (.cells a t)).alloc (.cells b 2)).alloc (.cells c 2)).alloc (.cells d t)).heap.size = w.heap.size + 4 ∧
    Below w.heap.size w ((((w.alloc (.cells a t)).alloc (.cells b 2)).alloc (.cells c 2)).alloc (.cells d t)) := by
  have s1 : (w.alloc (.cells a t)).heap.size = w.heap.size + 1 := by simp
  generalize hA : w.alloc (.cells a t) = A at s1
  have s2 : (A.alloc (.cells b 2)).heap.size = w.heap.size + 1 + 1 := by simp [s1]
  generalize hB : A.alloc (.cells b 2) = B at s2
  have s3 : (B.alloc (.cells c 2)).heap.size = w.heap.size + 1 + 1 + 1 := by simp [s2]
  generalize hC : B.alloc (.cells c 2) = C at s3
  have s4 : (C.alloc (.cells d t)).heap.size = w.heap.size + 4 := by simp [s3]
  have n0 : A.heap[w.heap.size]? = some (.cells a t (0, 0)) := by rw [← hA]; exact heap_alloc_new _ _
  have n1 : B.heap[w.heap.size + 1]? = some (.cells b 2 (0, 0)) := by rw [← hB, ← s1]; exact heap_alloc_new _ _
  have n2 : C.heap[w.heap.size + 1 + 1]? = some (.cells c 2 (0, 0)) := by rw [← hC, ← s2]; exact heap_alloc_new _ _
  have n3 : (C.alloc (.cells d t)).heap[w.heap.size + 1 + 1 + 1]? = some (.cells d t (0, 0)) := by rw [← s3]; exact heap_alloc_new _ _
  refine ⟨?_, ?_, ?_, n3, s4, ?_⟩
  · rw [heap_alloc_old _ _ (by omega), ← hC, heap_alloc_old _ _ (by omega), ← hB, heap_alloc_old _ _ (by omega)]; exact n0
  · rw [heap_alloc_old _ _ (by omega), ← hC, heap_alloc_old _ _ (by omega)]; exact n1
  · rw [heap_alloc_old _ _ (by omega)]; exact n2
  · rw [← hC, ← hB, ← hA]
    exact ((((Below.refl _ w).alloc (Nat.le_refl _) _).alloc (by simp) _).alloc (by simp; omega) _).alloc (by simp; omega) _
/-- What a row laid behind leaves. -/
theorem laid_keep (w : World) (cs ds : Array Value) (t : TypeId) (k : Nat) (hk : k < w.heap.size) : ((w.alloc (.cells cs t)).setRow w.heap.size ds).heap[k]? = w.heap[k]? := (setRow_other _ _ _ _ (by omega)).trans (heap_alloc_old _ _ hk)
set_option maxHeartbeats 8000000 in
set_option maxRecDepth 100000 in
theorem sdia_calls (a0 a1 : ByteArray) (o1 o2 : List Int) (b1 b2 : Bool) (ka n : Nat) (h1 : spec_l04Arcs.f ka a0 = some (o1, b1)) (h2 : spec_l04Arcs.f ka a1 = some (o2, b2)) (ho1 : Arc8 o1) (ho2 : Arc8 o2) (hn : a0.size = n) (hs : n ≤ 8)
    (hfs : (F1 o1 n).length = (S1 n o2 n).length) (w : World) :
    Calls Try.prog 9 #[.string a0, .string a1] w fun e w' => e = .returned (.agg (dia n (B2 (F1 o1 n) (S1 n o2 n) (B1 n o1 o2 n) (F1 o1 n).length))) ∧ Below w.heap.size w w' := by
  have HC1 := Aside0.mk (fun W => spec_l04Arcs.calls ka a0 o1 b1 W h1)
  have HC2 := Aside0.mk (fun W => spec_l04Arcs.calls ka a1 o2 b2 W h2)
  have HO1A := Aside0.mk ho1
  have HO2A := Aside0.mk ho2
  have HSZ := Aside0.mk hs
  have HFS := Aside0.mk hfs
  have hni : (a0.size : Int) = (n : Int) := by rw [hn]
  have HI1 := Aside0.mk (show (Try.prog.info? 35).map (·.size) = some (enc o1).toArray.size by rw [encSize ho1.len]; kernel_rfl)
  have HI2 := Aside0.mk (show (Try.prog.info? 35).map (·.size) = some (enc o2).toArray.size by rw [encSize ho2.len]; kernel_rfl)
  have HZ1 := Aside0.mk (show (enc (List.replicate 8 0)).toArray.size = (enc o1).toArray.size by rw [encSize ho1.len]; rfl)
  have HZ2 := Aside0.mk (show (enc (List.replicate 8 0)).toArray.size = (enc o2).toArray.size by rw [encSize ho2.len]; rfl)
  clear h1 h2 ho1 ho2 hs hfs
  go_enter Try.func9, Try.ntmps9
  go_wp2_with fail
  refine (HC1.out _).mono ?_
  rintro e w1 ⟨rfl, hb1⟩
  obtain ⟨k0, k1, k2, k3, k4, k5⟩ := four w #[.int .i64 0, .int .u8 0, .int .u8 0, .int .u8 0, .int .u8 0, .int .u8 0, .int .u8 0, .int .u8 0, .int .u8 0, .int .u8 0, .int .u8 0, .int .u8 0, .int .u8 0, .int .u8 0, .int .u8 0, .int .u8 0, .int .u8 0] #[] #[] #[.int .i64 (n : Int), .int .u8 0, .int .u8 0, .int .u8 0, .int .u8 0, .int .u8 0, .int .u8 0, .int .u8 0, .int .u8 0, .int .u8 0, .int .u8 0, .int .u8 0, .int .u8 0, .int .u8 0, .int .u8 0, .int .u8 0, .int .u8 0] 24
  have HL1 := Aside0.mk (show w.heap.size + 4 ≤ w1.heap.size by have := below_size hb1; rw [k4] at this; exact this)
  have HR1 := Aside0.mk (show w1.heap[w.heap.size]? = some (.cells (dia 0 (List.replicate 16 0)) 24 (0, 0)) from (hb1.block _ (by rw [k4]; omega)).trans k0)
  have HF1 := Aside0.mk (show w1.heap[w.heap.size + 1]? = some (.cells #[] 2 (0, 0)) from (hb1.block _ (by rw [k4]; omega)).trans k1)
  have HS1 := Aside0.mk (show w1.heap[w.heap.size + 1 + 1]? = some (.cells #[] 2 (0, 0)) from (hb1.block _ (by rw [k4]; omega)).trans k2)
  have HD1 := Aside0.mk (show w1.heap[w.heap.size + 1 + 1 + 1]? = some (.cells (dia n (List.replicate 16 0)) 24 (0, 0)) from (hb1.block _ (by rw [k4]; omega)).trans k3)
  have HB1 := Aside0.mk (show Below w.heap.size w w1 from below_step k5 hb1)
  clear hb1 k0 k1 k2 k3 k4 k5
  go_wp2_with (refine wpList_store_row_halt rfl 35 _ _ rfl w1.heap.size (enc o1).toArray rfl rfl 35 (enc (List.replicate 8 0)).toArray (Arr.new w1 35 (List.replicate 8 0) _ zeros8) HI1.out HZ1.out (enc_one _) ?_)
  intro W1 hW1
  have HA1 := Aside0.mk (show Arr W1 w1.heap.size 35 o1 by rw [hW1.eq]; exact (Arr.new w1 35 (List.replicate 8 0) _ zeros8).row o1)
  have HK1 := Aside0.mk (show ∀ k, k < w1.heap.size → W1.heap[k]? = w1.heap[k]? from fun k hk => by rw [hW1.eq]; exact laid_keep _ _ _ _ _ hk)
  have HB2 := Aside0.mk (show Below w.heap.size w W1 by rw [hW1.eq]; exact below_setRow (below_alloc HB1.out _) (below_size HB1.out))
  clear hW1 HB1
  refine Halt.mk ?_
  go_wp2_with fail
  refine (HC2.out _).mono ?_
  rintro e w2 ⟨rfl, hb2⟩
  have HLX := Aside0.mk (show w1.heap.size < w2.heap.size from Nat.lt_of_lt_of_le HA1.out.lt (below_size hb2))
  have HA2 := Aside0.mk (show Arr w2 w1.heap.size 35 o1 from (hb2.block _ HA1.out.lt).trans HA1.out)
  have HK2 := Aside0.mk (show ∀ k, k < w1.heap.size → w2.heap[k]? = w1.heap[k]? from fun k hk => (hb2.block k (Nat.lt_trans hk HA1.out.lt)).trans (HK1.out k hk))
  have HB3 := Aside0.mk (below_step HB2.out hb2)
  clear hb2 HA1 HB2 HK1
  go_wp2_with (refine wpList_store_row_halt rfl 35 _ _ rfl w2.heap.size (enc o2).toArray rfl rfl 35 (enc (List.replicate 8 0)).toArray (Arr.new w2 35 (List.replicate 8 0) _ zeros8) HI2.out HZ2.out (enc_one _) ?_)
  intro W2 hW2
  have HK3 := Aside0.mk (show ∀ k, k < w1.heap.size → W2.heap[k]? = w1.heap[k]? from fun k hk => by rw [hW2.eq, laid_keep _ _ _ _ _ (Nat.lt_trans hk HLX.out)]; exact HK2.out k hk)
  have HB4 := Aside0.mk (show Below w.heap.size w W2 by rw [hW2.eq]; exact below_setRow (below_alloc HB3.out _) (below_size HB3.out))
  have HA3 := Aside0.mk (show Arr W2 w1.heap.size 35 o1 by rw [hW2.eq]; exact (HA2.out.alloc _).row_far (Nat.ne_of_lt HLX.out) _)
  have HA4 := Aside0.mk (show Arr W2 w2.heap.size 35 o2 by rw [hW2.eq]; exact (Arr.new w2 35 (List.replicate 8 0) _ zeros8).row o2)
  have HST := Aside0.mk (show St w w.heap.size w1.heap.size w2.heap.size n o1 o2 (B1 n o1 o2 0) (F1 o1 0) (S1 n o2 0) (.slice (some ⟨w.heap.size + 1, 0, none⟩) 0 0) (.slice (some ⟨w.heap.size + 1 + 1, 0, none⟩) 0 0) W2 by
    have hl := HL1.out
    refine ⟨(HK3.out _ (by omega)).trans HR1.out, (HK3.out _ (by omega)).trans HD1.out, HA3.out, HA4.out, ?_, ?_, hl, HLX.out, HA4.out.lt, HB4.out⟩
    · exact R_empty ((HK3.out _ (by omega)).trans HF1.out) (by omega) ⟨⟨by omega, by omega, by omega, by have := HLX.out; omega⟩, by simp [Value.ownBlock]⟩
    · exact R_empty ((HK3.out _ (by omega)).trans HS1.out) (by omega) ⟨⟨by omega, by omega, by omega, by have := HLX.out; omega⟩, by simp [Value.ownBlock]⟩)
  clear hW2 HA2 HA3 HA4 HB3 HB4 HK2 HK3 HR1 HF1 HS1 HD1 HI1 HI2 HZ1 HZ2 HC1 HC2 hn hni
  refine Halt.mk ?_
  have hgx := HL1.out
  have hxy := HLX.out
  obtain ⟨X, hX⟩ : ∃ X, X = w1.heap.size := ⟨_, rfl⟩
  obtain ⟨Y, hY⟩ : ∃ Y, Y = w2.heap.size := ⟨_, rfl⟩
  rw [← hX, ← hY] at HST hxy
  rw [← hX] at hgx
  rw [← hX, ← hY]
  clear hX hY HL1 HLX
  go_wp2_with fail
  go_loopg [7, 8, 13] n (fun dq v7 v8 v13 w' => ∃ (i : Nat), v13 = .int .i64 (i : Int) ∧ Aside0 (i + dq = n) ∧ Aside0 (St w w.heap.size X Y n o1 o2 (B1 n o1 o2 i) (F1 o1 i) (S1 n o2 i) v7 v8 w'))
  case atStart => exact ⟨0, rfl, ⟨by omega⟩, HST⟩
  case round =>
    clear HST
    obtain ⟨i, rfl, HI, HST⟩ := hrel
    cases gk with
    | zero =>
      have hi : i = n := by have := HI.out; omega
      have HST := Aside0.mk (show St w w.heap.size X Y n o1 o2 (B1 n o1 o2 n) (F1 o1 n) (S1 n o2 n) u7 u8 wr by have := HST.out; rw [hi] at this; exact this)
      have c1 : decide ((i : Int) < (n : Int)) = false := decide_eq_false (by omega)
      have c2 : decide (i < n) = false := decide_eq_false (by omega)
      have HFM := Aside0.mk (F1_mem o1 n)
      have HSM := Aside0.mk (S1_mem n o2 n)
      have HBL := Aside0.mk (B1_len n o1 o2 n)
      have HFL8 := Aside0.mk (show (F1 o1 n).length ≤ 8 by have := F1_len o1 n; have := HSZ.out; omega)
      have hfs := HFS.out
      obtain ⟨f, hf⟩ : ∃ f, F1 o1 n = f := ⟨_, rfl⟩
      obtain ⟨s, hs⟩ : ∃ s, S1 n o2 n = s := ⟨_, rfl⟩
      obtain ⟨b, hb⟩ : ∃ b, B1 n o1 o2 n = b := ⟨_, rfl⟩
      rw [hf, hs, hb] at HST
      rw [hf] at HFM HFL8 hfs
      rw [hs] at HSM hfs
      rw [hb] at HBL
      have HEQ := Aside0.mk (show B2 f s b f.length = B2 (F1 o1 n) (S1 n o2 n) (B1 n o1 o2 n) (F1 o1 n).length by rw [hf, hs, hb])
      clear hf hs hb
      have HFS := Aside0.mk hfs
      obtain ⟨A7, k7, h7⟩ := Kd.R_slice HST.out.fst
      obtain ⟨A8, k8, h8⟩ := Kd.R_slice HST.out.snd
      subst h7 h8
      clear hi hfs HI
      have HZ := Aside0.mk (show (Try.prog.info? 24).map (·.size) = some (dia n (B2 f s b f.length)).size by rw [dia_size, B2_len f s b HBL.out]; exact sizeDia)
      have HZ0 := Aside0.mk (show (dia 0 (List.replicate 16 0)).size = (dia n (B2 f s b f.length)).size by rw [dia_size, dia_size, B2_len f s b HBL.out]; rfl)
      go_wp2_with fail
      clear c1 c2
      go_loopg [14] f.length (fun dq v14 w' => ∃ (k : Nat), v14 = .int .i64 (k : Int) ∧ Aside0 (k + dq = f.length) ∧ Aside0 (St w w.heap.size X Y n o1 o2 (B2 f s b k) f s (.slice A7 f.length k7) (.slice A8 s.length k8) w'))
      case atStart => exact ⟨0, rfl, ⟨by omega⟩, HST⟩
      case round =>
        clear HST
        obtain ⟨k, rfl, HK, HST⟩ := hrel
        cases gk with
        | zero =>
          have hk : k = f.length := by have := HK.out; omega
          have HST := Aside0.mk (show St w w.heap.size X Y n o1 o2 (B2 f s b f.length) f s (.slice A7 f.length k7) (.slice A8 s.length k8) wr by have := HST.out; rw [hk] at this; exact this)
          have c1 : decide ((k : Int) < (f.length : Int)) = false := decide_eq_false (by omega)
          have c2 : decide (k < f.length) = false := decide_eq_false (by omega)
          clear hk
          go_wp2_with (first | (refine wpList_load_row rfl 24 _ rfl (w.heap.size + 1 + 1 + 1) rfl 24 (dia n (B2 f s b f.length)) (0, 0) _ HST.out.out Try.underlying24 rfl HZ.out ?_) | (refine wpList_store_row rfl 24 _ _ rfl w.heap.size (dia n (B2 f s b f.length)) rfl rfl 24 (dia 0 (List.replicate 16 0)) HST.out.res HZ.out HZ0.out (dia_one _ _) ?_))
          refine bodyPost_ret (results_cell_row rfl _ _ w.heap.size 24 _ (0, 0) _ rfl (setRow_heap _ _ _ _ _ _ HST.out.res) Try.underlying24 rfl HZ.out) rfl ⟨by rw [HEQ.out], below_setRow HST.out.bel (Nat.le_refl _)⟩
        | succ dq =>
          have hk := HK.out
          have hkf : k < f.length := by omega
          have hks : k < s.length := by have := HFS.out; omega
          have c1 : decide ((k : Int) < (f.length : Int)) = true := decide_eq_true (by omega)
          have c2 : decide (k < f.length) = true := decide_eq_true hkf
          have p1 := eq_true (show (0 : Int) ≤ (k : Int) by omega)
          have p2 := eq_true (show (k : Int) < (f.length : Int) by omega)
          have p2' := eq_true (show k < f.length from hkf)
          have p3 := eq_true (show (k : Int) < (s.length : Int) by omega)
          have p3' := eq_true (show k < s.length from hks)
          have ef : rd f (k : Int) = f.getD k 0 := by unfold rd; rw [Int.toNat_natCast]
          have es : rd s (k : Int) = s.getD k 0 := by unfold rd; rw [Int.toNat_natCast]
          have hf1 := HFM.out (f.getD k 0) (by rw [List.getD_eq_getElem?_getD, List.getElem?_eq_getElem hkf]; exact List.getElem_mem _)
          have hs1 := HSM.out (s.getD k 0) (by rw [List.getD_eq_getElem?_getD, List.getElem?_eq_getElem hks]; exact List.getElem_mem _)
          obtain ⟨g7, q7, e7, _, _, _⟩ := Kd.R_form HST.out.fst (by omega)
          obtain ⟨g8, q8, e8, _, _, _⟩ := Kd.R_form HST.out.snd (by omega)
          injection e7 with e7 _ e7c
          injection e8 with e8 _ e8c
          subst e7 e8 e7c e8c
          have HRF := Aside0.mk (show ∀ (W : World) (bb : List Int), St w w.heap.size X Y n o1 o2 bb f s (.slice (some ⟨g7, 0, none⟩) f.length k7) (.slice (some ⟨g8, 0, none⟩) s.length k8) W → W.cell? ⟨g7, k, none⟩ = some (.int .i64 (f.getD k 0)) ∧ W.cell? ⟨g8, k, none⟩ = some (.int .i64 (s.getD k 0)) by
            intro W bb h
            obtain ⟨ad, ea, hc⟩ := Kd.at_int (Kd.R_reads' h.fst).2.2 (k : Int) (by omega) (by omega)
            obtain ⟨ad2, ea2, hc2⟩ := Kd.at_int (Kd.R_reads' h.snd).2.2 (k : Int) (by omega) (by omega)
            cases ea
            cases ea2
            rw [ef, Int.toNat_natCast, Go.WideShapes.add_plain, Nat.zero_add] at hc
            rw [es, Int.toNat_natCast, Go.WideShapes.add_plain, Nat.zero_add] at hc2
            exact ⟨hc, hc2⟩)
          have HBE := Aside0.mk (show B2 f s b (k + 1) = ((B2 f s b k).set (f.getD k 0).toNat (s.getD k 0)).set (s.getD k 0).toNat (f.getD k 0) from rfl)
          have hwk : wrap64 ((k : Int) + 1) = ((k + 1 : Nat) : Int) := by have := HFL8.out; unfold wrap64; omega
          have HWK := Aside0.mk hwk
          clear hwk
          generalize f.getD k 0 = x at ef hf1 HRF HBE
          generalize s.getD k 0 = y at es hs1 HRF HBE
          clear ef es
          obtain ⟨fx, rfl⟩ := Int.eq_ofNat_of_zero_le hf1.1
          obtain ⟨sx, rfl⟩ := Int.eq_ofNat_of_zero_le (show 0 ≤ y by omega)
          rw [Int.toNat_natCast, Int.toNat_natCast] at HBE
          have hfx : fx < 16 := by have := HSZ.out; omega
          have hsx : sx < 16 := by have := HSZ.out; omega
          have p5 := eq_true (show (0 : Int) ≤ (fx : Int) by omega)
          have p6 := eq_true (show (fx : Int) < 16 by omega)
          have p6' := eq_true (show fx < 16 from hfx)
          have p7 := eq_true (show (0 : Int) ≤ (sx : Int) by omega)
          have p8 := eq_true (show (sx : Int) < 16 by omega)
          have p8' := eq_true (show sx < 16 from hsx)
          have w1_ : IntKind.u8.wrap (fx : Int) = (fx : Int) := by unfold IntKind.wrap; simp [IntKind.bits, IntKind.signed]; omega
          have w2_ : IntKind.u8.wrap (sx : Int) = (sx : Int) := by unfold IntKind.wrap; simp [IntKind.bits, IntKind.signed]; omega
          have w3_ : (fx : Int) % 256 = (fx : Int) := by omega
          have w4_ : (sx : Int) % 256 = (sx : Int) := by omega
          have ya := (HRF.out wr _ HST.out).1
          have yb := (HRF.out wr _ HST.out).2
          have yf : wr.frozen? ⟨w.heap.size + 1 + 1 + 1, 1 + fx, none⟩ = false := frozen_of_row _ _ _ _ _ HST.out.out
          have yc : wr.cell? ⟨w.heap.size + 1 + 1 + 1, 1 + fx, none⟩ = some (.int .u8 ((B2 f s b k).getD fx 0)) := by rw [cell_of_row _ _ _ _ _ _ HST.out.out]; exact dia_at _ _ fx (by rw [B2_len f s b HBL.out]; exact hfx)
          have HST5 := Aside0.mk (HST.out.set fx (sx : Int)).drew
          clear hfx hkf hks hf1 hs1
          go_wp2_with fail
          go_region
          obtain ⟨W5, hW5⟩ : ∃ W5, W5 = (wr.setCell ⟨w.heap.size + 1 + 1 + 1, 1 + fx, none⟩ (.int .u8 (sx : Int))).drew := ⟨_, rfl⟩
          rw [← hW5] at HST5 ⊢
          clear hW5 ya yb yf yc HST
          have ya := (HRF.out W5 _ HST5.out).1
          have yb := (HRF.out W5 _ HST5.out).2
          have yf : W5.frozen? ⟨w.heap.size + 1 + 1 + 1, 1 + sx, none⟩ = false := frozen_of_row _ _ _ _ _ HST5.out.out
          have yc : W5.cell? ⟨w.heap.size + 1 + 1 + 1, 1 + sx, none⟩ = some (.int .u8 (((B2 f s b k).set fx (sx : Int)).getD sx 0)) := by rw [cell_of_row _ _ _ _ _ _ HST5.out.out]; exact dia_at _ _ sx (by rw [List.length_set, B2_len f s b HBL.out]; have := p8'; simpa using this)
          have HST6 := Aside0.mk (HST5.out.set sx (fx : Int)).drew
          go_wp2_with fail
          go_region
          obtain ⟨W6, hW6⟩ : ∃ W6, W6 = (W5.setCell ⟨w.heap.size + 1 + 1 + 1, 1 + sx, none⟩ (.int .u8 (fx : Int))).drew := ⟨_, rfl⟩
          rw [← hW6] at HST6 ⊢
          clear hW6 ya yb yf yc HST5
          go_wp2
          go_roundg dq
          case measure => omega
          case rel => exact ⟨k + 1, (by first | rfl | exact congrArg _ HWK.out), ⟨by omega⟩, ⟨by rw [HBE.out]; exact HST6.out⟩⟩
    | succ dq =>
      have hi := HI.out
      have hin : i < n := by omega
      have hi8 : i < 8 := by have := HSZ.out; omega
      have c1 : decide ((i : Int) < (n : Int)) = true := decide_eq_true (by omega)
      have c2 : decide (i < n) = true := decide_eq_true hin
      have p1 := eq_true (show (0 : Int) ≤ (i : Int) by omega)
      have p2 := eq_true (show (i : Int) < 8 by omega)
      have p3 := eq_true (show (i : Int) < 16 by omega)
      have p3' := eq_true (show i < 16 by omega)
      have p4 := eq_true (show i < 8 by omega)
      obtain ⟨m, hm⟩ : ∃ m, n + i = m := ⟨_, rfl⟩
      have p5 := eq_true (show (0 : Int) ≤ (m : Int) by omega)
      have p6 := eq_true (show (m : Int) < 16 by have := HSZ.out; omega)
      have p6' := eq_true (show m < 16 by have := HSZ.out; omega)
      have hwm : wrap64 ((n : Int) + (i : Int)) = (m : Int) := by have := HSZ.out; unfold wrap64; omega
      have hwi : wrap64 ((i : Int) + 1) = ((i + 1 : Nat) : Int) := by unfold wrap64; omega
      have HWI := Aside0.mk hwi
      have hmi : (n : Int) + (i : Int) = (m : Int) := by omega
      have hx := HO1A.out.rng i hi8
      have hy := HO2A.out.rng i hi8
      have z1 : wr.cell? ⟨X, i, none⟩ = some (.int .i64 (o1.getD i 0)) := HST.out.up.celln i (by rw [HO1A.out.len]; exact hi8)
      have z2 : wr.cell? ⟨Y, i, none⟩ = some (.int .i64 (o2.getD i 0)) := HST.out.lo.celln i (by rw [HO2A.out.len]; exact hi8)
      have HZY := Aside0.mk (show ∀ W : World, Arr W Y 35 o2 → W.cell? ⟨Y, i, none⟩ = some (.int .i64 (o2.getD i 0)) from fun W h => h.celln i (by rw [HO2A.out.len]; exact hi8))
      have HBE := Aside0.mk (show B1 n o1 o2 (i + 1) = ((B1 n o1 o2 i).set i (o1.getD i 0)).set (n + i) ((n : Int) + o2.getD i 0) from rfl)
      have HFE := Aside0.mk (show F1 o1 (i + 1) = if o1.getD i 0 = (i : Int) then F1 o1 i ++ [(i : Int)] else F1 o1 i from rfl)
      have HSE := Aside0.mk (show S1 n o2 (i + 1) = if o2.getD i 0 = (i : Int) then S1 n o2 i ++ [((n + i : Nat) : Int)] else S1 n o2 i from rfl)
      have f1 : wr.frozen? ⟨w.heap.size + 1 + 1 + 1, 1 + i, none⟩ = false := frozen_of_row _ _ _ _ _ HST.out.out
      have e1 : wr.cell? ⟨w.heap.size + 1 + 1 + 1, 1 + i, none⟩ = some (.int .u8 ((B1 n o1 o2 i).getD i 0)) := by rw [cell_of_row _ _ _ _ _ _ HST.out.out]; exact dia_at _ _ i (by rw [B1_len]; omega)
      have HLF := Aside0.mk (show (F1 o1 i).length ≤ 8 by have := F1_len o1 i; omega)
      have HLS := Aside0.mk (show (S1 n o2 i).length ≤ 8 by have := S1_len n o2 i; omega)
      rw [hm] at HBE HSE
      generalize o1.getD i 0 = x at hx z1 HBE HFE
      generalize o2.getD i 0 = y at hy z2 HBE HSE HZY
      obtain ⟨z, hz⟩ : ∃ z, (n : Int) + y = z := ⟨_, rfl⟩
      rw [hz] at HBE
      have hwz : wrap64 ((n : Int) + y) = z := by have := HSZ.out; unfold wrap64; omega
      have u1 : IntKind.u8.wrap x = x := by unfold IntKind.wrap; simp [IntKind.bits, IntKind.signed]; omega
      have u2 : IntKind.u8.wrap z = z := by have := HSZ.out; unfold IntKind.wrap; simp [IntKind.bits, IntKind.signed]; omega
      have u3 : x % 256 = x := by omega
      have u4 : z % 256 = z := by have := HSZ.out; omega
      have f2 : (wr.setCell ⟨w.heap.size + 1 + 1 + 1, 1 + i, none⟩ (.int .u8 x)).frozen? ⟨w.heap.size + 1 + 1 + 1, 1 + m, none⟩ = false := frozen_of_row _ _ _ _ _ (HST.out.set i x).out
      have e2 : (wr.setCell ⟨w.heap.size + 1 + 1 + 1, 1 + i, none⟩ (.int .u8 x)).cell? ⟨w.heap.size + 1 + 1 + 1, 1 + m, none⟩ = some (.int .u8 (((B1 n o1 o2 i).set i x).getD m 0)) := by
        rw [cell_of_row _ _ _ _ _ _ (HST.out.set i x).out]; exact dia_at _ _ m (by rw [List.length_set, B1_len]; have := HSZ.out; omega)
      have ST2 := Aside0.mk ((HST.out.set i x).set m z)
      have z1a : (wr.setCell ⟨w.heap.size + 1 + 1 + 1, 1 + i, none⟩ (.int .u8 x)).cell? ⟨Y, i, none⟩ = some (.int .i64 y) := HZY.out _ (HST.out.set i x).lo
      have z1b : ((wr.setCell ⟨w.heap.size + 1 + 1 + 1, 1 + i, none⟩ (.int .u8 x)).setCell ⟨w.heap.size + 1 + 1 + 1, 1 + m, none⟩ (.int .u8 z)).cell? ⟨X, i, none⟩ = some (.int .i64 x) := by
        rw [Go.World.cell?_setCell_other, Go.World.cell?_setCell_other]
        · exact z1
        all_goals (intro e; injection e with e; omega)
      have z1c : ((wr.setCell ⟨w.heap.size + 1 + 1 + 1, 1 + i, none⟩ (.int .u8 x)).setCell ⟨w.heap.size + 1 + 1 + 1, 1 + m, none⟩ (.int .u8 z)).cell? ⟨Y, i, none⟩ = some (.int .i64 y) := HZY.out _ ST2.out.lo
      clear HST hin hi8 hm
      by_cases hxi : x = (i : Int)
      · have d1 : (x == (i : Int)) = true := beq_iff_eq.mpr hxi
        have HF9 := Aside0.mk (show F1 o1 (i + 1) = F1 o1 i ++ [(i : Int)] by rw [HFE.out, if_pos hxi])
        clear HFE hxi
        by_cases hyi : y = (i : Int)
        · have d2 : (y == (i : Int)) = true := beq_iff_eq.mpr hyi
          have HS9 := Aside0.mk (show S1 n o2 (i + 1) = S1 n o2 i ++ [(m : Int)] by rw [HSE.out, if_pos hyi])
          clear HSE hyi
          go_wp2_with (first | ((with_reducible refine gate_builtin (b := .append) (xs := #[.tmp 59, .tmp 61]) rfl ?_); at_builtin; refine Kd.R_append (Kd.int .i64) (w0 := w) w.heap.size rfl (.tmp 59) (.tmp 61) 38 2 (.int .i64 0) 8 rfl Try.underlying38 infoI64 rfl (by decide) (by omega) u7 (F1 o1 i) (i : Int) [.int .i64 (i : Int)] (fun k => okB w.heap.size X Y k ∧ some k ≠ u8.ownBlock) (fun _ => False) rfl (by first | rfl | (refine Eq.trans (show _ = Value.slice (some ⟨wr.heap.size, 0, none⟩) 1 1 from rfl) ?_; simp [World.setCell]; done)) ?aP (fun _ hk => hk.elim) ?aF ?aO ?aB ?aS ?aL ?_; (case aP => exact rfl); (case aB => exact ST2.out.bel); (case aF => exact ST2.out.fresh7); (case aO => exact ST2.out.fst); (case aS => exact below_size ST2.out.bel); (case aL => have := HLF.out; omega); intro v71 w14 ho hb hg hat; have ST3 := Aside0.mk (ST2.out.app7 ho hb hg hat); clear ST2 ho hb hg hat; have z9 := HZY.out _ ST3.out.lo; have z9l := Aside0.mk (Nat.le_refl 0)) | ((with_reducible refine gate_builtin (b := .append) (xs := #[.tmp 68, .tmp 72]) rfl ?_); at_builtin; refine Kd.R_append (Kd.int .i64) (w0 := w) w.heap.size rfl (.tmp 68) (.tmp 72) 38 2 (.int .i64 0) 8 rfl Try.underlying38 infoI64 rfl (by decide) (by omega) u8 (S1 n o2 i) (m : Int) [.int .i64 (m : Int)] (fun k => okB w.heap.size X Y k ∧ some k ≠ v71.ownBlock) (fun _ => False) rfl (by first | rfl | (refine Eq.trans (show _ = Value.slice (some ⟨wr.heap.size, 0, none⟩) 1 1 from rfl) ?_; simp [World.setCell]; done)) ?aP (fun _ hk => hk.elim) ?aF ?aO ?aB ?aS ?aL ?_; (case aP => exact rfl); (case aB => exact ST3.out.bel); (case aF => exact ST3.out.fresh8); (case aO => exact ST3.out.snd); (case aS => exact below_size ST3.out.bel); (case aL => have := HLS.out; omega); intro v81 w15 ho hb hg hat; have ST4 := Aside0.mk (ST3.out.app8 ho hb hg hat); clear ST3 ho hb hg hat))
          go_roundg dq
          case measure => omega
          case rel => exact ⟨i + 1, (by first | rfl | exact congrArg _ HWI.out), ⟨by omega⟩, ⟨by rw [HBE.out, HF9.out, HS9.out]; exact ST4.out⟩⟩
        · have d2 : (y == (i : Int)) = false := beq_eq_false_iff_ne.mpr hyi
          have HS9 := Aside0.mk (show S1 n o2 (i + 1) = S1 n o2 i by rw [HSE.out, if_neg hyi])
          clear HSE hyi
          go_wp2_with ((with_reducible refine gate_builtin (b := .append) (xs := #[.tmp 59, .tmp 61]) rfl ?_); at_builtin; refine Kd.R_append (Kd.int .i64) (w0 := w) w.heap.size rfl (.tmp 59) (.tmp 61) 38 2 (.int .i64 0) 8 rfl Try.underlying38 infoI64 rfl (by decide) (by omega) u7 (F1 o1 i) (i : Int) [.int .i64 (i : Int)] (fun k => okB w.heap.size X Y k ∧ some k ≠ u8.ownBlock) (fun _ => False) rfl (by first | rfl | (refine Eq.trans (show _ = Value.slice (some ⟨wr.heap.size, 0, none⟩) 1 1 from rfl) ?_; simp [World.setCell]; done)) ?aP (fun _ hk => hk.elim) ?aF ?aO ?aB ?aS ?aL ?_; (case aP => exact rfl); (case aB => exact ST2.out.bel); (case aF => exact ST2.out.fresh7); (case aO => exact ST2.out.fst); (case aS => exact below_size ST2.out.bel); (case aL => have := HLF.out; omega); intro v71 w14 ho hb hg hat; have ST3 := Aside0.mk (ST2.out.app7 ho hb hg hat); clear ST2 ho hb hg hat; have z9 := HZY.out _ ST3.out.lo; have z9l := Aside0.mk (Nat.le_refl 0))
          go_roundg dq
          case measure => omega
          case rel => exact ⟨i + 1, (by first | rfl | exact congrArg _ HWI.out), ⟨by omega⟩, ⟨by rw [HBE.out, HF9.out, HS9.out]; exact ST3.out⟩⟩
      · have d1 : (x == (i : Int)) = false := beq_eq_false_iff_ne.mpr hxi
        have HF9 := Aside0.mk (show F1 o1 (i + 1) = F1 o1 i by rw [HFE.out, if_neg hxi])
        clear HFE hxi
        by_cases hyi : y = (i : Int)
        · have d2 : (y == (i : Int)) = true := beq_iff_eq.mpr hyi
          have HS9 := Aside0.mk (show S1 n o2 (i + 1) = S1 n o2 i ++ [(m : Int)] by rw [HSE.out, if_pos hyi])
          clear HSE hyi
          go_wp2_with ((with_reducible refine gate_builtin (b := .append) (xs := #[.tmp 68, .tmp 72]) rfl ?_); at_builtin; refine Kd.R_append (Kd.int .i64) (w0 := w) w.heap.size rfl (.tmp 68) (.tmp 72) 38 2 (.int .i64 0) 8 rfl Try.underlying38 infoI64 rfl (by decide) (by omega) u8 (S1 n o2 i) (m : Int) [.int .i64 (m : Int)] (fun k => okB w.heap.size X Y k ∧ some k ≠ u7.ownBlock) (fun _ => False) rfl (by first | rfl | (refine Eq.trans (show _ = Value.slice (some ⟨wr.heap.size, 0, none⟩) 1 1 from rfl) ?_; simp [World.setCell]; done)) ?aP (fun _ hk => hk.elim) ?aF ?aO ?aB ?aS ?aL ?_; (case aP => exact rfl); (case aB => exact ST2.out.bel); (case aF => exact ST2.out.fresh8); (case aO => exact ST2.out.snd); (case aS => exact below_size ST2.out.bel); (case aL => have := HLS.out; omega); intro v81 w15 ho hb hg hat; have ST4 := Aside0.mk (ST2.out.app8 ho hb hg hat); clear ST2 ho hb hg hat)
          go_roundg dq
          case measure => omega
          case rel => exact ⟨i + 1, (by first | rfl | exact congrArg _ HWI.out), ⟨by omega⟩, ⟨by rw [HBE.out, HF9.out, HS9.out]; exact ST4.out⟩⟩
        · have d2 : (y == (i : Int)) = false := beq_eq_false_iff_ne.mpr hyi
          have HS9 := Aside0.mk (show S1 n o2 (i + 1) = S1 n o2 i by rw [HSE.out, if_neg hyi])
          clear HSE hyi
          go_wp2
          go_roundg dq
          case measure => omega
          case rel => exact ⟨i + 1, (by first | rfl | exact congrArg _ HWI.out), ⟨by omega⟩, ⟨by rw [HBE.out, HF9.out, HS9.out]; exact ST2.out⟩⟩
end Go.Proofs.Yteajmmmaiahmnaa.Hand
