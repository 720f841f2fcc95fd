/- The contracts of slices.Repeat (one byte, at most six times) and of impl.rainbow. Conditions: as the statements say. -/
import Derived.Test.YtaaemhjdnncgdaaHandCatU8
import Derived.StillTailTactics
import Derived.Laws.CopyOwn
import Derived.Laws.Tables
import Derived.Laws.Rows
import Derived.Laws.EntriesVeiled
namespace Go.Proofs.Ytaaemhjdnncgdaa.Hand
open Go.RowKit Go.Proofs.YtaaemhjdnncgdaaW.PrintWords Go.Proofs.YtaaemhjdnncgdaaW.PrintLast Go.Proofs.YtaaemhjdnncgdaaW.PrintMore
set_option linter.unusedVariables false
set_option linter.unusedSimpArgs false

theorem addP (g j : Nat) : (⟨g, 0, none⟩ : Addr).add j = ⟨g, j, none⟩ := by unfold Addr.add; split <;> simp_all
theorem mul64 (N : Nat) (h : N ≤ 6) (w : World) : Calls Try.prog 66 #[.int .u64 1, .int .u64 (N : Int)] w fun e w' => e = .returned (.tuple #[.int .u64 0, .int .u64 (N : Int)]) ∧ w = w' := by
  rcases N with _ | _ | _ | _ | _ | _ | _ | N
  case succ.succ.succ.succ.succ.succ.succ => omega
  all_goals
    clear h
    go_enter Try.func66, Try.ntmps66
    go_wp2
    go_ret2
    exact ⟨rfl, rfl⟩
theorem mul (N : Nat) (h : N ≤ 6) (w : World) : Calls Try.prog 64 #[.int .u64 1, .int .u64 (N : Int)] w fun e w' => e = .returned (.tuple #[.int .u64 0, .int .u64 (N : Int)]) ∧ w = w' := by
  have HC := Aside0.mk (mul64 N h w)
  clear h
  go_enter Try.func64, Try.ntmps64
  go_wp2_with fail
  refine HC.out.mono ?_
  rintro e w' ⟨rfl, rfl⟩
  go_wp2
  go_ret2
  exact ⟨rfl, rfl⟩
theorem rep_R {w : World} {g cap N : Nat} {cells : List Value} {c : Int} (base : Nat) (hg : w.heap[g]? = some (.cells cells.toArray 5 (0, 0))) (hb : base ≤ g) (hc : cells.length = cap) (hcm : cap ≤ maxLen) (hN : N ≤ cap) (hv : ∀ j, j < N → cells[j]? = some (.int .u8 c)) :
    Kd.R (Kd.int .u8) 5 w base (fun _ => True) (.slice (some ⟨g, 0, none⟩) N cap) (List.replicate N c) := by
  have hl : (List.replicate N c).length = N := by simp
  have ho : w.ownsRow base 5 1 (.slice (some ⟨g, 0, none⟩) N cap) (List.replicate N c).length (encs (Value.int .u8) (List.replicate N c)) := by
    rw [hl]
    refine ⟨by simp [encs], .inr ⟨g, cap, cells.toArray, rfl, hb, hg, hN, hcm, by simp [hc], ?_⟩⟩
    rw [Nat.mul_one]
    apply List.ext_getElem?
    intro j
    rw [List.getElem?_take]
    by_cases hj : j < N
    · rw [if_pos hj]
      show cells[j]? = _
      rw [hv j hj]
      simp [encs, hj]
    · rw [if_neg hj, List.getElem?_eq_none (by simp [encs]; omega)]
  exact Kd.R_of_own (enc := Value.int .u8) (h1 := fun _ => rfl) ho (fun _ _ => trivial)
theorem made_cells {w : World} {base N : Nat} {ok : Nat → Prop} {v : Value} (h : Kd.R (Kd.int .u8) 5 w base ok v (List.replicate N 0)) (hN : 0 < N) :
    ∃ (go cap : Nat) (cells : List Value), v = .slice (some ⟨go, 0, none⟩) N cap ∧ base ≤ go ∧ w.heap[go]? = some (.cells cells.toArray 5 (0, 0)) ∧ N ≤ cap ∧ cap ≤ maxLen ∧ cells.length = cap := by
  have ho := Kd.own_of_R h
  rw [List.length_replicate] at ho
  rcases ho.2 with ⟨_, h0⟩ | ⟨g, cap, cur, hv, hb, hg, h1, h2, h3, _⟩
  · omega
  · exact ⟨g, cap, cur.toList, hv, hb, by simpa using hg, h1, h2, by simpa using h3⟩
theorem splice_at {cells : List Value} {t m j : Nat} {x : Value} (hl : t + m ≤ cells.length) (hv : ∀ j, j < t → cells[j]? = some x) (hj : j < t + m) : (splice cells t (List.replicate m x))[j]? = some x := by
  unfold splice
  by_cases h1 : j < t
  · rw [List.getElem?_append_left (by simp; omega), List.getElem?_take, if_pos h1]
    exact hv j h1
  · rw [List.getElem?_append_right (by simp; omega), List.length_take, Nat.min_eq_left (by omega), List.getElem?_append_left (by simp; omega), List.getElem?_replicate, if_pos (by omega)]
theorem one_src {w w4 : World} {g0 : Nat} {x : Value} (hg0 : w.heap[g0]? = some (.cells #[x] 5 (0, 0))) (hb : Below w.heap.size w w4) : ∀ j v, ([x] : List Value)[j]? = some v → w4.cell? ((⟨g0, 0, none⟩ : Addr).add j) = some v := by
  intro j v hj
  cases j with
  | zero =>
    simp at hj
    subst hj
    rw [show (⟨g0, 0, none⟩ : Addr).add 0 = ⟨g0, 0, none⟩ by simp [Addr.add]]
    refine (hb.cell (p := ⟨g0, 0, none⟩) (Array.getElem?_eq_some_iff.1 hg0).1).trans ?_
    rw [cell_of_row _ _ _ _ _ _ hg0]
    rfl
  | succ j => simp at hj
theorem sizeU8 : (Try.prog.info? 5).map (·.size) = some 1 := by kernel_rfl
set_option maxHeartbeats 8000000 in
set_option maxRecDepth 100000 in
theorem repeat_calls (c : Int) (N g0 : Nat) (w : World) (hN : 1 ≤ N) (hN6 : N ≤ 6) (hg0 : w.heap[g0]? = some (.cells #[.int .u8 c] 5 (0, 0))) :
    Calls Try.prog 58 #[.slice (some ⟨g0, 0, none⟩) 1 1, .int .i64 (N : Int)] w fun e w' => ∃ v0_ : Value, e = .returned v0_ ∧ Kd.R (Kd.int .u8) 5 w' w.heap.size (fun _ => True) v0_ (List.replicate N c) ∧ Below w.heap.size w w' := by
  have HN := Aside0.mk (And.intro hN hN6)
  have HM := Aside0.mk (mul N hN6 w)
  have HG0 := Aside0.mk hg0
  have hlt : decide ((N : Int) < 0) = false := decide_eq_false (by omega)
  have hn0 : (0 : Int) ≤ (N : Int) := by omega
  have hn1 : (N : Int) ≤ 6 := by omega
  have hcv : decide ((9223372036854775807 : Int) < (N : Int)) = false := decide_eq_false (by omega)
  have hp : (0 ≤ (N : Int)) = True := eq_true (by omega)
  clear hN hN6 hg0
  go_enter Try.func58, Try.ntmps58
  go_wp2_with fail
  refine HM.out.mono ?_
  rintro e w' ⟨rfl, rfl⟩
  clear HM
  go_wp2_with (first | ((with_reducible refine gate_dst (N := 30) rfl ?_); refine Kd.R_make (Kd.int .u8) _ 5 rfl (N := 30) rfl 25 _ _ rfl (N : Int) rfl rfl Try.underlying25 (.int .u8 0) 1 infoCat rfl (by decide) (by omega) 0 (ok := fun _ => True) (okp := fun _ => True) rfl (fun _ hk => hk) trivial (by omega) (by have := HN.out; omega) (Below.refl _ _) (Nat.le_refl _) ?_; intro v106 w4 ho5 hb hg hnew_; rw [Int.toNat_natCast] at ho5; obtain ⟨go, cap, cells, ev, gb, hgo, hNc, hcm, hcl⟩ := made_cells ho5 (by have := HN.out; omega); subst ev; have HB4 := Aside0.mk hb; have GB := Aside0.mk gb; have HGO := Aside0.mk hgo; have HNC := Aside0.mk (And.intro hNc (And.intro hcm hcl)); have HX0 := Aside0.mk (one_src HG0.out hb); clear ho5 hb hg hnew_ gb hgo hNc hcm hcl) | ((with_reducible refine gate_builtin (b := .copy) (xs := #[.tmp 31, .tmp 32]) rfl ?_); refine wpList_copy_splice rfl (.tmp 31) (.tmp 32) 25 25 rfl 5 Try.underlying25 sizeU8 (some ⟨go, 0, none⟩) (some ⟨g0, 0, none⟩) N cap 1 1 rfl rfl go 0 cells 5 HGO.out [.int .u8 c] ?c1 (fun _ => ⟨rfl, ⟨g0, 0, none⟩, rfl, HX0.out⟩) ?c2 ?c3 w.heap.size w HB4.out GB.out ?_; (case c1 => have := HN.out; exact (Nat.min_eq_left this.1).symm); (case c2 => have := HNC.out; have := HN.out; show 0 + 1 ≤ cells.length; omega); (case c3 => intro v hv; simp at hv; subst hv; rfl); intro w5 hg5 hb5; have HG5 := Aside0.mk hg5; have HB5 := Aside0.mk hb5; clear hg5 hb5 HGO HB4 HX0))
  clear hcv hp hlt
  obtain ⟨i0, hi0, _, hsz0, _⟩ := info_parts infoCat
  have HI0 := Aside0.mk hi0
  have HSZ := Aside0.mk hsz0
  clear hi0 hsz0
  go_loopg [8] N (fun kq v8 w' => ∃ (t : Nat) (cs : List Value), v8 = .int .i64 (t : Int) ∧ Aside0 (kq + t = N + 1) ∧ Aside0 (1 ≤ t ∧ t ≤ N) ∧ Aside0 (w'.heap[go]? = some (.cells cs.toArray 5 (0, 0))) ∧ Aside0 (cs.length = cap) ∧ Aside0 (∀ j, j < t → cs[j]? = some (.int .u8 c)) ∧ Aside0 (Below w.heap.size w w'))
  case atStart =>
    refine ⟨1, splice cells 0 [.int .u8 c], rfl, ⟨by omega⟩, ⟨by have := HN.out; omega⟩, ⟨HG5.out.out⟩, ⟨?_⟩, ⟨?_⟩, HB5⟩
    · rw [length_splice _ _ _ (by have := HNC.out; have := HN.out; simp; omega)]; exact HNC.out.2.2
    · intro j hj
      exact splice_at (cells := cells) (t := 0) (m := 1) (by have := HNC.out; have := HN.out; omega) (fun j hj => absurd hj (Nat.not_lt_zero _)) (by omega)
  case round =>
    clear HG5 HB5
    obtain ⟨t, cs, rfl, E1, E2, HG, EL, EV, HB⟩ := hrel
    by_cases d1 : t < N
    · have d1b : decide ((t : Int) < (N : Int)) = true := decide_eq_true (by omega)
      have d1b' : decide (t < N) = true := decide_eq_true d1
      have hct := cut_to (P := Try.prog) 25 5 .i64 Try.underlying25 HI0.out (some ⟨go, 0, none⟩) N cap (t : Int) (by omega) (by omega) HNC.out.1
      have hcf := cut_from (P := Try.prog) 25 5 .i64 Try.underlying25 HI0.out 1 HSZ.out (some ⟨go, 0, none⟩) N cap (t : Int) (by omega) (by omega)
      rw [Int.toNat_natCast, if_neg (by have := HNC.out; omega), show (Option.map (fun x => x.add (t * 1)) (some (⟨go, 0, none⟩ : Addr))) = some ⟨go, t, none⟩ by rw [Nat.mul_one, Option.map_some, addP]] at hcf
      rw [Int.toNat_natCast] at hct
      have ht0 : (0 : Int) ≤ (t : Int) := by omega
      have ht6 : (t : Int) ≤ 6 := by omega
      have pt : (0 ≤ (t : Int)) = True := eq_true (by omega)
      have qt : ((t : Int) ≤ (N : Int)) = True := eq_true (by omega)
      have qt' : (t ≤ N) = True := eq_true (by omega)
      have HD1 := Aside0.mk d1
      clear d1
      go_wp2
      have HGd := Aside0.mk (show wr.drew.heap[go]? = some (.cells cs.toArray 5 (0, 0)) from HG.out)
      have HBd := Aside0.mk (below_drew HB.out)
      refine start_ (n := 10) (S := fun w' => True) (ds := [7]) #[false, false, false, false, false, false, false, false, false, false] (by kernel_rfl) rfl rfl trivial (fun hHeld => ?_)
      generalize wr.drew = w6 at HGd HBd ⊢
      refine pure_ (i := 0) (N := some 38) (v := ?_) (a' := ?_) #[true, false, false, false, false, false, false, false, false, false] rfl rfl (by kernel_rfl) (fun _ _ _ h => h) (Or.inl ⟨by rfl, ?_⟩) ?_ ?_
      rotate_left
      · intro w'
        go_simp
        with_reducible rfl
      rotate_left
      · simp only [Act.put, List.setIfInBounds_toArray, List.set_cons_zero, List.set_cons_succ, i64_w, i32_w]
        rfl
      refine pure_ (i := 1) (N := some 39) (v := ?_) (a' := ?_) #[true, true, false, false, false, false, false, false, false, false] rfl rfl (by kernel_rfl) (fun _ _ _ h => h) (Or.inl ⟨by rfl, ?_⟩) ?_ ?_
      rotate_left
      · intro w'
        go_simp
        with_reducible rfl
      rotate_left
      · simp only [Act.put, List.setIfInBounds_toArray, List.set_cons_zero, List.set_cons_succ, i64_w, i32_w]
        rfl
      refine pure_ (i := 2) (N := some 40) (v := ?_) (a' := ?_) #[true, true, true, false, false, false, false, false, false, false] rfl rfl (by kernel_rfl) (fun _ _ _ h => h) (Or.inl ⟨by rfl, ?_⟩) ?_ ?_
      rotate_left
      · intro w'
        go_simp
        with_reducible rfl
      rotate_left
      · simp only [Act.put, List.setIfInBounds_toArray, List.set_cons_zero, List.set_cons_succ, i64_w, i32_w]
        rfl
      refine pure_ (i := 3) (N := some 41) (v := ?_) (a' := ?_) #[true, true, true, true, false, false, false, false, false, false] rfl rfl (by kernel_rfl) (fun _ _ _ h => h) (Or.inl ⟨by rfl, ?_⟩) ?_ ?_
      rotate_left
      · intro w'
        go_simp
        with_reducible rfl
      rotate_left
      · simp only [Act.put, List.setIfInBounds_toArray, List.set_cons_zero, List.set_cons_succ, i64_w, i32_w]
        rfl
      refine pure_ (i := 4) (N := some 42) (v := ?_) (a' := ?_) #[true, true, true, true, true, false, false, false, false, false] rfl rfl (by kernel_rfl) (fun _ _ _ h => h) (Or.inl ⟨by rfl, ?_⟩) ?_ ?_
      rotate_left
      · intro w'
        go_simp
        with_reducible rfl
      rotate_left
      · simp only [Act.put, List.setIfInBounds_toArray, List.set_cons_zero, List.set_cons_succ, i64_w, i32_w]
        rfl
      refine pure_ (i := 5) (N := some 43) (v := ?_) (a' := ?_) #[true, true, true, true, true, true, false, false, false, false] rfl rfl (by kernel_rfl) (fun _ _ _ h => h) (Or.inl ⟨by rfl, ?_⟩) ?_ ?_
      rotate_left
      · intro w'
        go_simp
        with_reducible rfl
      rotate_left
      · simp only [Act.put, List.setIfInBounds_toArray, List.set_cons_zero, List.set_cons_succ, i64_w, i32_w]
        rfl
      refine pure_ (i := 6) (N := some 44) (v := ?_) (a' := ?_) #[true, true, true, true, true, true, true, false, false, false] rfl rfl (by kernel_rfl) (fun _ _ _ h => h) (Or.inl ⟨by rfl, ?_⟩) ?_ ?_
      rotate_left
      · intro w'
        go_simp
        with_reducible rfl
      rotate_left
      · simp only [Act.put, List.setIfInBounds_toArray, List.set_cons_zero, List.set_cons_succ, i64_w, i32_w]
        rfl
      refine last_ (i := 7) (N := some 45) #[true, true, true, true, true, true, true, true, false, false] rfl rfl (by kernel_rfl) (by decide) (fun K hK => ?_)
      refine step_copy_splice rfl (.tmp 41) (.tmp 44) 25 25 rfl 5 Try.underlying25 sizeU8 (some ⟨go, t, none⟩) (some ⟨go, 0, none⟩) (N - t) (cap - t) t cap rfl rfl go t cs 5 HGd.out (List.replicate (min t (N - t)) (.int .u8 c)) ?c1 (fun _ => ⟨rfl, ⟨go, 0, none⟩, rfl, ?c4⟩) ?c2 ?c3 w.heap.size w HBd.out GB.out ?_
      case c1 => rw [List.length_replicate]
      case c2 => rw [List.length_replicate]; have := EL.out; have := HNC.out; have := HD1.out; omega
      case c3 => intro v hv; rw [List.eq_of_mem_replicate hv]; rfl
      case c4 =>
        intro j v hj
        have hjl : j < min t (N - t) := by
          rcases Nat.lt_or_ge j (min t (N - t)) with h | h
          · exact h
          · rw [List.getElem?_eq_none (by simpa using h)] at hj; cases hj
        rw [List.getElem?_replicate, if_pos hjl] at hj
        obtain rfl := Option.some.inj hj
        rw [addP, cell_of_row _ _ _ _ _ _ HGd.out]
        simpa using EV.out j (by omega)
      intro w7 hg7 hb7
      have HG7 := Aside0.mk hg7.out
      have HB7 := Aside0.mk hb7
      clear hg7 hb7 HGd HBd
      refine hK.out _ _ ?_
      clear hK K
      change wpAnyLast _ _ _ _ _ _ _ _ (Act.put _ (some 45) _) _
      simp only [Act.put, List.setIfInBounds_toArray, List.set_cons_zero, List.set_cons_succ]
      rw [List.length_replicate]
      obtain ⟨m, hm⟩ : ∃ m, m = min t (N - t) := ⟨_, rfl⟩
      have hm6 : m ≤ 6 := by omega
      rw [← hm] at HG7 ⊢
      have HM := Aside0.mk hm
      clear hm
      refine pure_ (i := 8) (N := some 46) (v := ?_) (a' := ?_) #[true, true, true, true, true, true, true, true, true, false] rfl rfl (by kernel_rfl) (fun _ _ _ h => h) (Or.inl ⟨by rfl, ?_⟩) ?_ ?_
      rotate_left
      · intro w'
        go_simp
        with_reducible rfl
      rotate_left
      · simp only [Act.put, List.setIfInBounds_toArray, List.set_cons_zero, List.set_cons_succ, i64_w, i32_w]
        rfl
      refine pure_ (i := 9) (N := some 8) (v := ?_) (a' := ?_) #[true, true, true, true, true, true, true, true, true, true] rfl rfl (by kernel_rfl) (fun _ _ _ h => h) (Or.inl ⟨by rfl, ?_⟩) ?_ ?_
      rotate_left
      · intro w'
        go_simp
        with_reducible rfl
      rotate_left
      · simp only [Act.put, List.setIfInBounds_toArray, List.set_cons_zero, List.set_cons_succ, i64_w, i32_w]
        rfl
      refine done_ (by kernel_rfl) ?_
      go_wp2
      go_roundg (N + 1 - (t + m))
      case measure => have := E1.out; have := HM.out; have := E2.out; have := HD1.out; omega
      case rel =>
        refine ⟨t + m, splice cs t (List.replicate m (.int .u8 c)), by (congr 1; unfold wrap64; omega), ⟨by have := HM.out; have := HD1.out; omega⟩, ⟨by have := HM.out; have := HD1.out; have := E2.out; omega⟩, HG7, ⟨?_⟩, ⟨?_⟩, HB7⟩
        · rw [length_splice _ _ _ (by rw [List.length_replicate]; have := EL.out; have := HNC.out; have := HM.out; have := HD1.out; omega)]; exact EL.out
        · intro j hj
          exact splice_at (by have := EL.out; have := HNC.out; have := HM.out; have := HD1.out; omega) EV.out hj
    · have d1b : decide ((t : Int) < (N : Int)) = false := decide_eq_false (by omega)
      have d1b' : decide (t < N) = false := decide_eq_false d1
      have et : t = N := by have := E2.out; omega
      subst et
      clear d1
      go_wp2
      go_ret
      exact ⟨_, rfl, rep_R w.heap.size HG.out GB.out EL.out HNC.out.2.1 HNC.out.1 EV.out, HB.out⟩
theorem cat2 (A1 A2 : Option Addr) (c1 c2 : Nat) (l1 l2 : List Int) (w : World) (hr : Kd.C (Kd.int .u8) w A1 l1.length l1) (hr2 : Kd.C (Kd.int .u8) w A2 l2.length l2) (hl : l1.length ≤ 24) (hl2 : l2.length ≤ 24) :
    Calls Try.prog 57 #[.slice (some ⟨w.heap.size, 0, none⟩) 2 2] (w.alloc (.cells #[.slice A1 l1.length c1, .slice A2 l2.length c2] 25))
      fun e w' => ∃ v0_ : Value, e = .returned v0_ ∧ Kd.R (Kd.int .u8) 5 w' w.heap.size (fun _ => True) v0_ (l1 ++ l2) ∧ Below w.heap.size w w' := by
  have hB : Below w.heap.size w (w.alloc (.cells #[.slice A1 l1.length c1, .slice A2 l2.length c2] 25)) := (Below.refl _ w).alloc (Nat.le_refl _) _
  have h := concat_calls 2 (fun j => if j = 0 then A1 else A2) (fun j => if j = 0 then c1 else c2) (fun j => if j = 0 then l1 else l2) w.heap.size (w.alloc (.cells #[.slice A1 l1.length c1, .slice A2 l2.length c2] 25)) (by omega)
    (by intro j hj; rcases j with _ | _ | j <;> simp <;> omega)
    (by
      intro j hj
      rw [cell_of_row _ _ _ _ _ _ (heap_alloc_new w _)]
      rcases j with _ | _ | j
      · rfl
      · rfl
      · omega)
    (by
      intro j hj
      rcases j with _ | _ | j
      · exact Kd.C_alloc hr _
      · exact Kd.C_alloc hr2 _
      · omega)
  refine h.mono ?_
  rintro e w' ⟨v0, rfl, ho, hb⟩
  refine ⟨v0, rfl, ?_, hB.trans (hb.mono (below_size hB))⟩
  have e : flatTo (fun j => if j = 0 then l1 else l2) 2 = l1 ++ l2 := by
    simp [flatTo, List.range_succ]
  rw [e] at ho
  exact Kd.R_lower ho (below_size hB)
/-- impl.rainbow in plain words. -/
def impl_rainbow.f (a0 : Int) : Option ByteArray := if 1 ≤ a0 then (if a0 ≤ 6 then some (strOfNums (List.replicate a0.toNat 40 ++ List.replicate a0.toNat 41)) else none) else none
set_option maxHeartbeats 8000000 in
set_option maxRecDepth 100000 in
theorem impl_rainbow.calls (a0 : Int) (r : ByteArray) (w : World) (h : impl_rainbow.f a0 = some r) :
    Calls Try.prog 41 #[.int .i64 a0] w fun e w' => e = .returned (.string r) ∧ Below w.heap.size w w' := by
  unfold impl_rainbow.f at h
  by_cases h1 : 1 ≤ a0
  · rw [if_pos h1] at h
    by_cases h6 : a0 ≤ 6
    · rw [if_pos h6] at h
      obtain rfl := Option.some.inj h
      obtain ⟨N, rfl⟩ := Int.eq_ofNat_of_zero_le (show 0 ≤ a0 by omega)
      rw [Int.toNat_natCast]
      have HN := Aside0.mk (show 1 ≤ N ∧ N ≤ 6 by omega)
      have HC1 := Aside0.mk (repeat_calls 40 N w.heap.size (w.alloc (.cells #[.int .u8 40] 5)) HN.out.1 HN.out.2 (heap_alloc_new w _))
      clear h h1 h6
      go_enter Try.func41, Try.ntmps41
      go_wp2_with fail
      refine HC1.out.mono ?_
      rintro e w1 ⟨v1, rfl, ho, hb⟩
      have HB1 := Aside0.mk (((Below.refl _ w).alloc (Nat.le_refl _) (.cells #[.int .u8 40] 5)).trans (hb.mono (by simp)))
      have HO1 := Aside0.mk ho
      have HC2 := Aside0.mk (repeat_calls 41 N w1.heap.size (w1.alloc (.cells #[.int .u8 41] 5)) HN.out.1 HN.out.2 (heap_alloc_new w1 _))
      clear HC1 ho hb
      go_wp2_with fail
      refine HC2.out.mono ?_
      rintro e w2 ⟨v2, rfl, ho, hb⟩
      have hb2 : Below w1.heap.size w1 w2 := ((Below.refl _ w1).alloc (Nat.le_refl _) (.cells #[.int .u8 41] 5)).trans (hb.mono (by simp))
      have HB2 := Aside0.mk (HB1.out.trans (hb2.mono (below_size HB1.out)))
      have HO1' := Aside0.mk (Kd.R_below HO1.out hb2)
      have HO2 := Aside0.mk ho
      clear HC2 ho hb hb2 HB1 HO1
      generalize hL1 : List.replicate N (40 : Int) = L1 at HO1'
      generalize hL2 : List.replicate N (41 : Int) = L2 at HO2
      have HL := Aside0.mk (show L1.length ≤ 24 ∧ L2.length ≤ 24 by rw [← hL1, ← hL2]; simp; have := HN.out; omega)
      have HE := Aside0.mk (And.intro hL1 hL2)
      obtain ⟨A1, c1, e1⟩ := Kd.R_slice HO1'.out
      subst e1
      obtain ⟨A2, c2, e2⟩ := Kd.R_slice HO2.out
      subst e2
      have HC3 := Aside0.mk (cat2 A1 A2 c1 c2 L1 L2 w2 (Kd.R_reads' HO1'.out).2.2 (Kd.R_reads' HO2.out).2.2 HL.out.1 HL.out.2)
      clear hL1 hL2
      go_wp2_with fail
      refine HC3.out.mono ?_
      rintro e w3 ⟨v3, rfl, ho, hb⟩
      have HB3 := Aside0.mk (HB2.out.trans (hb.mono (below_size HB2.out)))
      have hcv := own_string (P := Try.prog) Try.underlying25 Try.underlying5 Try.underlying9 (Kd.own_of_R ho)
      clear HC3 ho hb HB2 HO1' HO2
      go_wp2
      go_ret
      exact ⟨by rw [← HE.out.1, ← HE.out.2]; rfl, HB3.out⟩
    · rw [if_neg h6] at h
      cases h
  · rw [if_neg h1] at h
    cases h
end Go.Proofs.Ytaaemhjdnncgdaa.Hand
