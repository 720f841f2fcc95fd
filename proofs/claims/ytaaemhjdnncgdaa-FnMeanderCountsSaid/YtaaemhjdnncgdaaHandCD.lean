/- The contracts of ComponentDeterminant of the program and of the reference. No condition. -/
import Derived.Test.YtaaemhjdnncgdaaHandG
namespace Go.Proofs.Ytaaemhjdnncgdaa.Hand
open Go.RowKit Go.Proofs.YtaaemhjdnncgdaaW.PrintWords Go.Proofs.YtaaemhjdnncgdaaW.PrintLast Go.Proofs.YtaaemhjdnncgdaaW.PrintMore
set_option linter.unusedVariables false
set_option linter.unusedSimpArgs false

/-- A row raised. -/
def rr1 (pw : Int → Option Int) (r : Nat) : Nat → Nat → List (List Int) → Option (List (List Int))
  | 0, _, L => some L
  | d + 1, i, L => (pw (ent L r i)).bind fun v => rr1 pw r d (i + 1) (put L r i v)
/-- All rows raised. -/
def rr0 (pw : Int → Option Int) (n : Nat) : Nat → Nat → List (List Int) → Option (List (List Int))
  | 0, _, L => some L
  | d + 1, r, L => (rr1 pw r n 0 L).bind fun L' => rr0 pw n d (r + 1) L'
theorem rr1_len (pw : Int → Option Int) (r : Nat) : ∀ (d i : Nat) (L L' : List (List Int)), rr1 pw r d i L = some L' → L'.length = L.length
  | 0, _, L, L', h => by simp only [rr1, Option.some.injEq] at h; rw [h]
  | d + 1, i, L, L', h => by
    simp only [rr1] at h
    obtain ⟨v, _, h⟩ := Option.bind_eq_some_iff.1 h
    rw [rr1_len pw r d _ _ _ h, put_len]
theorem rr0_len (pw : Int → Option Int) (n : Nat) : ∀ (d r : Nat) (L L' : List (List Int)), rr0 pw n d r L = some L' → L'.length = L.length
  | 0, _, L, L', h => by simp only [rr0, Option.some.injEq] at h; rw [h]
  | d + 1, r, L, L', h => by
    simp only [rr0] at h
    obtain ⟨L1, h1, h⟩ := Option.bind_eq_some_iff.1 h
    rw [rr0_len pw n d _ _ _ h, rr1_len pw r _ _ _ _ h1]
theorem det_T (w0 w : World) (g n c : Nat) (bs cs : Nat → Nat) (T : List (List Int)) (p r : Int) (hB : Below w0.heap.size w0 w) (hT : Tab w w0.heap.size g n bs cs T) (hn : T.length = n) (hc : n ≤ c) (hm : c ≤ maxLen) (h : detF T p = some r) :
    Calls Try.prog 35 #[.slice (some ⟨g, 0, none⟩) n c, .int .i64 p] w fun e w' => e = .returned (.int .i64 r) ∧ Below w0.heap.size w0 w' := by
  unfold detF at h
  split at h
  · rename_i hh
    obtain ⟨hp, h1, h2, h3⟩ := hh
    subst hn
    exact det_calls 3000 w0 w g T.length c bs cs T p r hB hT rfl h2 hc hm hp h
  · cases h
theorem ech_T (w0 w : World) (g n c : Nat) (bs cs : Nat → Nat) (T : List (List Int)) (p d r : Int) (hB : Below w0.heap.size w0 w) (hT : Tab w w0.heap.size g n bs cs T) (hn : T.length = n) (h : echF p T = some (d, r)) :
    Calls Try.prog 32 #[.int .i64 p, .slice (some ⟨g, 0, none⟩) n c] w fun e w' => e = .returned (.tuple #[.int .i64 d, .int .i64 r]) ∧ Below w0.heap.size w0 w' := by
  unfold echF at h
  split at h
  · rename_i hh
    obtain ⟨⟨hp1, hp2⟩, h1, h2, h3⟩ := hh
    simp only [Option.some.injEq, Prod.mk.injEq] at h
    obtain ⟨rfl, rfl⟩ := h
    subst hn
    exact ech_calls 3000 (iv1 p) w0 w g T.length c bs cs T p _ _ hB hT rfl h2 (by omega) (inv1_some hp1 hp2) rfl
  · cases h
def impl_ComponentDeterminant.f (p c m : Int) : Option (Int × Int) := (impl_ComponentTable.f 3000 m).bind fun t => (impl_fieldOk.f 3000 p c).bind fun ok => if ok = true ∧ t.2 = 0 then (if Sqr t.1 then (rr0 (fun x => impl_power.f 3000 c x p) t.1.length t.1.length 0 t.1).bind fun T => (detF T p).bind fun d => some (d, 0) else none) else some (0, 2)
def spec_ComponentDeterminant.f (p c m : Int) : Option (Int × Int) := (spec_l04Numbers.f 3000 p c).bind fun ok => (spec_l01In.f m 1 4).bind fun ok2 => if ok = true ∧ ok2 = true then (spec_l08Table.f 3000 m).bind fun t => (if Sqr t then (rr0 (fun x => spec_l02Power.f 3000 p c x) t.length t.length 0 t).bind fun T => (echF p T).bind fun d => some (d.1, 0) else none) else some (0, 2)
set_option maxHeartbeats 4000000 in
theorem impl_ComponentDeterminant.calls (a0 a1 a2 r1 r2 : Int) (w : World) (h : impl_ComponentDeterminant.f a0 a1 a2 = some (r1, r2)) :
    Calls Try.prog 6 #[.int .i64 a0, .int .i64 a1, .int .i64 a2] w fun e w' => e = .returned (.tuple #[.int .i64 r1, .int .i64 r2]) ∧ Below w.heap.size w w' := by
  unfold impl_ComponentDeterminant.f at h
  obtain ⟨⟨T, code⟩, h1, h⟩ := Option.bind_eq_some_iff.1 h
  dsimp only at h
  obtain ⟨ok, h2, h⟩ := Option.bind_eq_some_iff.1 h
  try dsimp only at h
  have H1 := Aside0.mk h1
  have H2 := Aside0.mk h2
  have H := Aside0.mk h
  clear h1 h2 h
  go_enter Try.func6, Try.ntmps6
  go_wp2_with fail
  refine (impl_ComponentTable.calls 3000 a2 T code _ H1.out).mono ?_
  rintro e w1 ⟨v0, rfl, hS, hB⟩
  have HS := Aside0.mk hS
  have HB := Aside0.mk hB
  have h := H.out
  clear hS hB H H1
  by_cases hc : ok = true ∧ code = 0
  · rw [if_pos hc] at h
    obtain ⟨rfl, rfl⟩ := hc
    by_cases hq : Sqr T
    · rw [if_pos hq] at h
      obtain ⟨T2, h3, h⟩ := Option.bind_eq_some_iff.1 h
      obtain ⟨d, h4, h⟩ := Option.bind_eq_some_iff.1 h
      simp only [Option.some.injEq, Prod.mk.injEq] at h
      obtain ⟨rfl, rfl⟩ := h
      have H3 := Aside0.mk h3
      have H4 := Aside0.mk h4
      obtain ⟨q1, q2, q3⟩ := hq
      obtain ⟨A, c, rfl⟩ := Kd.S_slice HS.out
      obtain ⟨g, bs, cs, rfl, _, hcc, hmax, hT⟩ := Tab.of_S HS.out q3 q1 q1
      have HC := Aside0.mk hcc
      have HM := Aside0.mk hmax
      have HT := Aside0.mk hT
      obtain ⟨n, hn⟩ : ∃ n, T.length = n := ⟨_, rfl⟩
      rw [hn] at HT HC q2 H3
      have HN := Aside0.mk hn
      have HQ := Aside0.mk q2
      rw [hn]
      clear h3 h4 hcc hmax hT q1 q2 q3 hn HS
      go_wp2_with (go_at_call 33; (with_reducible refine (impl_fieldOk.calls 3000 a0 a1 true _ H2.out).mono ?_); rintro e w' ⟨rfl, ⟨nd, rfl⟩⟩)
      obtain ⟨wB, hwB⟩ : ∃ wB, wB = w1.drewN nd := ⟨_, rfl⟩
      rw [← hwB]
      have HTB := Aside0.mk (show Tab wB w.heap.size g n bs cs T by rw [hwB]; exact HT.out.drewN nd)
      have HBB := Aside0.mk (show Below w.heap.size w wB by rw [hwB]; exact pw_below_drewN HB.out nd)
      clear hwB HT HB
      go_loopg [29] n (fun dq v29 w' => ∃ (r : Nat) (L : List (List Int)), v29 = .int .i64 (r : Int) ∧ Aside0 (r + dq = n) ∧ Aside0 (L.length = n) ∧ Aside0 (rr0 (fun x => impl_power.f 3000 a1 x a0) n dq r L = some T2) ∧ Aside0 (Tab w' w.heap.size g n bs cs L) ∧ Aside0 (Below w.heap.size w w'))
      case atStart => exact ⟨0, T, rfl, ⟨by omega⟩, HN, H3, HTB, HBB⟩
      case round =>
        clear HTB HBB HN H3
        obtain ⟨r, L, rfl, HR, HN, H3, HTB, HBB⟩ := hrel
        cases gk with
        | zero =>
          have hr := HR.out
          have c1 : decide ((r : Int) < (n : Int)) = false := decide_eq_false (by omega)
          have c2 : decide (r < n) = false := decide_eq_false (by omega)
          have e := H3.out
          simp only [rr0, Option.some.injEq] at e
          subst e
          clear H3
          go_wp2_with fail
          refine (det_T w _ g n c bs cs L a0 d HBB.out HTB.out HN.out HC.out HM.out H4.out).mono ?_
          rintro e w2 ⟨rfl, hB2⟩
          have HB2 := Aside0.mk hB2
          clear hB2
          go_wp2_with fail
          go_ret2
          exact ⟨rfl, HB2.out⟩
        | succ dq =>
          have hr := HR.out
          have hrl : r < L.length := by have := HN.out; omega
          have c1 : decide ((r : Int) < (n : Int)) = true := decide_eq_true (by omega)
          have p1 := eq_true (show (0 : Int) ≤ (r : Int) by omega)
          have p2 := eq_true (show (r : Int) < (n : Int) by omega)
          have e := H3.out
          simp only [rr0] at e
          obtain ⟨L5, h5, h6⟩ := Option.bind_eq_some_iff.1 e
          have H5 := Aside0.mk h5
          have H6 := Aside0.mk h6
          have z1 := HTB.out.head (j := r) hrl
          clear e h5 h6 H3
          have hwr : wrap64 ((r : Int) + 1) = ((r + 1 : Nat) : Int) := by have := HQ.out; unfold wrap64; omega
          have HWR := Aside0.mk hwr
          clear hwr
          go_wp2_with fail
          clear z1 hrl
          go_loopg [35] n (fun eq v35 w' => ∃ (i : Nat) (L' : List (List Int)), v35 = .int .i64 (i : Int) ∧ Aside0 (i + eq = n) ∧ Aside0 (L'.length = n) ∧ Aside0 (rr1 (fun x => impl_power.f 3000 a1 x a0) r eq i L' = some L5) ∧ Aside0 (Tab w' w.heap.size g n bs cs L') ∧ Aside0 (Below w.heap.size w w'))
          case atStart => exact ⟨0, L, rfl, ⟨by omega⟩, HN, H5, HTB, HBB⟩
          case round =>
            clear HTB HBB H5 HN
            obtain ⟨i, L', rfl, HI, HN, H5, HTB, HBB⟩ := hrel
            have hrl : r < L'.length := by have := HN.out; omega
            cases gk with
            | zero =>
              have hi := HI.out
              have c3 : decide ((i : Int) < (n : Int)) = false := decide_eq_false (by omega)
              have c4 : decide (i < n) = false := decide_eq_false (by omega)
              have e := H5.out
              simp only [rr1, Option.some.injEq] at e
              subst e
              clear H5
              go_wp2
              go_roundg dq
              case measure => omega
              case rel => exact ⟨r + 1, L', (by first | rfl | exact congrArg _ HWR.out), ⟨by omega⟩, HN, H6, HTB, HBB⟩
            | succ eq =>
              have hi := HI.out
              have c3 : decide ((i : Int) < (n : Int)) = true := decide_eq_true (by omega)
              have p3 := eq_true (show (0 : Int) ≤ (i : Int) by omega)
              have p4 := eq_true (show (i : Int) < (n : Int) by omega)
              have e := H5.out
              simp only [rr1] at e
              obtain ⟨v, h7, h8⟩ := Option.bind_eq_some_iff.1 e
              have H7 := Aside0.mk h7
              have H8 := Aside0.mk h8
              have z2 := HTB.out.cell (j := r) (i := i) hrl (by omega)
              have f2 := HTB.out.cell_frozen hrl i
              clear e h7 h8 H5
              have hwi : wrap64 ((i : Int) + 1) = ((i + 1 : Nat) : Int) := by have := HQ.out; unfold wrap64; omega
              have HWI := Aside0.mk hwi
              clear hwi
              go_wp2_with fail
              refine (impl_power.calls 3000 a1 _ a0 v _ H7.out).mono ?_
              rintro e w2 ⟨rfl, ⟨nd2, rfl⟩⟩
              obtain ⟨wD, hwD⟩ : ∃ wD, wD = wr.drewN nd2 := ⟨_, rfl⟩
              rw [← hwD]
              have HTD := Aside0.mk (show Tab wD w.heap.size g n bs cs L' by rw [hwD]; exact HTB.out.drewN nd2)
              have HBD := Aside0.mk (show Below w.heap.size w wD by rw [hwD]; exact pw_below_drewN HBB.out nd2)
              clear hwD z2 f2 HTB HBB
              have z2 := HTD.out.cell (j := r) (i := i) hrl (by omega)
              have f2 := HTD.out.cell_frozen hrl i
              have HTP := Aside0.mk (HTD.out.put hrl (i := i) (by omega) v)
              have HBP := Aside0.mk (HBD.out.setCell (p := ⟨bs r, i, none⟩) (HTD.out.row r hrl).1 (.int .i64 v))
              have HN2 := Aside0.mk (show (put L' r i v).length = n by rw [put_len]; exact HN.out)
              clear HTD HBD
              go_wp2_with fail
              go_roundg eq
              case measure => omega
              case rel => exact ⟨i + 1, put L' r i v, (by first | rfl | exact congrArg _ HWI.out), ⟨by omega⟩, HN2, H8, HTP, HBP⟩
    · rw [if_neg hq] at h; cases h
  · rw [if_neg hc] at h
    simp only [Option.some.injEq, Prod.mk.injEq] at h
    obtain ⟨rfl, rfl⟩ := h
    cases ok with
    | false =>
      clear hc
      go_wp2_with (go_at_call 33; (with_reducible refine (impl_fieldOk.calls 3000 a0 a1 false _ H2.out).mono ?_); rintro e w' ⟨rfl, ⟨nd, rfl⟩⟩)
      go_ret2
      exact ⟨rfl, pw_below_drewN HB.out nd⟩
    | true =>
      have c1 : (code != 0) = true := by rw [bne_iff_ne]; exact fun h => hc ⟨rfl, h⟩
      clear hc
      go_wp2_with (go_at_call 33; (with_reducible refine (impl_fieldOk.calls 3000 a0 a1 true _ H2.out).mono ?_); rintro e w' ⟨rfl, ⟨nd, rfl⟩⟩)
      go_ret2
      exact ⟨rfl, pw_below_drewN HB.out nd⟩
set_option maxHeartbeats 4000000 in
theorem spec_ComponentDeterminant.calls (a0 a1 a2 r1 r2 : Int) (w : World) (h : spec_ComponentDeterminant.f a0 a1 a2 = some (r1, r2)) :
    Calls Try.prog 5 #[.int .i64 a0, .int .i64 a1, .int .i64 a2] w fun e w' => e = .returned (.tuple #[.int .i64 r1, .int .i64 r2]) ∧ Below w.heap.size w w' := by
  unfold spec_ComponentDeterminant.f at h
  obtain ⟨ok, h1, hA⟩ := Option.bind_eq_some_iff.1 h
  obtain ⟨ok2, h2, hB⟩ := Option.bind_eq_some_iff.1 hA
  have H1 := Aside0.mk h1
  have H2 := Aside0.mk h2
  clear h1 h2 h hA
  by_cases hc : ok = true ∧ ok2 = true
  · have h := hB
    clear hB
    rw [if_pos hc] at h
    obtain ⟨rfl, rfl⟩ := hc
    obtain ⟨T, h0, h⟩ := Option.bind_eq_some_iff.1 h
    have H0 := Aside0.mk h0
    clear h0
    by_cases hq : Sqr T
    · rw [if_pos hq] at h
      obtain ⟨T2, h3, h⟩ := Option.bind_eq_some_iff.1 h
      obtain ⟨⟨d, d2⟩, h4, h⟩ := Option.bind_eq_some_iff.1 h
      simp only [Option.some.injEq, Prod.mk.injEq] at h
      obtain ⟨rfl, rfl⟩ := h
      have H3 := Aside0.mk h3
      have H4 := Aside0.mk h4
      have HQQ := Aside0.mk hq
      clear h3 h4 hq
      go_enter Try.func5, Try.ntmps5
      go_wp2_with (first | (go_at_call 28; (with_reducible refine (spec_l04Numbers.calls 3000 a0 a1 true _ H1.out).mono ?_); rintro e w' ⟨rfl, ⟨nd, rfl⟩⟩) | (go_at_call 29; (with_reducible refine (spec_l01In.calls a2 1 4 true _ H2.out).mono ?_); rintro e w' ⟨rfl, ⟨nd2, rfl⟩⟩) | (go_at_call 30; fail))
      obtain ⟨wA, hwA⟩ : ∃ wA, wA = w.drewN (nd + nd2) := ⟨_, rfl⟩
      (try rw [World.drewN_drewN])
      rw [← hwA]
      refine (spec_l08Table.calls 3000 a2 T _ H0.out).mono ?_
      rintro e w1 ⟨v0, rfl, hS, hB⟩
      have hz : wA.heap.size = w.heap.size := by rw [hwA]; rfl
      rw [hz] at hS hB
      have HS := Aside0.mk hS
      have HB := Aside0.mk (below_step (show Below w.heap.size w wA by rw [hwA]; exact pw_below_drewN (Below.refl _ _) _) (by rw [hz]; exact hB))
      clear hS hB hwA hz
      obtain ⟨q1, q2, q3⟩ := HQQ.out
      obtain ⟨A, c, rfl⟩ := Kd.S_slice HS.out
      obtain ⟨g, bs, cs, rfl, _, hcc, hmax, hT⟩ := Tab.of_S HS.out q3 q1 q1
      have HT := Aside0.mk hT
      obtain ⟨n, hn⟩ : ∃ n, T.length = n := ⟨_, rfl⟩
      rw [hn] at HT q2 H3
      have HN := Aside0.mk hn
      have HQ := Aside0.mk q2
      rw [hn]
      clear hcc hmax hT q1 q2 q3 hn HS HQQ
      have HTB := HT
      have HBB := HB
      clear HT HB
      go_wp2_with fail
      go_loopg [9] n (fun dq v9 w' => ∃ (r : Nat) (L : List (List Int)), v9 = .int .i64 (r : Int) ∧ Aside0 (r + dq = n) ∧ Aside0 (L.length = n) ∧ Aside0 (rr0 (fun x => spec_l02Power.f 3000 a0 a1 x) n dq r L = some T2) ∧ Aside0 (Tab w' w.heap.size g n bs cs L) ∧ Aside0 (Below w.heap.size w w'))
      case atStart => exact ⟨0, T, rfl, ⟨by omega⟩, HN, H3, HTB, HBB⟩
      case round =>
        clear HTB HBB HN H3
        obtain ⟨r, L, rfl, HR, HN, H3, HTB, HBB⟩ := hrel
        cases gk with
        | zero =>
          have hr := HR.out
          have c1 : decide ((r : Int) < (n : Int)) = false := decide_eq_false (by omega)
          have c2 : decide (r < n) = false := decide_eq_false (by omega)
          have e := H3.out
          simp only [rr0, Option.some.injEq] at e
          subst e
          clear H3
          go_wp2_with fail
          refine (ech_T w _ g n c bs cs L a0 d d2 HBB.out HTB.out HN.out H4.out).mono ?_
          rintro e w2 ⟨rfl, hB2⟩
          have HB2 := Aside0.mk hB2
          clear hB2
          go_wp2_with fail
          go_ret2
          exact ⟨rfl, HB2.out⟩
        | succ dq =>
          have hr := HR.out
          have hrl : r < L.length := by have := HN.out; omega
          have c1 : decide ((r : Int) < (n : Int)) = true := decide_eq_true (by omega)
          have p1 := eq_true (show (0 : Int) ≤ (r : Int) by omega)
          have p2 := eq_true (show (r : Int) < (n : Int) by omega)
          have e := H3.out
          simp only [rr0] at e
          obtain ⟨L5, h5, h6⟩ := Option.bind_eq_some_iff.1 e
          have H5 := Aside0.mk h5
          have H6 := Aside0.mk h6
          have z1 := HTB.out.head (j := r) hrl
          clear e h5 h6 H3
          have hwr : wrap64 ((r : Int) + 1) = ((r + 1 : Nat) : Int) := by have := HQ.out; unfold wrap64; omega
          have HWR := Aside0.mk hwr
          clear hwr
          go_wp2_with fail
          clear z1 hrl
          go_loopg [11] n (fun eq v11 w' => ∃ (i : Nat) (L' : List (List Int)), v11 = .int .i64 (i : Int) ∧ Aside0 (i + eq = n) ∧ Aside0 (L'.length = n) ∧ Aside0 (rr1 (fun x => spec_l02Power.f 3000 a0 a1 x) r eq i L' = some L5) ∧ Aside0 (Tab w' w.heap.size g n bs cs L') ∧ Aside0 (Below w.heap.size w w'))
          case atStart => exact ⟨0, L, rfl, ⟨by omega⟩, HN, H5, HTB, HBB⟩
          case round =>
            clear HTB HBB H5 HN
            obtain ⟨i, L', rfl, HI, HN, H5, HTB, HBB⟩ := hrel
            have hrl : r < L'.length := by have := HN.out; omega
            cases gk with
            | zero =>
              have hi := HI.out
              have c3 : decide ((i : Int) < (n : Int)) = false := decide_eq_false (by omega)
              have c4 : decide (i < n) = false := decide_eq_false (by omega)
              have e := H5.out
              simp only [rr1, Option.some.injEq] at e
              subst e
              clear H5
              go_wp2
              go_roundg dq
              case measure => omega
              case rel => exact ⟨r + 1, L', (by first | rfl | exact congrArg _ HWR.out), ⟨by omega⟩, HN, H6, HTB, HBB⟩
            | succ eq =>
              have hi := HI.out
              have c3 : decide ((i : Int) < (n : Int)) = true := decide_eq_true (by omega)
              have p3 := eq_true (show (0 : Int) ≤ (i : Int) by omega)
              have p4 := eq_true (show (i : Int) < (n : Int) by omega)
              have e := H5.out
              simp only [rr1] at e
              obtain ⟨v, h7, h8⟩ := Option.bind_eq_some_iff.1 e
              have H7 := Aside0.mk h7
              have H8 := Aside0.mk h8
              have z2 := HTB.out.cell (j := r) (i := i) hrl (by omega)
              have f2 := HTB.out.cell_frozen hrl i
              clear e h7 h8 H5
              have hwi : wrap64 ((i : Int) + 1) = ((i + 1 : Nat) : Int) := by have := HQ.out; unfold wrap64; omega
              have HWI := Aside0.mk hwi
              clear hwi
              go_wp2_with fail
              refine (spec_l02Power.calls 3000 a0 a1 _ v _ H7.out).mono ?_
              rintro e w2 ⟨rfl, ⟨nd2, rfl⟩⟩
              obtain ⟨wD, hwD⟩ : ∃ wD, wD = wr.drewN nd2 := ⟨_, rfl⟩
              rw [← hwD]
              have HTD := Aside0.mk (show Tab wD w.heap.size g n bs cs L' by rw [hwD]; exact HTB.out.drewN nd2)
              have HBD := Aside0.mk (show Below w.heap.size w wD by rw [hwD]; exact pw_below_drewN HBB.out nd2)
              clear hwD z2 f2 HTB HBB
              have z2 := HTD.out.cell (j := r) (i := i) hrl (by omega)
              have f2 := HTD.out.cell_frozen hrl i
              have HTP := Aside0.mk (HTD.out.put hrl (i := i) (by omega) v)
              have HBP := Aside0.mk (HBD.out.setCell (p := ⟨bs r, i, none⟩) (HTD.out.row r hrl).1 (.int .i64 v))
              have HN2 := Aside0.mk (show (put L' r i v).length = n by rw [put_len]; exact HN.out)
              clear HTD HBD
              go_wp2_with fail
              go_roundg eq
              case measure => omega
              case rel => exact ⟨i + 1, put L' r i v, (by first | rfl | exact congrArg _ HWI.out), ⟨by omega⟩, HN2, H8, HTP, HBP⟩
    · rw [if_neg hq] at h; cases h
  · have h := hB
    clear hB
    rw [if_neg hc] at h
    simp only [Option.some.injEq, Prod.mk.injEq] at h
    obtain ⟨rfl, rfl⟩ := h
    cases ok with
    | false =>
      clear hc H2
      go_enter Try.func5, Try.ntmps5
      go_wp2_with (first | (go_at_call 28; (with_reducible refine (spec_l04Numbers.calls 3000 a0 a1 false _ H1.out).mono ?_); rintro e w' ⟨rfl, ⟨nd, rfl⟩⟩))
      go_ret2
      exact ⟨rfl, pw_below_drewN (Below.refl _ _) nd⟩
    | true =>
      have e : ok2 = false := by cases ok2 with
        | false => rfl
        | true => exact absurd ⟨rfl, rfl⟩ hc
      subst e
      clear hc
      go_enter Try.func5, Try.ntmps5
      go_wp2_with (first | (go_at_call 28; (with_reducible refine (spec_l04Numbers.calls 3000 a0 a1 true _ H1.out).mono ?_); rintro e w' ⟨rfl, ⟨nd, rfl⟩⟩) | (go_at_call 29; (with_reducible refine (spec_l01In.calls a2 1 4 false _ H2.out).mono ?_); rintro e w' ⟨rfl, ⟨nd2, rfl⟩⟩))
      go_ret2
      exact ⟨rfl, pw_below_drewN (Below.refl _ _) _⟩
end Go.Proofs.Ytaaemhjdnncgdaa.Hand
