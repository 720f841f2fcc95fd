/- What is drawn comes out: plain lemmas. No condition. -/
import Derived.Laws.BitsLemmas
import Derived.Test.YtopcnhppbmmbbaaPH
import Derived.Test.YtopcnhppbmmbbaaQx1
import Derived.Test.YtopcnhppbmmbbaaQx2
import Derived.Test.YtopcnhppbmmbbaaQx3
namespace Go.Proofs.Ytopcnhppbmmbbaa.PI
open Go.RowKit Go.Proofs.Ytopcnhppbmmbbaa.Q Go.Proofs.Ytopcnhppbmmbbaa.Hand Go.Proofs.YtopcnhppbmmbbaaW.PrintWords Go.Proofs.YtopcnhppbmmbbaaW.PrintLast Go.Proofs.Ytopcnhppbmmbbaa.PA Go.Proofs.Ytopcnhppbmmbbaa.PC Go.Proofs.Ytopcnhppbmmbbaa.PD Go.Proofs.Ytopcnhppbmmbbaa.PE Go.Proofs.Ytopcnhppbmmbbaa.PF Go.Proofs.Ytopcnhppbmmbbaa.PG Go.Proofs.Ytopcnhppbmmbbaa.PH
set_option linter.unusedVariables false
set_option linter.unusedSimpArgs false

/-- From some number of rounds on, always the same. -/
def EvF {α : Type} (f : Nat → Option α) (v : α) : Prop := ∃ K, ∀ k, K ≤ k → f k = some v
theorem EvF.now {α : Type} (v : α) : EvF (fun _ => some v) v := ⟨0, fun _ _ => rfl⟩
theorem EvF.bind {α β : Type} {f : Nat → Option α} {g : Nat → α → Option β} {a : α} {v : β} (h : EvF f a) (h2 : EvF (fun k => g k a) v) : EvF (fun k => (f k).bind (g k)) v := by
  obtain ⟨K1, h1⟩ := h
  obtain ⟨K2, h2⟩ := h2
  refine ⟨max K1 K2, fun k hk => ?_⟩
  show (f k).bind (g k) = some v
  rw [h1 k (by omega), Option.bind_some]
  exact h2 k (by omega)
theorem EvF.succ {α : Type} {f g : Nat → Option α} {v : α} (h : EvF g v) (he : ∀ k, f (k + 1) = g k) : EvF f v := by
  obtain ⟨K, h⟩ := h
  refine ⟨K + 1, fun k hk => ?_⟩
  obtain ⟨m, rfl⟩ : ∃ m, k = m + 1 := ⟨k - 1, by omega⟩
  rw [he]
  exact h m (by omega)
theorem EvF.of {α : Type} {f : Nat → Option α} {v : α} {k : Nat} (hm : ∀ k, LeO (f k) (f (k + 1))) (h : f k = some v) : EvF f v := ⟨k, fun m hk => at_rounds hm hk h⟩
theorem EvF.at {α : Type} {f : Nat → Option α} {v : α} {K : Nat} (h : ∀ k, K ≤ k → f k = some v) : EvF f v := ⟨K, h⟩
/-- The list holds bytes. -/
def Byt (s : List Int) : Prop := ∀ x ∈ s, 0 ≤ x ∧ x ≤ 255
theorem Byt.rd {s : List Int} (h : Byt s) (i : Int) : 0 ≤ rd s i ∧ rd s i ≤ 255 := by
  unfold Go.Proofs.YtopcnhppbmmbbaaW.PrintWords.rd
  rw [List.getD_eq_getElem?_getD]
  cases he : s[i.toNat]? with
  | none => simp
  | some x => exact h x (List.mem_of_getElem? he)
theorem bits_range (x : Int) (h : 0 ≤ x) (h2 : x < 18446744073709551616) : 0 ≤ Go.bits .and .u64 (x / 8589934592) 16777215 ∧ Go.bits .and .u64 (x / 8589934592) 16777215 < 16777216 := by
  have := Go.bits_mask .u64 31 (by decide) (fun n h0 h1 => by
    show n % 18446744073709551616 = n
    have : (2 : Int) ^ 31 = 2147483648 := by decide
    omega) 24 (by decide) (x / 8589934592) (by omega) (by have : (2 : Int) ^ 31 = 2147483648 := by decide
                                                          omega)
  rw [show (2 : Int) ^ 24 - 1 = 16777215 by decide, show (2 : Int) ^ 24 = 16777216 by decide] at this
  rw [this]
  omega
theorem u64_range (x : Int) : 0 ≤ IntKind.u64.wrap x ∧ IntKind.u64.wrap x < 18446744073709551616 := by
  show 0 ≤ x % 18446744073709551616 ∧ x % 18446744073709551616 < 18446744073709551616
  omega
/-- A draw comes out: a number, and the source behind it. -/
def Out (s : List Int) (r : Option (Int × Int × Int)) (P : Int → Prop) : Prop := ∃ x i h, r = some (x, i, h) ∧ 0 ≤ i ∧ i ≤ (s.length : Int) ∧ P x
theorem next_out {s : List Int} (hb : Byt s) (hl : (s.length : Int) ≤ 140737488351232) {i : Int} (hi : 0 ≤ i) (hi2 : i ≤ (s.length : Int)) (h n : Int) : Out s (spec_l01Next.f s i h n) (fun x => 0 ≤ x ∧ (1 ≤ n → x < n)) := by
  unfold spec_l01Next.f
  by_cases h1 : n < 1
  · rw [if_pos h1]
    exact ⟨0, i, h, rfl, hi, hi2, by omega, fun h => by omega⟩
  · rw [if_neg h1]
    have u := u64_range ((IntKind.u64.wrap (h * 6364136223846793005)) + 1442695040888963407)
    generalize IntKind.u64.wrap ((IntKind.u64.wrap (h * 6364136223846793005)) + 1442695040888963407) = U at u ⊢
    have b := bits_range U u.1 u.2
    generalize Go.bits .and .u64 (U / 8589934592) 16777215 = B at b ⊢
    by_cases h2 : i < (s.length : Int)
    · have r := hb.rd i
      rw [if_pos h2, if_pos hi, if_neg (by omega)]
      refine ⟨_, _, _, rfl, ?_, ?_, ?_, fun _ => ?_⟩
      · rw [wrap_id (by omega) (by omega)]; omega
      · rw [wrap_id (by omega) (by omega)]; omega
      · rw [wrap_id (x := B) (by omega) (by omega), wrap_id (x := rd s i) (by omega) (by omega), wrap_id (by omega) (by omega)]
        exact Int.tmod_nonneg _ (by omega)
      · exact Int.tmod_lt_of_pos _ (by omega)
    · rw [if_neg h2, if_neg (by omega)]
      refine ⟨_, _, _, rfl, hi, hi2, ?_, fun _ => ?_⟩
      · rw [wrap_id (x := B) (by omega) (by omega)]
        exact Int.tmod_nonneg _ (by omega)
      · exact Int.tmod_lt_of_pos _ (by omega)
theorem from_go (s : List Int) : ∀ (d : Nat) (i h : Int), 0 ≤ i → 4096 - i = d → ∃ g, ∀ k, d < k → spec_l01From.l0 k s i s 0 h = some (s, 0, g) := by
  intro d
  induction d with
  | zero =>
    intro i h hi hd
    refine ⟨h, fun k hk => ?_⟩
    obtain ⟨k, rfl⟩ : ∃ m, k = m + 1 := ⟨k - 1, by omega⟩
    simp only [spec_l01From.l0]
    by_cases c : i < (s.length : Int)
    · rw [if_pos c, if_neg (by omega)]
    · rw [if_neg c]
  | succ d ih =>
    intro i h hi hd
    by_cases c : i < (s.length : Int)
    · obtain ⟨g, hg⟩ := ih (i + 1) (IntKind.u64.wrap ((IntKind.u64.wrap ((IntKind.u64.wrap (h * 1099511628211)) + (IntKind.u64.wrap (rd s i)))) + 67)) (by omega) (by omega)
      refine ⟨g, fun k hk => ?_⟩
      obtain ⟨k, rfl⟩ : ∃ m, k = m + 1 := ⟨k - 1, by omega⟩
      simp only [spec_l01From.l0]
      rw [if_pos c, if_pos (by omega), if_pos hi, wrap_id (x := i + 1) (by omega) (by omega)]
      exact hg k (by omega)
    · refine ⟨h, fun k hk => ?_⟩
      obtain ⟨k, rfl⟩ : ∃ m, k = m + 1 := ⟨k - 1, by omega⟩
      simp only [spec_l01From.l0]
      rw [if_neg c]
theorem from_out (s : List Int) : ∃ g, EvF (fun k => spec_l01From.f k s) (s, 0, g) := by
  obtain ⟨g, hg⟩ := from_go s 4096 0 (IntKind.u64.wrap (12511 + (IntKind.u64.wrap ((s.length : Int))))) (by omega) (by omega)
  refine ⟨g, 4097, fun k hk => ?_⟩
  unfold spec_l01From.f
  exact hg k (by omega)
/-! #### what is drawn comes out -/
theorem pick_mem {s : List Int} (hb : Byt s) (hl : (s.length : Int) ≤ 140737488351232) {i : Int} (hi : 0 ≤ i) (hi2 : i ≤ (s.length : Int)) (h : Int) (l : List Int) (hl0 : 0 < l.length) : Out s (spec_l01Pick.f s i h l) (fun x => x ∈ l) := by
  unfold spec_l01Pick.f
  obtain ⟨x, j, g, e, h1, h2, h3, h4⟩ := next_out hb hl hi hi2 h (l.length : Int)
  have h5 := h4 (by omega)
  rw [e, Option.bind_some]
  rw [if_pos h3, if_pos h5]
  refine ⟨_, _, _, rfl, h1, h2, ?_⟩
  obtain ⟨y, rfl⟩ : ∃ y : Nat, x = (y : Int) := ⟨x.toNat, by omega⟩
  exact rd_mem l y (by omega)
def chkAll (m : Int) : Bool := match spec_l08All.f 60 m with
  | some L => decide (0 < L.length ∧ L.length < 1000) && L.all (fun t => decide (t.size ≤ 12))
  | none => false
theorem chkAlls : ([1, 2, 3, 4, 5, 6] : List Int).all chkAll = true := by decide +kernel
theorem all_ev {m : Int} (h1 : 1 ≤ m) (h2 : m ≤ 6) : ∃ L, EvF (fun k => spec_l08All.f k m) L ∧ 0 < L.length ∧ L.length < 1000 ∧ ∀ t ∈ L, t.size ≤ 12 := by
  have hm : m ∈ ([1, 2, 3, 4, 5, 6] : List Int) := by
    have : m = 1 ∨ m = 2 ∨ m = 3 ∨ m = 4 ∨ m = 5 ∨ m = 6 := by omega
    rcases this with rfl | rfl | rfl | rfl | rfl | rfl <;> simp
  have hc := List.all_eq_true.1 chkAlls m hm
  unfold chkAll at hc
  cases hL : spec_l08All.f 60 m with
  | none => rw [hL] at hc; cases hc
  | some L =>
    rw [hL] at hc
    simp only [Bool.and_eq_true, decide_eq_true_eq, List.all_eq_true] at hc
    exact ⟨L, EvF.of (spec_l08All.mono m) hL, hc.1.1, hc.1.2, hc.2⟩
/-- A text comes out, and the source behind it. -/
def TOut (s : List Int) (r : Nat → Option (ByteArray × Int × Int)) (z : Nat) : Prop := ∃ t j g, EvF r (t, j, g) ∧ 0 ≤ j ∧ j ≤ (s.length : Int) ∧ t.size ≤ z
theorem drawOf_out {s : List Int} (hb : Byt s) (hl : (s.length : Int) ≤ 140737488351232) {i : Int} (hi : 0 ≤ i) (hi2 : i ≤ (s.length : Int)) (h : Int) {m : Int} (h1 : 1 ≤ m) (h2 : m ≤ 6) : TOut s (fun k => spec_l08DrawOf.f k s i h m) 12 := by
  obtain ⟨L, ⟨K, hK⟩, l1, l2, l3⟩ := all_ev h1 h2
  dsimp only at hK
  obtain ⟨x, j, g, e, n1, n2, n3, n4⟩ := next_out hb hl hi hi2 h (L.length : Int)
  have n5 := n4 (by omega)
  refine ⟨rdOf ByteArray.empty L x, j, g, ⟨K, fun k hk => ?_⟩, n1, n2, ?_⟩
  · show spec_l08DrawOf.f k s i h m = _
    unfold spec_l08DrawOf.f
    rw [hK k hk, Option.bind_some, e, Option.bind_some, if_pos n3, if_pos n5]
  · refine l3 _ ?_
    unfold rdOf
    rw [List.getD_eq_getElem?_getD, List.getElem?_eq_getElem (by omega)]
    exact List.getElem_mem _
def letters : List ByteArray := [(⟨#[40]⟩ : ByteArray), (⟨#[41]⟩ : ByteArray), (⟨#[124]⟩ : ByteArray), (⟨#[49]⟩ : ByteArray), (⟨#[48]⟩ : ByteArray), (⟨#[44]⟩ : ByteArray), (⟨#[32]⟩ : ByteArray), (⟨#[45]⟩ : ByteArray), (⟨#[120]⟩ : ByteArray), (⟨#[10]⟩ : ByteArray)]
theorem letter_size (x : Int) : (rdOf ByteArray.empty letters x).size ≤ 1 := by
  unfold rdOf
  rw [List.getD_eq_getElem?_getD]
  cases he : letters[x.toNat]? with
  | none => simp
  | some t =>
    have hm := List.mem_of_getElem? he
    have : (letters.all fun t => decide (t.size ≤ 1)) = true := by decide
    have := List.all_eq_true.1 this t hm
    exact of_decide_eq_true this
theorem ext_le (a : ByteArray) (i j : Nat) : (a.extract i j).size ≤ a.size := by rw [ByteArray.size_extract]; omega
theorem damage_out {s : List Int} (hb : Byt s) (hl : (s.length : Int) ≤ 140737488351232) {i : Int} (hi : 0 ≤ i) (hi2 : i ≤ (s.length : Int)) (h : Int) (a : ByteArray) (ha : a.size ≤ 100) : ∃ t j g, spec_l01Damage.f s i h a = some (t, j, g) ∧ 0 ≤ j ∧ j ≤ (s.length : Int) ∧ t.size ≤ 201 := by
  unfold spec_l01Damage.f
  rw [Option.bind_some, show ([(⟨#[40]⟩ : ByteArray), (⟨#[41]⟩ : ByteArray), (⟨#[124]⟩ : ByteArray), (⟨#[49]⟩ : ByteArray), (⟨#[48]⟩ : ByteArray), (⟨#[44]⟩ : ByteArray), (⟨#[32]⟩ : ByteArray), (⟨#[45]⟩ : ByteArray), (⟨#[120]⟩ : ByteArray), (⟨#[10]⟩ : ByteArray)] : List ByteArray) = letters from rfl]
  obtain ⟨x, j, g, e, n1, n2, n3, n4⟩ := next_out hb hl hi hi2 h (letters.length : Int)
  have n5 := n4 (by decide)
  rw [e, Option.bind_some]
  simp only
  rw [if_pos n3, if_pos n5]
  have hx := letter_size x
  generalize rdOf ByteArray.empty letters x = c at hx ⊢
  by_cases h0 : (a.size : Int) = 0
  · rw [if_pos h0]
    exact ⟨_, _, _, rfl, n1, n2, by omega⟩
  · rw [if_neg h0]
    obtain ⟨y, j2, g2, e2, m1, m2, m3, m4⟩ := next_out hb hl n1 n2 g (a.size : Int)
    have m5 := m4 (by omega)
    obtain ⟨z, j3, g3, e3, o1, o2, o3, o4⟩ := next_out hb hl m1 m2 g2 3
    rw [e2, Option.bind_some]
    simp only
    rw [e3, Option.bind_some]
    simp only
    obtain ⟨y, rfl⟩ : ∃ y' : Nat, y = (y' : Int) := ⟨y.toNat, by omega⟩
    have hw : wrap64 ((y : Int) + 1) = ((y + 1 : Nat) : Int) := wrap_nat (by omega)
    rw [hw]
    simp only [Int.toNat_natCast]
    have s1 : (a.extract 0 y).size ≤ 100 := Nat.le_trans (ext_le _ _ _) ha
    have s2 : (a.extract (y + 1) a.size).size ≤ 100 := Nat.le_trans (ext_le _ _ _) ha
    have s3 : (a.extract y a.size).size ≤ 100 := Nat.le_trans (ext_le _ _ _) ha
    have big : ∀ n : Nat, n ≤ 1000 → n ≤ 9223372036854775807 := fun n hn => Nat.le_trans hn (by decide)
    have y1 : (0 : Int) ≤ (y : Int) := m3
    have y2 : (y : Int) ≤ (a.size : Int) := Int.le_of_lt m5
    have y3 : (0 : Int) ≤ ((y + 1 : Nat) : Int) := Int.natCast_nonneg _
    have y4 : ((y + 1 : Nat) : Int) ≤ (a.size : Int) := Int.ofNat_le.2 (Nat.succ_le_of_lt (Int.ofNat_lt.1 m5))
    clear e e2 e3 n3 n4 n5 m3 m4 m5 hw h0 hb hl o3 o4
    have t1 : (a.extract 0 y ++ c).size ≤ 101 := by rw [ByteArray.size_append]; omega
    have t2 : (a.extract 0 y ++ c ++ a.extract (y + 1) a.size).size ≤ 201 := by rw [ByteArray.size_append]; omega
    have t3 : (a.extract 0 y ++ c ++ a.extract y a.size).size ≤ 201 := by rw [ByteArray.size_append]; omega
    have t4 : (a.extract 0 y ++ a.extract (y + 1) a.size).size ≤ 200 := by rw [ByteArray.size_append]; omega
    by_cases c0 : z = 0
    · rw [if_pos c0, if_pos y1, if_pos y2, if_pos (big _ (by omega)), if_pos y3, if_pos y4, if_pos (big _ (by omega))]
      exact ⟨_, _, _, rfl, o1, o2, t2⟩
    · rw [if_neg c0]
      by_cases c1 : z = 1
      · rw [if_pos c1, if_pos y1, if_pos y2, if_pos y3, if_pos y4, if_pos (big _ (by omega))]
        exact ⟨_, _, _, rfl, o1, o2, by omega⟩
      · rw [if_neg c1, if_pos y1, if_pos y2, if_pos (big _ (by omega)), if_pos (big _ (by omega))]
        exact ⟨_, _, _, rfl, o1, o2, t3⟩
theorem spoil_out {s : List Int} (hb : Byt s) (hl : (s.length : Int) ≤ 140737488351232) {i : Int} (hi : 0 ≤ i) (hi2 : i ≤ (s.length : Int)) (h : Int) (a : ByteArray) (ha : a.size ≤ 12) : ∃ t j g, spec_l08Spoil.f s i h a = some (t, j, g) ∧ 0 ≤ j ∧ j ≤ (s.length : Int) ∧ t.size ≤ 201 := by
  unfold spec_l08Spoil.f
  obtain ⟨x, j, g, e, n1, n2, n3, n4⟩ := next_out hb hl hi hi2 h 24
  rw [e, Option.bind_some]
  simp only
  by_cases c : x = 0
  · obtain ⟨t, j2, g2, e2, m1, m2, m3⟩ := damage_out hb hl n1 n2 g a (by omega)
    rw [if_pos c, e2, Option.bind_some]
    exact ⟨_, _, _, rfl, m1, m2, m3⟩
  · rw [if_neg c]
    exact ⟨_, _, _, rfl, n1, n2, by omega⟩
theorem two_out (s : List Int) (hb : Byt s) (hl : (s.length : Int) ≤ 140737488351232) : ∃ a b : ByteArray, EvF (fun k => spec_l08Two.f k s) (a, b) ∧ a.size ≤ 201 ∧ b.size ≤ 201 := by
  obtain ⟨g0, K0, h0⟩ := from_out s
  obtain ⟨m, i1, g1, e1, a1, a2, a3⟩ := pick_mem hb hl (i := 0) (by omega) (by omega) g0 [1, 2, 2, 3, 3, 4, 5, 6] (by decide)
  have hm : 1 ≤ m ∧ m ≤ 6 := by
    simp only [List.mem_cons, List.not_mem_nil, or_false] at a3
    omega
  obtain ⟨ta, i2, g2, ⟨K2, e2⟩, b1, b2, b3⟩ := drawOf_out hb hl a1 a2 g1 hm.1 hm.2
  obtain ⟨tb, i3, g3, ⟨K3, e3⟩, c1, c2, c3⟩ := drawOf_out hb hl b1 b2 g2 hm.1 hm.2
  obtain ⟨x, i4, g4, e4, d1, d2, d3, d4⟩ := next_out hb hl c1 c2 g3 24
  dsimp only at h0 e2 e3
  have pre : ∀ k, max K0 (max K2 K3) ≤ k → spec_l08Two.f k s = (if x = 0 then ((spec_l01Next.f s i4 g4 4).bind fun bt171 => ((spec_l08DrawOf.f k s bt171.2.1 bt171.2.2 (wrap64 (1 + bt171.1))).bind fun bt174 => ((spec_l08Spoil.f s bt174.2.1 bt174.2.2 ta).bind fun bt177 => ((spec_l08Spoil.f s bt177.2.1 bt177.2.2 bt174.1).bind fun bt180 => (some (bt177.1, bt180.1)))))) else ((spec_l08Spoil.f s i4 g4 ta).bind fun bt183 => ((spec_l08Spoil.f s bt183.2.1 bt183.2.2 tb).bind fun bt186 => (some (bt183.1, bt186.1))))) := by
    intro k hk
    unfold spec_l08Two.f
    rw [h0 k (by omega), Option.bind_some]
    simp only
    rw [e1, Option.bind_some]
    simp only
    rw [e2 k (by omega), Option.bind_some]
    simp only
    rw [e3 k (by omega), Option.bind_some]
    simp only
    rw [e4, Option.bind_some]
  by_cases c : x = 0
  · obtain ⟨y, i5, g5, e5, f1, f2, f3, f4⟩ := next_out hb hl d1 d2 g4 4
    have f5 := f4 (by omega)
    have hw : wrap64 (1 + y) = 1 + y := wrap_id (by omega) (by omega)
    obtain ⟨tc, i6, g6, ⟨K6, e6⟩, k1, k2, k3⟩ := drawOf_out hb hl f1 f2 g5 (m := 1 + y) (by omega) (by omega)
    dsimp only at e6
    obtain ⟨ra, i7, g7, e7, l1, l2, l3⟩ := spoil_out hb hl k1 k2 g6 ta b3
    obtain ⟨rb, i8, g8, e8, m1, m2, m3⟩ := spoil_out hb hl l1 l2 g7 tc k3
    refine ⟨ra, rb, ⟨max K6 (max K0 (max K2 K3)), fun k hk => ?_⟩, l3, m3⟩
    show spec_l08Two.f k s = _
    rw [pre k (by omega), if_pos c, e5, Option.bind_some]
    simp only
    rw [hw, e6 k (by omega), Option.bind_some]
    simp only
    rw [e7, Option.bind_some]
    simp only
    rw [e8, Option.bind_some]
  · obtain ⟨ra, i7, g7, e7, l1, l2, l3⟩ := spoil_out hb hl d1 d2 g4 ta b3
    obtain ⟨rb, i8, g8, e8, m1, m2, m3⟩ := spoil_out hb hl l1 l2 g7 tb c3
    refine ⟨ra, rb, ⟨max K0 (max K2 K3), fun k hk => ?_⟩, l3, m3⟩
    show spec_l08Two.f k s = _
    rw [pre k (by omega), if_neg c, e7, Option.bind_some]
    simp only
    rw [e8, Option.bind_some]
theorem orderDraw_go {s : List Int} (hb : Byt s) (hl : (s.length : Int) ≤ 140737488351232) (a : ByteArray) (ha : a.size ≤ 201) : ∀ (d : Nat) (b : ByteArray) (x i h : Int), 0 ≤ x → 6 - x = d → b.size ≤ 201 → 0 ≤ i → i ≤ (s.length : Int) →
    ∃ c d' : ByteArray, EvF (fun k => spec_DrawOrderOfMeander.l0 k a b x s i h) (c, d') ∧ c.size ≤ 201 ∧ d'.size ≤ 201 := by
  intro d
  induction d with
  | zero =>
    intro b x i h hx hd hbs hi hi2
    refine ⟨a, b, ⟨1, fun k hk => ?_⟩, ha, hbs⟩
    obtain ⟨k, rfl⟩ : ∃ m, k = m + 1 := ⟨k - 1, by omega⟩
    simp only [spec_DrawOrderOfMeander.l0]
    rw [if_neg (by omega)]
  | succ d ih =>
    intro b x i h hx hd hbs hi hi2
    obtain ⟨cv, ce, hp, _, hce⟩ := pairBoth a b (by omega) (by omega)
    have hcode : ∀ k, 1048580 ≤ k → ∃ m, spec_l08Code.f k a b = some ce ∧ (ce = 0 → spec_l08Components.f k a b = some m ∧ m = cv) := by
      intro k hk
      have := (hp k hk).2
      unfold spec_ComponentsOfPair.f at this
      obtain ⟨c, hc1, hc2⟩ := Option.bind_eq_some_iff.1 this
      by_cases c0 : c = 0
      · rw [if_pos c0] at hc2
        obtain ⟨m, hm1, hm2⟩ := Option.bind_eq_some_iff.1 hc2
        obtain ⟨e1, e2⟩ := Prod.mk.inj (Option.some.inj hm2)
        exact ⟨m, by rw [hc1, c0, e2], fun _ => ⟨hm1, e1⟩⟩
      · rw [if_neg c0] at hc2
        obtain ⟨e1, e2⟩ := Prod.mk.inj (Option.some.inj hc2)
        exact ⟨0, by rw [hc1, e2], fun h => absurd (e2.trans h) c0⟩
    by_cases c0 : ce = 0
    · obtain ⟨p1, p2, q1, q2, A, B, he, _, _, _⟩ := hce c0
      by_cases c1 : cv = 1
      · refine ⟨a, b, ⟨1048581, fun k hk => ?_⟩, ha, hbs⟩
        obtain ⟨k, rfl⟩ : ∃ m, k = m + 1 := ⟨k - 1, by omega⟩
        obtain ⟨m, hm1, hm2⟩ := hcode k (by omega)
        obtain ⟨hm3, hm4⟩ := hm2 c0
        simp only [spec_DrawOrderOfMeander.l0]
        rw [if_pos (by omega), hm1, Option.bind_some, if_pos c0, hm3, Option.bind_some, if_pos (by rw [hm4, c1])]
      · have hn2 := A.n2
        have hn := A.n12
        have hev := A.ev
        obtain ⟨n', hn'⟩ : ∃ n', n' = a.size := ⟨_, rfl⟩
        have q1' : (1 : Int) ≤ ((n' / 2 : Nat) : Int) := by rw [← hn'] at hn2; clear hcode hp hce hb hl ih; omega
        have q2' : ((n' / 2 : Nat) : Int) ≤ 6 := by rw [← hn'] at hn; clear hcode hp hce hb hl ih; omega
        have hw : wrap64 ((a.size : Int) / 2) = ((n' / 2 : Nat) : Int) := by rw [← hn', wrap_id (by omega) (by omega)]; omega
        obtain ⟨t, j, g, ⟨K, e⟩, b1, b2, b3⟩ := drawOf_out hb hl hi hi2 h (m := ((n' / 2 : Nat) : Int)) q1' q2'
        obtain ⟨c, d', ⟨K2, e2⟩, r1, r2⟩ := ih t (x + 1) j g (by omega) (by omega) (by omega) b1 b2
        dsimp only at e e2
        refine ⟨c, d', ⟨max (max K K2) 1048580 + 1, fun k hk => ?_⟩, r1, r2⟩
        obtain ⟨k, rfl⟩ : ∃ m, k = m + 1 := ⟨k - 1, by omega⟩
        obtain ⟨m, hm1, hm2⟩ := hcode k (by omega)
        obtain ⟨hm3, hm4⟩ := hm2 c0
        simp only [spec_DrawOrderOfMeander.l0]
        rw [if_pos (by omega), hm1, Option.bind_some, if_pos c0, hm3, Option.bind_some, if_neg (by rw [hm4]; exact c1), hw, e k (by omega), Option.bind_some]
        simp only
        rw [show wrap64 (x + 1) = x + 1 from wrap_id (by omega) (by omega)]
        exact e2 k (by omega)
    · refine ⟨a, b, ⟨1048581, fun k hk => ?_⟩, ha, hbs⟩
      obtain ⟨k, rfl⟩ : ∃ m, k = m + 1 := ⟨k - 1, by omega⟩
      obtain ⟨m, hm1, _⟩ := hcode k (by omega)
      simp only [spec_DrawOrderOfMeander.l0]
      rw [if_pos (by omega), hm1, Option.bind_some, if_neg c0]
theorem orderDraw (s : List Int) (hb : Byt s) (hl : (s.length : Int) ≤ 140737488351232) : ∃ c d : ByteArray, EvF (fun k => spec_DrawOrderOfMeander.f k s) (c, d) ∧ c.size ≤ 201 ∧ d.size ≤ 201 := by
  obtain ⟨g0, K0, h0⟩ := from_out s
  obtain ⟨a, b, ⟨K1, h1⟩, a1, a2⟩ := two_out s hb hl
  obtain ⟨c, d, ⟨K2, h2⟩, b1, b2⟩ := orderDraw_go hb hl a a1 6 b 0 0 g0 (by omega) (by omega) a2 (by omega) (by omega)
  dsimp only at h0 h1 h2
  refine ⟨c, d, ⟨max K0 (max K1 K2), fun k hk => ?_⟩, b1, b2⟩
  show spec_DrawOrderOfMeander.f k s = _
  unfold spec_DrawOrderOfMeander.f
  rw [h0 k (by omega), Option.bind_some, h1 k (by omega), Option.bind_some]
  exact h2 k (by omega)
theorem meanderDraw (s : List Int) (hb : Byt s) (hl : (s.length : Int) ≤ 140737488351232) : ∃ l : List Int, EvF (fun k => spec_DrawMeanderOfOrder.f k s) l := by
  obtain ⟨g0, K0, h0⟩ := from_out s
  obtain ⟨c, d, ⟨K1, h1⟩, a1, a2⟩ := orderDraw s hb hl
  dsimp only at h0 h1
  obtain ⟨ys, e, y1, y2, _⟩ := orderBoth c d (by omega) (by omega)
  have fin : ∀ (i h : Int), 0 ≤ i → i ≤ (s.length : Int) → ∃ x j g, spec_l01Next.f s i h 9 = some (x, j, g) ∧ 0 ≤ x ∧ x < 9 := by
    intro i h hi hi2
    obtain ⟨x, j, g, e, _, _, n3, n4⟩ := next_out hb hl hi hi2 h 9
    exact ⟨x, j, g, e, n3, n4 (by omega)⟩
  by_cases c0 : e = 0
  · obtain ⟨x, j, g, e2, n1, n2, n3, n4⟩ := next_out hb hl (i := 0) (by omega) (by omega) g0 6
    by_cases c1 : x > 0
    · refine ⟨ys, ⟨max K0 (max K1 1048580), fun k hk => ?_⟩⟩
      show spec_DrawMeanderOfOrder.f k s = _
      unfold spec_DrawMeanderOfOrder.f
      rw [h0 k (by omega), Option.bind_some, h1 k (by omega), Option.bind_some, y2 k (by omega), Option.bind_some]
      simp only
      rw [if_pos c0, e2, Option.bind_some]
      simp only
      rw [if_pos c1]
    · obtain ⟨z, j2, g2, e3, z1, z2⟩ := fin j g n1 n2
      refine ⟨?la, ⟨max K0 (max K1 1048580), fun k hk => ?_⟩⟩
      rotate_left
      · show spec_DrawMeanderOfOrder.f k s = _
        unfold spec_DrawMeanderOfOrder.f
        rw [h0 k (by omega), Option.bind_some, h1 k (by omega), Option.bind_some, y2 k (by omega), Option.bind_some]
        simp only
        rw [if_pos c0, e2, Option.bind_some]
        simp only
        rw [if_neg c1, Option.bind_some, e3, Option.bind_some]
        simp only
        rw [if_pos z1, if_pos (by simp; omega)]
  · obtain ⟨z, j2, g2, e3, z1, z2⟩ := fin 0 g0 (by omega) (by omega)
    refine ⟨?lb, ⟨max K0 (max K1 1048580), fun k hk => ?_⟩⟩
    rotate_left
    · show spec_DrawMeanderOfOrder.f k s = _
      unfold spec_DrawMeanderOfOrder.f
      rw [h0 k (by omega), Option.bind_some, h1 k (by omega), Option.bind_some, y2 k (by omega), Option.bind_some]
      simp only
      rw [if_neg c0, Option.bind_some, e3, Option.bind_some]
      simp only
      rw [if_pos z1, if_pos (by simp; omega)]

end Go.Proofs.Ytopcnhppbmmbbaa.PI
