/- What the functions of FnFormStays compute, in plain words. -/
import Derived.Test.YtjocpjjimhefjaaGreatPFnFormStaysx
import Derived.Test.YtjocpjjimhefjaaGreatM1
import Derived.Test.YtjocpjjimhefjaaGreatM2
import Derived.Test.YtjocpjjimhefjaaGreatM3
import Derived.Test.YtjocpjjimhefjaaGreatM4
import Derived.Test.YtjocpjjimhefjaaGreatM5
import Derived.Test.YtjocpjjimhefjaaGreatM6
import Derived.Test.YtjocpjjimhefjaaGreatM7
import Derived.Test.YtjocpjjimhefjaaGreatM8
import Derived.Test.YtjocpjjimhefjaaGreatM9
import Derived.Test.YtjocpjjimhefjaaGreatM10
import Derived.Test.YtjocpjjimhefjaaGreatM12
import Derived.Test.YtjocpjjimhefjaaGreatM15
import Derived.Test.YtjocpjjimhefjaaGreatM17
import Derived.Test.YtjocpjjimhefjaaGreatM20
namespace Go.Proofs.YtjocpjjimhefjaaGreat.Pure
open Go.RowKit Go.Proofs.YtjocpjjimhefjaaGreat.PFnFormStays Go.Proofs.YtjocpjjimhefjaaGreatW.PrintWords Go.Proofs.YtjocpjjimhefjaaGreatW.PrintLast Go.Proofs.YtjocpjjimhefjaaGreatW.PrintMore Go.Proofs.YtjocpjjimhefjaaGreatM
set_option linter.unusedVariables false
set_option linter.unusedSimpArgs false
theorem bits_OnesCount64.e1 (a : Nat) (h : a < 2 ^ 64) : IntKind.u64.wrap ((Go.bits .and .u64 ((a : Int) / 2) 6148914691236517205) + (Go.bits .and .u64 (a : Int) 6148914691236517205)) = ((sw1 a : Nat) : Int) := by
  have h1 := uand (a / 2) 6148914691236517205 (by omega) (by decide)
  have h2 := uand a 6148914691236517205 h (by decide)
  rw [show ((a / 2 : Nat) : Int) = (a : Int) / 2 by norm_cast] at h1
  have h1' : Go.bits .and .u64 ((a : Int) / 2) 6148914691236517205 = _ := h1
  have h2' : Go.bits .and .u64 (a : Int) 6148914691236517205 = _ := h2
  rw [h1', h2', ← Int.natCast_add, uwrap]
  rfl
theorem bits_OnesCount64.e2 (a : Nat) (h : a < 2 ^ 64) : IntKind.u64.wrap ((Go.bits .and .u64 ((a : Int) / 4) 3689348814741910323) + (Go.bits .and .u64 (a : Int) 3689348814741910323)) = ((sw2 a : Nat) : Int) := by
  have h1 := uand (a / 4) 3689348814741910323 (by omega) (by decide)
  have h2 := uand a 3689348814741910323 h (by decide)
  rw [show ((a / 4 : Nat) : Int) = (a : Int) / 4 by norm_cast] at h1
  have h1' : Go.bits .and .u64 ((a : Int) / 4) 3689348814741910323 = _ := h1
  have h2' : Go.bits .and .u64 (a : Int) 3689348814741910323 = _ := h2
  rw [h1', h2', ← Int.natCast_add, uwrap]
  rfl
theorem bits_OnesCount64.e3 (a : Nat) : Go.bits .and .u64 (IntKind.u64.wrap (((a : Int) / 16) + (a : Int))) 1085102592571150095 = ((sw3 a : Nat) : Int) := by
  rw [show (a : Int) / 16 + (a : Int) = ((a / 16 + a : Nat) : Int) by omega, uwrap]
  exact uand _ 1085102592571150095 (Nat.mod_lt _ (by decide)) (by decide)
theorem bits_OnesCount64.e4 (a : Nat) : IntKind.u64.wrap ((a : Int) + (a : Int) / 256) = ((sw4 a : Nat) : Int) := by
  rw [show (a : Int) + (a : Int) / 256 = ((a + a / 256 : Nat) : Int) by omega, uwrap]
  rfl
theorem bits_OnesCount64.e5 (a : Nat) : IntKind.u64.wrap ((a : Int) + (a : Int) / 65536) = ((sw5 a : Nat) : Int) := by
  rw [show (a : Int) + (a : Int) / 65536 = ((a + a / 65536 : Nat) : Int) by omega, uwrap]
  rfl
theorem bits_OnesCount64.e6 (a : Nat) : IntKind.u64.wrap ((a : Int) + (a : Int) / 4294967296) = ((sw6 a : Nat) : Int) := by
  rw [show (a : Int) + (a : Int) / 4294967296 = ((a + a / 4294967296 : Nat) : Int) by omega, uwrap]
  rfl
theorem bits_OnesCount64.lt (a : Nat) : sw1 a < 2 ^ 64 := Nat.mod_lt _ (by decide)
theorem bits_OnesCount64.low (b : Nat) (h : b < 2 ^ 64) : Go.bits .and .i64 (wrap64 (b : Int)) 127 = ((b &&& 127 : Nat) : Int) := by
  have e1 : ∀ c : Int, BitVec.ofInt 64 (wrap64 c) = BitVec.ofInt 64 c := by
    intro c
    apply BitVec.eq_of_toInt_eq
    rw [BitVec.toInt_ofInt, BitVec.toInt_ofInt]
    unfold wrap64
    rw [Int.bmod_def, Int.bmod_def]
    omega
  have hlt : b &&& 127 < 128 := Nat.lt_of_le_of_lt (Nat.and_le_right) (by decide)
  have e2 : Go.bits .and .i64 (wrap64 (b : Int)) 127 = Go.bits .and .i64 (b : Int) 127 := by
    have := e1 (b : Int)
    simp only [Go.bits, IntKind.bits] at this ⊢
    rw [this]
  rw [e2]
  have ha' : b % 2 ^ IntKind.i64.bits = b := Nat.mod_eq_of_lt h
  have hb' : 127 % 2 ^ IntKind.i64.bits = 127 := rfl
  rw [show (127 : Int) = ((127 : Nat) : Int) from rfl]
  simp only [Go.bits, BitVec.ofInt_natCast, BitVec.toNat_and, BitVec.toNat_ofNat, ha', hb']
  exact wraps_i64 _ (Int.natCast_nonneg _) (by omega)
theorem bits_OnesCount64.lt6 (a : Nat) : sw6 a < 2 ^ 64 := Nat.mod_lt _ (by decide)
theorem bits_OnesCount64.eq (a : Nat) (h : a < 65536) : bits_OnesCount64.f (a : Int) = some ((pop a : Nat) : Int) := by
  have hh : a < 2 ^ 64 := Nat.lt_trans h (by decide)
  unfold bits_OnesCount64.f
  rw [bits_OnesCount64.e1 a hh, bits_OnesCount64.e2 _ (bits_OnesCount64.lt a), bits_OnesCount64.e3, bits_OnesCount64.e4, bits_OnesCount64.e5, bits_OnesCount64.e6, bits_OnesCount64.low (sw6 _) (bits_OnesCount64.lt6 _), ← swar_eq a h]
  rfl
theorem bits_OnesCount.eq (a : Nat) (h : a < 65536) : bits_OnesCount.f (a : Int) = some ((pop a : Nat) : Int) := by
  unfold bits_OnesCount.f
  rw [bits_OnesCount64.eq a h]
  rfl
theorem impl_has.eq (x i : Int) (hx : 0 ≤ x) (hx1 : x < 2 ^ 63) (hi : 0 ≤ i) : impl_has.f x i = some (bit x i) := by unfold impl_has.f; rw [if_pos hi, has_bit hx hx1 hi]
theorem impl_in.eq (x a b : Int) : impl_in.f x a b = some (decide (a ≤ x) && decide (x ≤ b)) := by
  unfold impl_in.f
  by_cases h : a ≤ x
  · rw [if_pos h]; simp [h]
  · rw [if_neg h]; simp [h]
theorem impl_isCount.eq (x : Int) : impl_isCount.f x = some (decide (1 ≤ x) && decide (x ≤ 16)) := by unfold impl_isCount.f; rw [impl_in.eq]; rfl
theorem impl_whole.eq (n : Int) (h0 : 0 ≤ n) (h1 : n ≤ 62) : impl_whole.f n = some (2 ^ n.toNat - 1) := by unfold impl_whole.f; rw [if_pos h0, whole_eq h0 h1]
theorem impl_isGraph.inner (l : List Int) (own : Bool) (hn : l.length ≤ 16) (i : Nat) (hi : i < l.length) (hbi : 0 ≤ l[i] ∧ l[i] < 2 ^ 63) (hb : ∀ j, (h : j < i) → 0 ≤ l[j] ∧ l[j] < 2 ^ 63) (r : Bool) (hr : Ev (fun k => impl_isGraph.l0 k (l.length : Int) l (l.length : Int) ((i + 1 : Nat) : Int) l own) r) (d : Nat) :
    ∀ j : Nat, i - j = d → j ≤ i → Ev (fun k => impl_isGraph.l1 k (l.length : Int) (i : Int) l[i] l (l.length : Int) (i : Int) (i : Int) (j : Int) l own) (((List.range' j (i - j)).all fun j => bit (l.getD i 0) (j : Int) == bit (l.getD j 0) (i : Int)) && r) := by
  induction d with
  | zero =>
    intro j hd hj
    refine Ev.step (f := fun k => impl_isGraph.l0 k (l.length : Int) l (l.length : Int) ((i + 1 : Nat) : Int) l own) (fun k => ?_) (by rw [hd]; simpa using hr)
    simp only [impl_isGraph.l1]
    rw [if_neg (by omega), wrap_succ i (by omega)]
  | succ d ih =>
    intro j hd hj
    have hlt : j < i := by omega
    have hbj := hb j hlt
    rw [hd, List.range'_succ, List.all_cons, Bool.and_assoc]
    have ih' := ih (j + 1) (by omega) (by omega)
    rw [show i - (j + 1) = d by omega] at ih'
    have h1 := impl_has.eq l[i] (j : Int) hbi.1 hbi.2 (by omega)
    have h2 := impl_has.eq l[j] (i : Int) hbj.1 hbj.2 (by omega)
    rw [getD_get l i hi, getD_get l j (by omega)]
    rw [getD_get l i hi] at ih'
    have step : ∀ k, impl_isGraph.l1 (k + 1) (l.length : Int) (i : Int) l[i] l (l.length : Int) (i : Int) (i : Int) (j : Int) l own = if (bit l[i] (j : Int) == bit l[j] (i : Int)) = true then impl_isGraph.l1 k (l.length : Int) (i : Int) l[i] l (l.length : Int) (i : Int) (i : Int) ((j + 1 : Nat) : Int) l own else some false := by
      intro k
      simp only [impl_isGraph.l1]
      rw [if_pos (by omega), h1, Option.bind_some, if_pos (by omega), if_pos (by omega), rd_get l j (by omega), h2, Option.bind_some, wrap_succ j (by omega)]
      cases bit l[i] (j : Int) <;> cases bit l[j] (i : Int) <;> rfl
    cases e : (bit l[i] (j : Int) == bit l[j] (i : Int))
    · rw [Bool.false_and]
      exact now fun k => by rw [step k, e]; rfl
    · rw [Bool.true_and]
      exact Ev.step (fun k => by rw [step k, e]; rfl) ih'
theorem impl_isGraph.outer (l : List Int) (own : Bool) (hn : l.length ≤ 16) (d : Nat) :
    ∀ i : Nat, l.length - i = d → i ≤ l.length → (∀ j, (h : j < i) → (hj : j < l.length) → 0 ≤ l[j] ∧ l[j] < 2 ^ l.length) → Ev (fun k => impl_isGraph.l0 k (l.length : Int) l (l.length : Int) (i : Int) l own) ((List.range' i (l.length - i)).all (okRow l)) := by
  induction d with
  | zero =>
    intro i hd hi _
    refine now fun k => ?_
    simp only [impl_isGraph.l0]
    rw [if_neg (by omega), hd]
    rfl
  | succ d ih =>
    intro i hd hi hb
    have hlt : i < l.length := by omega
    have h16 := pow16 hn
    rw [hd, List.range'_succ, List.all_cons]
    have hr : okRow l i = (inSet l.length l[i] && (!(bit l[i] (i : Int)) && (List.range' 0 i).all fun j => bit (l.getD i 0) (j : Int) == bit (l.getD j 0) (i : Int))) := by
      unfold okRow
      rw [getD_get l i hlt]
    have hin : impl_in.f l[i] 0 (2 ^ (l.length : Int).toNat - 1) = some (inSet l.length l[i]) := by
      rw [impl_in.eq, Int.toNat_natCast]
      unfold inSet
      congr 2
      rw [Bool.eq_iff_iff]
      simp only [decide_eq_true_eq]
      omega
    rw [hr]
    cases e1 : inSet l.length l[i]
    · rw [Bool.false_and, Bool.false_and]
      refine ⟨2, fun k hk => ?_⟩
      obtain ⟨m, rfl⟩ : ∃ m, k = m + 2 := ⟨k - 2, by omega⟩
      show impl_isGraph.l0 (m + 2) (l.length : Int) l (l.length : Int) (i : Int) l own = _
      simp only [impl_isGraph.l0]
      rw [if_pos (by omega), if_pos (by omega), if_pos (by omega), rd_get l i hlt, impl_whole.eq _ (by omega) (by omega), Option.bind_some, hin, Option.bind_some, e1, if_neg (by decide)]
      simp only [impl_isGraph.j1, if_true]
    · have hbi : 0 ≤ l[i] ∧ l[i] < 2 ^ l.length := by simpa [inSet] using e1
      have hbi' : 0 ≤ l[i] ∧ l[i] < 2 ^ 63 := by omega
      rw [Bool.true_and]
      have head : ∀ k, impl_isGraph.l0 (k + 2) (l.length : Int) l (l.length : Int) (i : Int) l own = if bit l[i] (i : Int) = true then some false else impl_isGraph.l1 k (l.length : Int) (i : Int) l[i] l (l.length : Int) (i : Int) (i : Int) ((0 : Nat) : Int) l own := by
        intro k
        simp only [impl_isGraph.l0]
        rw [if_pos (by omega), if_pos (by omega), if_pos (by omega), rd_get l i hlt, impl_whole.eq _ (by omega) (by omega), Option.bind_some, hin, Option.bind_some, e1, if_pos rfl, impl_has.eq l[i] (i : Int) hbi'.1 hbi'.2 (by omega), Option.bind_some]
        simp only [impl_isGraph.j1]
        rfl
      cases e2 : bit l[i] (i : Int)
      · rw [Bool.not_false, Bool.true_and]
        have ih' := ih (i + 1) (by omega) (by omega) (fun j h hj => by
          rcases Nat.lt_succ_iff_lt_or_eq.1 h with h | h
          · exact hb j h hj
          · subst h; exact hbi)
        rw [show l.length - (i + 1) = d by omega] at ih'
        obtain ⟨K, hK⟩ := impl_isGraph.inner l own hn i hlt hbi' (fun j h => by have := hb j h (by omega); omega) _ ih' i 0 (by omega) (by omega)
        rw [Nat.sub_zero] at hK
        refine ⟨K + 2, fun k hk => ?_⟩
        obtain ⟨m, rfl⟩ : ∃ m, k = m + 2 := ⟨k - 2, by omega⟩
        show impl_isGraph.l0 (m + 2) (l.length : Int) l (l.length : Int) (i : Int) l own = _
        rw [head m, e2, if_neg (by decide)]
        exact hK m (by omega)
      · rw [Bool.not_true, Bool.false_and, Bool.false_and]
        refine ⟨2, fun k hk => ?_⟩
        obtain ⟨m, rfl⟩ : ∃ m, k = m + 2 := ⟨k - 2, by omega⟩
        show impl_isGraph.l0 (m + 2) (l.length : Int) l (l.length : Int) (i : Int) l own = _
        rw [head m, e2, if_pos rfl]
theorem impl_isGraph.ev (l : List Int) (own : Bool) : Ev (fun k => impl_isGraph.f k l own) (good l) := by
  rw [good_rows]
  by_cases hn : 1 ≤ l.length ∧ l.length ≤ 16
  · have e1 : impl_isCount.f (l.length : Int) = some true := by rw [impl_isCount.eq, decide_eq_true (by omega), decide_eq_true (by omega)]; rfl
    rw [show (decide (1 ≤ l.length ∧ l.length ≤ 16)) = true from decide_eq_true hn, Bool.true_and]
    refine Ev.congr (f := fun k => impl_isGraph.l0 k (l.length : Int) l (l.length : Int) ((0 : Nat) : Int) l own) (fun k => ?_) (by simpa using impl_isGraph.outer l own hn.2 l.length 0 (by omega) (by omega) (fun j h => absurd h (by omega)))
    unfold impl_isGraph.f
    rw [e1, Option.bind_some, if_pos rfl]
    rfl
  · have e1 : impl_isCount.f (l.length : Int) = some false := by
      rw [impl_isCount.eq]
      congr 1
      rw [Bool.and_eq_false_iff, decide_eq_false_iff_not, decide_eq_false_iff_not]
      omega
    rw [show (decide (1 ≤ l.length ∧ l.length ≤ 16)) = false from decide_eq_false hn, Bool.false_and]
    refine always fun k => ?_
    unfold impl_isGraph.f
    rw [e1, Option.bind_some, if_neg (by decide)]
theorem impl_isSet.p_eq (n : Nat) (h : n ≤ 16) (s : Int) : impl_isSet.p n s = !(inSet n s) := by
  unfold impl_isSet.p
  rw [whole_eq (by omega) (by omega), impl_in.eq, Int.toNat_natCast, ← inSet_eq' n s]
  rfl
theorem impl_isSet.ev (l : List Int) (own : Bool) (ss : List Int) : Ev (fun k => impl_isSet.f k l own ss) (good l && ss.all (inSet l.length)) := by
  obtain ⟨K, hK⟩ := impl_isGraph.ev l own
  refine ⟨K, fun k hk => ?_⟩
  have h1 : impl_isGraph.f k l own = _ := hK k hk
  show impl_isSet.f k l own ss = _
  unfold impl_isSet.f
  rw [h1, Option.bind_some]
  cases hg : good l
  · rfl
  · have := ((good_iff l).1 hg).top
    rw [if_pos rfl, Bool.true_and, show impl_isSet.p l.length = (fun s => !(inSet l.length s)) from funext (impl_isSet.p_eq l.length this), List.not_any_eq_all_not]
    simp
theorem impl_isLit.ev (l : List Int) (own : Bool) (ss : List Int) : Ev (fun k => impl_isLit.f k l own ss) (good l && ss.all (inSet l.length) && decide (l.length ≤ 9)) := by
  obtain ⟨K, hK⟩ := impl_isSet.ev l own ss
  refine ⟨K, fun k hk => ?_⟩
  have h1 : impl_isSet.f k l own ss = _ := hK k hk
  show impl_isLit.f k l own ss = _
  unfold impl_isLit.f
  rw [h1, Option.bind_some]
  cases (good l && ss.all (inSet l.length))
  · rfl
  · rw [if_pos rfl, Bool.true_and]
    congr 1
    rw [Bool.eq_iff_iff]
    simp only [decide_eq_true_eq]
    omega
theorem impl_hasButton.p_eq (n : Nat) (h : n ≤ 16) (s : Int) : impl_hasButton.p n s = !(isBtn n s) := by
  unfold impl_hasButton.p
  rw [wrap_id (by omega) (by omega), impl_in.eq]
  rfl
theorem impl_hasButton.ev (l : List Int) (own : Bool) (ss : List Int) : Ev (fun k => impl_hasButton.f k l own ss) (good l && ss.all (isBtn l.length)) := by
  obtain ⟨K, hK⟩ := impl_isGraph.ev l own
  refine ⟨K, fun k hk => ?_⟩
  have h1 : impl_isGraph.f k l own = _ := hK k hk
  show impl_hasButton.f k l own ss = _
  unfold impl_hasButton.f
  rw [h1, Option.bind_some]
  cases hg : good l
  · rfl
  · have := ((good_iff l).1 hg).top
    rw [if_pos rfl, Bool.true_and, show impl_hasButton.p l.length = (fun s => !(isBtn l.length s)) from funext (impl_hasButton.p_eq l.length this), List.not_any_eq_all_not]
    simp
theorem impl_count.eq (x : Int) (h0 : 0 ≤ x) (h1 : x < 65536) : impl_count.f x = some ((pop x.toNat : Nat) : Int) := by
  obtain ⟨n, rfl⟩ : ∃ n : Nat, x = n := ⟨x.toNat, by omega⟩
  unfold impl_count.f
  rw [uwrap_id n (by omega), bits_OnesCount.eq n (by omega), Int.toNat_natCast]
  rfl
theorem impl_odd.eq (x y : Int) (h0 : 0 ≤ x) (h1 : x < 65536) (g0 : 0 ≤ y) (g1 : y < 65536) : impl_odd.f x y = some ((pop (x.toNat &&& y.toNat)) % 2 == 1) := by
  unfold impl_odd.f
  have hle : x.toNat &&& y.toNat ≤ x.toNat := Nat.and_le_left
  rw [and_eq h0 (by omega) g0 (by omega), impl_count.eq ((x.toNat &&& y.toNat : Nat) : Int) (Int.natCast_nonneg _) (by omega), Int.toNat_natCast, Option.bind_some, Int.tmod_eq_emod_of_nonneg (Int.natCast_nonneg _)]
  congr 1
  rw [Bool.eq_iff_iff]
  simp only [beq_iff_eq]
  omega
theorem impl_Graph_reflect.eq (l : List Int) (own : Bool) (hG : GoodG l) (s i : Int) (h0 : 0 ≤ s) (h1 : s < 2 ^ l.length) (g0 : 0 ≤ i) (g1 : i < l.length) : impl_Graph_reflect.f l own s i = some (reflOne l s i) := by
  have h16 := pow16 hG.top
  have := hG.top
  have hm := hG.sets (rd l i) (rd_mem l _ g0 g1)
  have hp : (2 ^ i.toNat : Nat) < 2 ^ l.length := Nat.pow_lt_pow_right (by decide) (by omega)
  have hp0 : (0 : Int) ≤ ((2 ^ i.toNat : Nat) : Int) := Int.natCast_nonneg _
  have hc : ((2 ^ l.length : Nat) : Int) = 2 ^ l.length := by norm_cast
  unfold impl_Graph_reflect.f
  rw [if_pos g0, if_pos g1, impl_odd.eq s (rd l i) h0 (by omega) hm.1 (by omega), Option.bind_some, shl_one g0 (by omega), xor_eq h0 (by omega) (by omega) (by omega), Int.toNat_natCast, Nat.and_comm]
  unfold reflOne
  by_cases e : pop ((rd l i).toNat &&& s.toNat) % 2 = 1
  · rw [if_pos (by simpa using e), if_pos e]
  · rw [if_neg (by simpa using e), if_neg e]
theorem impl_ReflectWord.loop (l : List Int) (own : Bool) (hG : GoodG l) (w : List Int) (hw : w.length < 4611686018427387904) (hb : ∀ x ∈ w, 0 ≤ x ∧ x < l.length) (d : Nat) :
    ∀ (i : Nat) (s : Int), w.length - i = d → i ≤ w.length → 0 ≤ s → s < 2 ^ l.length → Ev (fun k => impl_ReflectWord.l0 k s w (w.length : Int) (i : Int) l own) (reflGo l s (w.drop i), true) := by
  induction d with
  | zero =>
    intro i s hd hi h0 h1
    refine now fun k => ?_
    simp only [impl_ReflectWord.l0]
    rw [if_neg (by omega), List.drop_eq_nil_of_le (by omega)]
    rfl
  | succ d ih =>
    intro i s hd hi h0 h1
    have hlt : i < w.length := by omega
    have hx := hb w[i] (List.getElem_mem _)
    have hm := reflOne_bounds l s w[i] h0 h1 hx.1 hx.2
    rw [drop_cons w i hlt, reflGo]
    refine Ev.step (f := fun k => impl_ReflectWord.l0 k (reflOne l s w[i]) w (w.length : Int) ((i + 1 : Nat) : Int) l own) (fun k => ?_) (ih (i + 1) _ (by omega) (by omega) hm.1 hm.2)
    simp only [impl_ReflectWord.l0]
    rw [if_pos (by omega), if_pos (by omega), if_pos (by omega), rd_get w i hlt, impl_Graph_reflect.eq l own hG s w[i] h0 h1 hx.1 hx.2, Option.bind_some, wrap_succ i (by omega)]
theorem impl_ReflectWord.ev (l : List Int) (own : Bool) (s : Int) (w : List Int) (hw : w.length < 4611686018427387904) : Ev (fun k => impl_ReflectWord.f k l own s w) (reflWord l s w) := by
  obtain ⟨K, hK⟩ := ev_and (impl_isLit.ev l own [s]) (impl_hasButton.ev l own w)
  have ea : (good l && [s].all (inSet l.length) && decide (l.length ≤ 9)) = (good l && decide (l.length ≤ 9) && inSet l.length s) := by
    simp only [List.all_cons, List.all_nil, Bool.and_true]
    cases good l <;> cases inSet l.length s <;> cases decide (l.length ≤ 9) <;> rfl
  rw [ea] at hK
  unfold reflWord
  cases e1 : (good l && decide (l.length ≤ 9) && inSet l.length s)
  · refine ⟨K + 1, fun k hk => ?_⟩
    obtain ⟨m, rfl⟩ : ∃ m, k = m + 1 := ⟨k - 1, by omega⟩
    obtain ⟨h1, h2⟩ := hK (m + 1) (by omega)
    show impl_ReflectWord.f (m + 1) l own s w = _
    unfold impl_ReflectWord.f
    rw [h1, Option.bind_some, e1, if_neg (by decide)]
    simp only [impl_ReflectWord.j0, if_true]
    rfl
  · have hg : good l = true := by simp only [Bool.and_eq_true] at e1; exact e1.1.1
    rw [e1, hg, Bool.true_and] at hK
    cases e2 : (decide (w.length ≤ 200) && w.all (isBtn l.length))
    · refine ⟨K + 1, fun k hk => ?_⟩
      obtain ⟨m, rfl⟩ : ∃ m, k = m + 1 := ⟨k - 1, by omega⟩
      obtain ⟨h1, h2⟩ := hK (m + 1) (by omega)
      show impl_ReflectWord.f (m + 1) l own s w = _
      unfold impl_ReflectWord.f
      rw [h1, Option.bind_some, if_pos rfl]
      by_cases hl : w.length ≤ 200
      · rw [decide_eq_true hl, Bool.true_and] at e2
        rw [if_neg (by omega), h2, Option.bind_some, e2]
        simp only [impl_ReflectWord.j0, Bool.not_false, if_true]
        rfl
      · rw [if_pos (by omega)]
        simp only [impl_ReflectWord.j0, if_true]
        rfl
    · have hG : GoodG l := (good_iff l).1 hg
      have hs : 0 ≤ s ∧ s < 2 ^ l.length := by simp only [Bool.and_eq_true] at e1; simpa [inSet] using e1.2
      have e3 := e2
      simp only [Bool.and_eq_true, decide_eq_true_eq] at e3
      obtain ⟨K2, hK2⟩ := impl_ReflectWord.loop l own hG w hw (btn_all e3.2) w.length 0 s (by omega) (by omega) hs.1 hs.2
      refine ⟨K + K2 + 1, fun k hk => ?_⟩
      obtain ⟨m, rfl⟩ : ∃ m, k = m + 1 := ⟨k - 1, by omega⟩
      obtain ⟨h1, h2⟩ := hK (m + 1) (by omega)
      show impl_ReflectWord.f (m + 1) l own s w = _
      unfold impl_ReflectWord.f
      rw [h1, Option.bind_some, if_pos rfl, if_neg (by omega), h2, Option.bind_some, e3.2]
      simp only [impl_ReflectWord.j0, Bool.not_true, Bool.false_eq_true, if_false]
      exact hK2 m (by omega)
theorem impl_ReflectSet.ev (l : List Int) (own : Bool) (s i : Int) : Ev (fun k => impl_ReflectSet.f k l own s i) (reflWord l s [i]) := by
  obtain ⟨K, hK⟩ := impl_ReflectWord.ev l own s [i] (by simp)
  refine ⟨K, fun k hk => ?_⟩
  have h1 : impl_ReflectWord.f k l own s [i] = _ := hK k hk
  show impl_ReflectSet.f k l own s i = _
  unfold impl_ReflectSet.f
  rw [h1]
  rfl
theorem spec_l1In.eq (x a b : Int) : spec_l1In.f x a b = some (decide (a ≤ x) && decide (x ≤ b)) := by
  unfold spec_l1In.f
  by_cases h : a ≤ x
  · rw [if_pos (by omega)]; simp [h]
  · rw [if_neg (by omega)]; simp [h]
theorem spec_l1All.loop (l : List Int) (a b : Int) (h : l.length < 4611686018427387904) (d : Nat) : ∀ i : Nat, l.length - i = d → i ≤ l.length → Ev (fun k => spec_l1All.l0 k a b l (l.length : Int) (i : Int)) ((l.drop i).all fun x => decide (a ≤ x) && decide (x ≤ b)) := by
  induction d with
  | zero =>
    intro i hd hi
    refine now fun k => ?_
    simp only [spec_l1All.l0]
    rw [if_neg (by omega), List.drop_eq_nil_of_le (by omega)]
    rfl
  | succ d ih =>
    intro i hd hi
    have hlt : i < l.length := by omega
    rw [drop_cons l i hlt, List.all_cons]
    by_cases e : (decide (a ≤ l[i]) && decide (l[i] ≤ b)) = true
    · refine Ev.step (f := fun k => spec_l1All.l0 k a b l (l.length : Int) ((i + 1 : Nat) : Int)) (fun k => ?_) (by rw [e, Bool.true_and]; exact ih (i + 1) (by omega) (by omega))
      simp only [spec_l1All.l0]
      rw [if_pos (by omega), if_pos (by omega), if_pos (by omega), rd_get l i hlt, spec_l1In.eq, e, wrap_succ i (by omega)]
      rfl
    · refine now fun k => ?_
      simp only [spec_l1All.l0]
      replace e := Bool.eq_false_iff.mpr e
      rw [if_pos (by omega), if_pos (by omega), if_pos (by omega), rd_get l i hlt, spec_l1In.eq, e]
      rfl
theorem spec_l1All.ev (l : List Int) (a b : Int) (h : l.length < 4611686018427387904) : Ev (fun k => spec_l1All.f k l a b) (l.all fun x => decide (a ≤ x) && decide (x ≤ b)) :=
  spec_l1All.loop l a b h l.length 0 (by omega) (by omega)
theorem spec_grIn.eq (x i : Int) (hx : 0 ≤ x) (hx1 : x < 2 ^ 63) (hi : 0 ≤ i) : spec_grIn.f x i = some (bit x i) := by unfold spec_grIn.f; rw [if_pos hi, in_bit hx hx1 hi]
theorem spec_grSize.eq (x : Int) : spec_grSize.f x = some (decide (1 ≤ x) && decide (x ≤ 16)) := by unfold spec_grSize.f; rw [spec_l1In.eq]; rfl
theorem spec_grGood.inner (l : List Int) (own : Bool) (hn : l.length ≤ 16) (hg : ∀ x ∈ l, 0 ≤ x ∧ x < 2 ^ l.length) (i : Nat) (hi : i < l.length) (r : Bool) (hr : Ev (fun k => spec_grGood.l0 k l (l.length : Int) ((i + 1 : Nat) : Int) l own) r) (d : Nat) :
    ∀ j : Nat, l.length - j = d → j ≤ l.length → Ev (fun k => spec_grGood.l1 k (i : Int) l[i] l (l.length : Int) (i : Int) (l.length : Int) (j : Int) l own) (((List.range' j (l.length - j)).all fun j => okPair l i j) && r) := by
  induction d with
  | zero =>
    intro j hd hj
    refine Ev.step (f := fun k => spec_grGood.l0 k l (l.length : Int) ((i + 1 : Nat) : Int) l own) (fun k => ?_) (by rw [hd]; simpa using hr)
    simp only [spec_grGood.l1]
    rw [if_neg (by omega), wrap_succ i (by omega)]
  | succ d ih =>
    intro j hd hj
    have hlt : j < l.length := by omega
    have hbi := set_bounds l hn hg i hi
    have hbj := set_bounds l hn hg j hlt
    rw [hd, List.range'_succ, List.all_cons, Bool.and_assoc]
    have ih' := ih (j + 1) (by omega) (by omega)
    rw [show l.length - (j + 1) = d by omega] at ih'
    have hb := spec_grIn.eq l[i] (j : Int) hbi.1 hbi.2 (by omega)
    have hb2 := spec_grIn.eq l[j] (i : Int) hbj.1 hbj.2 (by omega)
    have step : ∀ k, spec_grGood.l1 (k + 1) (i : Int) l[i] l (l.length : Int) (i : Int) (l.length : Int) (j : Int) l own = if okPair l i j = true then spec_grGood.l1 k (i : Int) l[i] l (l.length : Int) (i : Int) (l.length : Int) ((j + 1 : Nat) : Int) l own else some false := by
      intro k
      simp only [spec_grGood.l1]
      rw [if_pos (by omega), hb, Option.bind_some, okPair_eq l i j hi hlt]
      cases e1 : bit l[i] (j : Int)
      · simp only [Bool.false_eq_true, if_false, Bool.not_false, Bool.true_or, if_true]
        rw [wrap_succ j (by omega)]
      · simp only [if_true, Bool.not_true, Bool.false_or]
        by_cases e2 : i = j
        · subst e2
          simp
        · rw [if_neg (by omega), if_pos (by omega), if_pos (by omega), rd_get l j hlt, hb2, Option.bind_some, wrap_succ j (by omega)]
          simp [e2]
    cases e : okPair l i j
    · rw [Bool.false_and]
      exact now fun k => by rw [step k, e]; rfl
    · rw [Bool.true_and]
      exact Ev.step (fun k => by rw [step k, e]; rfl) ih'
theorem spec_grGood.outer (l : List Int) (own : Bool) (hn : l.length ≤ 16) (hg : ∀ x ∈ l, 0 ≤ x ∧ x < 2 ^ l.length) (d : Nat) :
    ∀ i : Nat, l.length - i = d → i ≤ l.length → Ev (fun k => spec_grGood.l0 k l (l.length : Int) (i : Int) l own) ((List.range' i (l.length - i)).all fun i => (List.range' 0 l.length).all fun j => okPair l i j) := by
  induction d with
  | zero =>
    intro i hd hi
    refine now fun k => ?_
    simp only [spec_grGood.l0]
    rw [if_neg (by omega), hd]
    rfl
  | succ d ih =>
    intro i hd hi
    have hlt : i < l.length := by omega
    rw [hd, List.range'_succ, List.all_cons]
    have ih' := ih (i + 1) (by omega) (by omega)
    rw [show l.length - (i + 1) = d by omega] at ih'
    refine Ev.step (f := fun k => spec_grGood.l1 k (i : Int) l[i] l (l.length : Int) (i : Int) (l.length : Int) ((0 : Nat) : Int) l own) (fun k => ?_) (spec_grGood.inner l own hn hg i hlt _ ih' l.length 0 (by omega) (by omega))
    simp only [spec_grGood.l0]
    rw [if_pos (by omega), if_pos (by omega), if_pos (by omega), rd_get l i hlt]
    rfl
theorem spec_grGood.ev (l : List Int) (own : Bool) (h : l.length < 4611686018427387904) : Ev (fun k => spec_grGood.f k l own) (good l) := by
  rw [good_eq]
  by_cases hn : 1 ≤ l.length ∧ l.length ≤ 16
  · have e1 : spec_grSize.f (l.length : Int) = some true := by rw [spec_grSize.eq, decide_eq_true (by omega), decide_eq_true (by omega)]; rfl
    have e2 := spec_l1All.ev l 0 (wrap64 ((shl .i64 1 (l.length : Int)) - 1)) h
    rw [whole_eq (by omega) (by omega)] at e2
    rw [show (decide (1 ≤ l.length ∧ l.length ≤ 16)) = true from decide_eq_true hn, Bool.true_and]
    have e3 : (l.all fun x => decide (0 ≤ x) && decide (x ≤ 2 ^ (l.length : Int).toNat - 1)) = l.all (inSet l.length) := by
      congr 1
      funext x
      unfold inSet
      rw [Int.toNat_natCast]
      congr 1
      rw [Bool.eq_iff_iff]
      simp only [decide_eq_true_eq]
      omega
    rw [e3] at e2
    obtain ⟨K, hK⟩ := e2
    by_cases hg : l.all (inSet l.length) = true
    · rw [hg, Bool.true_and]
      have hg' := inSet_all l hg
      obtain ⟨K2, hK2⟩ := spec_grGood.outer l own hn.2 hg' l.length 0 (by omega) (by omega)
      refine ⟨K + K2 + 1, fun k hk => ?_⟩
      obtain ⟨m, rfl⟩ : ∃ m, k = m + 1 := ⟨k - 1, by omega⟩
      have h1 : spec_l1All.f (m + 1) l 0 (2 ^ (l.length : Int).toNat - 1) = _ := hK (m + 1) (by omega)
      have h2 : spec_grGood.l0 m l (l.length : Int) ((0 : Nat) : Int) l own = _ := hK2 m (by omega)
      show spec_grGood.f (m + 1) l own = _
      unfold spec_grGood.f
      rw [e1, Option.bind_some, if_pos rfl, whole_eq (by omega) (by omega), h1, Option.bind_some, hg]
      simp only [spec_grGood.j0, Bool.not_true, Bool.false_eq_true, if_false]
      rw [Nat.sub_zero] at h2
      exact h2
    · replace hg := Bool.eq_false_iff.mpr hg
      rw [hg, Bool.false_and]
      refine ⟨K + 1, fun k hk => ?_⟩
      obtain ⟨m, rfl⟩ : ∃ m, k = m + 1 := ⟨k - 1, by omega⟩
      have h1 : spec_l1All.f (m + 1) l 0 (2 ^ (l.length : Int).toNat - 1) = _ := hK (m + 1) (by omega)
      show spec_grGood.f (m + 1) l own = _
      unfold spec_grGood.f
      rw [e1, Option.bind_some, if_pos rfl, whole_eq (by omega) (by omega), h1, Option.bind_some, hg]
      simp only [spec_grGood.j0, Bool.not_false, if_true]
  · have e1 : spec_grSize.f (l.length : Int) = some false := by
      rw [spec_grSize.eq]
      congr 1
      rw [Bool.and_eq_false_iff, decide_eq_false_iff_not, decide_eq_false_iff_not]
      omega
    rw [show (decide (1 ≤ l.length ∧ l.length ≤ 16)) = false from decide_eq_false hn, Bool.false_and]
    refine now fun k => ?_
    unfold spec_grGood.f
    rw [e1, Option.bind_some, if_neg (by decide)]
    simp only [spec_grGood.j0, if_true]
theorem spec_liGood.ev (l : List Int) (own : Bool) (h : l.length < 4611686018427387904) : Ev (fun k => spec_liGood.f k l own) (good l && decide (l.length ≤ 9)) := by
  obtain ⟨K, hK⟩ := spec_grGood.ev l own h
  refine ⟨K, fun k hk => ?_⟩
  have h1 : spec_grGood.f k l own = _ := hK k hk
  show spec_liGood.f k l own = _
  unfold spec_liGood.f
  rw [h1, Option.bind_some]
  cases good l
  · rfl
  · rw [if_pos rfl, Bool.true_and]
    congr 1
    rw [Bool.eq_iff_iff]
    simp only [decide_eq_true_eq]
    omega
theorem spec_grSet.ev (l : List Int) (own : Bool) (s : Int) (h : l.length < 4611686018427387904) : Ev (fun k => spec_grSet.f k l own s) (good l && inSet l.length s) := by
  obtain ⟨K, hK⟩ := spec_grGood.ev l own h
  refine ⟨K, fun k hk => ?_⟩
  have h1 : spec_grGood.f k l own = _ := hK k hk
  show spec_grSet.f k l own s = _
  unfold spec_grSet.f
  rw [h1, Option.bind_some]
  cases hg : good l
  · rfl
  · have hG := (good_iff l).1 hg
    have := hG.top
    rw [if_pos rfl, whole_eq (by omega) (by omega), spec_l1In.eq, Option.bind_some, Bool.true_and, inSet_eq]
theorem spec_liSet.ev (l : List Int) (own : Bool) (s : Int) (h : l.length < 4611686018427387904) : Ev (fun k => spec_liSet.f k l own s) (good l && decide (l.length ≤ 9) && inSet l.length s) := by
  obtain ⟨K, hK⟩ := ev_and (spec_liGood.ev l own h) (spec_grSet.ev l own s h)
  refine ⟨K, fun k hk => ?_⟩
  obtain ⟨h1, h2⟩ := hK k hk
  show spec_liSet.f k l own s = _
  unfold spec_liSet.f
  rw [h1, Option.bind_some, h2, Option.bind_some]
  cases good l <;> cases decide (l.length ≤ 9) <;> rfl
theorem spec_grCount.loop : ∀ (k : Nat) (x : Nat) (o : Int), k ≤ 63 → x < 2 ^ k → 0 ≤ o → o + 64 < 9223372036854775807 → o ≤ 63 - k → Ev (fun n => spec_grCount.l0 n (x : Int) o) (o + (cnt k x : Nat))
  | 0, x, o, _, hx, h0, h1, _ => by
    have : x = 0 := by omega
    subst this
    refine now fun k => ?_
    simp only [spec_grCount.l0]
    rw [if_neg (by decide)]
    simp [cnt]
  | k + 1, x, o, hk, hx, h0, h1, h2 => by
    by_cases e : x = 0
    · subst e
      refine now fun k => ?_
      simp only [spec_grCount.l0]
      rw [if_neg (by decide), cnt_zero]
      simp
    · have hx2 : x / 2 < 2 ^ k := by rw [Nat.pow_succ] at hx; omega
      have h63 : x < 2 ^ 63 := Nat.lt_of_lt_of_le hx (Nat.pow_le_pow_right (by decide) hk)
      have ih := spec_grCount.loop k (x / 2) (o + ((x % 2 : Nat) : Int)) (by omega) hx2 (by omega) (by omega) (by omega)
      rw [cnt, show o + ((x % 2 + cnt k (x / 2) : Nat) : Int) = o + ((x % 2 : Nat) : Int) + ((cnt k (x / 2) : Nat) : Int) by omega]
      refine Ev.step (f := fun n => spec_grCount.l0 n ((x / 2 : Nat) : Int) (o + ((x % 2 : Nat) : Int))) (fun n => ?_) ih
      simp only [spec_grCount.l0]
      rw [if_pos (by omega), Int.tdiv_eq_ediv_of_nonneg (by omega), Int.tmod_eq_emod_of_nonneg (by omega), wrap_id (by omega) (by omega), wrap_id (by omega) (by omega)]
      norm_cast
theorem spec_grCount.ev (x : Int) (h0 : 0 ≤ x) (h1 : x < 2 ^ 63) : Ev (fun k => spec_grCount.f k x) ((pop x.toNat : Nat) : Int) := by
  have := spec_grCount.loop 63 x.toNat 0 (by omega) (by omega) (by omega) (by omega) (by omega)
  rw [Int.toNat_of_nonneg h0, Int.zero_add] at this
  rw [pop_cnt 63 x.toNat (by omega)]
  exact this
theorem spec_liReflect.ev (l : List Int) (own : Bool) (hG : GoodG l) (s i : Int) (h0 : 0 ≤ s) (h1 : s < 2 ^ l.length) (g0 : 0 ≤ i) (g1 : i < l.length) : Ev (fun k => spec_liReflect.f k l own s i) (reflOne l s i) := by
  have h16 := pow16 hG.top
  have := hG.top
  have hm := hG.sets (rd l i) (rd_mem l _ g0 g1)
  have hp : (2 ^ i.toNat : Nat) < 2 ^ l.length := Nat.pow_lt_pow_right (by decide) (by omega)
  have hp0 : (0 : Int) ≤ ((2 ^ i.toNat : Nat) : Int) := Int.natCast_nonneg _
  have hc : ((2 ^ l.length : Nat) : Int) = 2 ^ l.length := by norm_cast
  have hle : (rd l i).toNat &&& s.toNat ≤ s.toNat := Nat.and_le_right
  obtain ⟨K, hK⟩ := spec_grCount.ev (((rd l i).toNat &&& s.toNat : Nat) : Int) (by omega) (by omega)
  refine ⟨K, fun k hk => ?_⟩
  have hk1 : spec_grCount.f k (((rd l i).toNat &&& s.toNat : Nat) : Int) = _ := hK k hk
  show spec_liReflect.f k l own s i = _
  unfold spec_liReflect.f
  rw [if_pos g0, if_pos g1, and_eq hm.1 (by omega) h0 (by omega), hk1, Option.bind_some, shl_one g0 (by omega), xor_eq h0 (by omega) (by omega) (by omega), Int.toNat_natCast, Int.toNat_natCast, Int.tmod_eq_emod_of_nonneg (Int.natCast_nonneg _)]
  unfold reflOne
  by_cases e : pop ((rd l i).toNat &&& s.toNat) % 2 = 1
  · rw [if_pos (by omega), if_pos e]
  · rw [if_neg (by omega), if_neg e]
theorem spec_ReflectSet.ev (l : List Int) (own : Bool) (s i : Int) (h : l.length < 4611686018427387904) : Ev (fun k => spec_ReflectSet.f k l own s i) (reflWord l s [i]) := by
  obtain ⟨K, hK⟩ := spec_liSet.ev l own s h
  unfold reflWord
  cases e1 : (good l && decide (l.length ≤ 9) && inSet l.length s)
  · refine ⟨K, fun k hk => ?_⟩
    have h1 : spec_liSet.f k l own s = _ := hK k hk
    show spec_ReflectSet.f k l own s i = _
    unfold spec_ReflectSet.f
    rw [h1, Option.bind_some, e1]
    rfl
  · have hG : GoodG l := (good_iff l).1 (by simp only [Bool.and_eq_true] at e1; exact e1.1.1)
    have hs : 0 ≤ s ∧ s < 2 ^ l.length := by simp only [Bool.and_eq_true] at e1; simpa [inSet] using e1.2
    have hp := pow16 hG.top
    cases e2 : isBtn l.length i
    · refine ⟨K, fun k hk => ?_⟩
      have h1 : spec_liSet.f k l own s = _ := hK k hk
      show spec_ReflectSet.f k l own s i = _
      unfold spec_ReflectSet.f
      rw [h1, Option.bind_some, e1, if_pos rfl, if_pos rfl, wrap_id (by omega) (by have := hG.top; omega), spec_l1In.eq, Option.bind_some, show (decide (0 ≤ i) && decide (i ≤ (l.length : Int) - 1)) = isBtn l.length i from rfl]
      simp [e2]
    · have hb : 0 ≤ i ∧ i < l.length := by simp only [isBtn, Bool.and_eq_true, decide_eq_true_eq] at e2; omega
      obtain ⟨K2, hK2⟩ := spec_liReflect.ev l own hG s i hs.1 hs.2 hb.1 hb.2
      refine ⟨K + K2, fun k hk => ?_⟩
      have h1 : spec_liSet.f k l own s = _ := hK k (by omega)
      have h2 : spec_liReflect.f k l own s i = _ := hK2 k (by omega)
      show spec_ReflectSet.f k l own s i = _
      unfold spec_ReflectSet.f
      rw [h1, Option.bind_some, e1, if_pos rfl, if_pos rfl, wrap_id (by omega) (by have := hG.top; omega), spec_l1In.eq, Option.bind_some, show (decide (0 ≤ i) && decide (i ≤ (l.length : Int) - 1)) = isBtn l.length i from rfl, e2, if_pos rfl, h2, Option.bind_some, show (decide ([i].length ≤ 200) && [i].all (isBtn l.length)) = true by rw [List.all_cons, e2]; rfl, if_pos rfl]
      rfl
theorem impl_Graph_edges.row (l : List Int) (own : Bool) (hG : GoodG l) (i : Nat) (hi : i < l.length) (r : List (List Int)) (n : Int) (d : Nat) :
    ∀ (j : Nat) (o : List (List Int)), l.length - j = d → j ≤ l.length → o.length + d ≤ 1000 → Ev (fun k => impl_Graph_edges.l0 k (o ++ rowEdges l i j d) l n (wrap64 ((i : Int) + 1)) l own) r →
      Ev (fun k => impl_Graph_edges.l1 k o (i : Int) (rd l (i : Int)) (j : Int) l n (i : Int) l own) r := by
  have h16 := pow16 hG.top
  have ht := hG.top
  have hm := hG.sets (rd l (i : Int)) (rd_mem l _ (by omega) (by omega))
  induction d with
  | zero =>
    intro j o hd hj ho h
    rw [show rowEdges l i j 0 = [] from rfl, List.append_nil] at h
    refine Ev.step (f := fun k => impl_Graph_edges.l0 k o l n (wrap64 ((i : Int) + 1)) l own) (fun k => ?_) h
    simp only [impl_Graph_edges.l1]
    rw [if_neg (by omega)]
  | succ d ih =>
    intro j o hd hj ho h
    have hin := impl_has.eq (rd l (i : Int)) (j : Int) hm.1 (by omega) (by omega)
    unfold rowEdges at h
    cases e : bit (rd l (i : Int)) (j : Int)
    · rw [e, if_neg (by decide)] at h
      refine Ev.step (f := fun k => impl_Graph_edges.l1 k o (i : Int) (rd l (i : Int)) ((j + 1 : Nat) : Int) l n (i : Int) l own) (fun k => ?_) (ih (j + 1) o (by omega) (by omega) (by omega) h)
      simp only [impl_Graph_edges.l1]
      rw [if_pos (by omega), hin, Option.bind_some, e, if_neg (by decide), wrap_succ j (by omega)]
    · rw [e, if_pos rfl] at h
      refine Ev.step (f := fun k => impl_Graph_edges.l1 k (o ++ [[(i : Int), (j : Int)]]) (i : Int) (rd l (i : Int)) ((j + 1 : Nat) : Int) l n (i : Int) l own) (fun k => ?_) (ih (j + 1) (o ++ [[(i : Int), (j : Int)]]) (by omega) (by omega) (by simp; omega) (by rw [List.append_assoc]; exact h))
      simp only [impl_Graph_edges.l1]
      rw [if_pos (by omega), hin, Option.bind_some, e, if_pos rfl, if_pos (by omega), wrap_succ j (by omega)]
theorem impl_Graph_edges.loop (l : List Int) (own : Bool) (hG : GoodG l) (d : Nat) :
    ∀ (i : Nat) (o : List (List Int)), l.length - i = d → i ≤ l.length → o.length + d * 20 ≤ 900 → Ev (fun k => impl_Graph_edges.l0 k o l (l.length : Int) (i : Int) l own) (o ++ edgesFrom l i d) := by
  have h16 := hG.top
  induction d with
  | zero =>
    intro i o hd hi ho
    refine now fun k => ?_
    simp only [impl_Graph_edges.l0]
    rw [if_neg (by omega), show edgesFrom l i 0 = [] from rfl, List.append_nil]
  | succ d ih =>
    intro i o hd hi ho
    have hl := rowEdges_length l i d (i + 1)
    have h := ih (i + 1) (o ++ rowEdges l i (i + 1) d) (by omega) (by omega) (by rw [List.length_append]; omega)
    rw [← wrap_succ i (by omega), List.append_assoc] at h
    have h2 := impl_Graph_edges.row l own hG i (by omega) (o ++ (rowEdges l i (i + 1) d ++ edgesFrom l (i + 1) d)) (l.length : Int) d (i + 1) o (by omega) (by omega) (by omega) h
    rw [show edgesFrom l i (d + 1) = rowEdges l i (i + 1) d ++ edgesFrom l (i + 1) d from rfl]
    refine Ev.step (f := fun k => impl_Graph_edges.l1 k o (i : Int) (rd l (i : Int)) ((i + 1 : Nat) : Int) l (l.length : Int) (i : Int) l own) (fun k => ?_) h2
    simp only [impl_Graph_edges.l0]
    rw [if_pos (by omega), if_pos (by omega), if_pos (by omega), wrap_succ i (by omega)]
theorem impl_Graph_edges.ev (l : List Int) (own : Bool) (hG : GoodG l) : Ev (fun k => impl_Graph_edges.f k l own) (edgesOf l) := by
  have h16 := hG.top
  have := impl_Graph_edges.loop l own hG l.length 0 [] (by omega) (by omega) (by simp; omega)
  rw [List.nil_append] at this
  exact this
theorem impl_Graph_form.loop (s : Int) (h0 : 0 ≤ s) (h1 : s < 65536) (E : List (List Int)) (hE : E.length ≤ 1000) (hp : ∀ e ∈ E, e.length = 2 ∧ 0 ≤ rd e 0 ∧ 0 ≤ rd e 1) (d : Nat) :
    ∀ (i : Nat) (o : Nat), E.length - i = d → i ≤ E.length → o ≤ 1000 + i → Ev (fun k => impl_Graph_form.l0 k s (o : Int) E (E.length : Int) (i : Int)) (((o + (E.drop i).countP (within s)) % 2 : Nat) : Int) := by
  induction d with
  | zero =>
    intro i o hd hi ho
    refine now fun k => ?_
    simp only [impl_Graph_form.l0]
    rw [if_neg (by omega), List.drop_eq_nil_of_le (by omega), Int.tmod_eq_emod_of_nonneg (by omega)]
    simp
  | succ d ih =>
    intro i o hd hi ho
    have hlt : i < E.length := by omega
    have hx := hp E[i] (List.getElem_mem _)
    have hg : rd_L2 E (i : Int) = E[i] := by unfold rd_L2; simp [List.getD_eq_getElem?_getD, List.getElem?_eq_getElem hlt]
    have a0 := impl_has.eq s (rd E[i] 0) h0 (by omega) hx.2.1
    have a1 := impl_has.eq s (rd E[i] 1) h0 (by omega) hx.2.2
    rw [drop_cons E i hlt, List.countP_cons]
    have ew : within s E[i] = (bit s (rd E[i] 0) && bit s (rd E[i] 1)) := rfl
    by_cases e : within s E[i] = true
    · rw [if_pos e]
      rw [ew, Bool.and_eq_true] at e
      have ih' := ih (i + 1) (o + 1) (by omega) (by omega) (by omega)
      rw [show o + 1 + (E.drop (i + 1)).countP (within s) = o + ((E.drop (i + 1)).countP (within s) + 1) by omega] at ih'
      refine Ev.step (f := fun k => impl_Graph_form.l0 k s ((o + 1 : Nat) : Int) E (E.length : Int) ((i + 1 : Nat) : Int)) (fun k => ?_) ih'
      simp only [impl_Graph_form.l0]
      rw [if_pos (by omega), if_pos (by omega), if_pos (by omega), hg, if_pos (by omega), a0, Option.bind_some, e.1, if_pos rfl, if_pos (by omega), a1, Option.bind_some, e.2, if_pos rfl, wrap_succ i (by omega), wrap_succ o (by omega)]
    · rw [if_neg e, Nat.add_zero]
      refine Ev.step (f := fun k => impl_Graph_form.l0 k s (o : Int) E (E.length : Int) ((i + 1 : Nat) : Int)) (fun k => ?_) (ih (i + 1) o (by omega) (by omega) (by omega))
      simp only [impl_Graph_form.l0]
      rw [if_pos (by omega), if_pos (by omega), if_pos (by omega), hg, if_pos (by omega), a0, Option.bind_some, a1, wrap_succ i (by omega)]
      rw [ew, Bool.and_eq_true] at e
      cases e0 : bit s (rd E[i] 0)
      · rw [if_neg (by decide)]
      · cases e1 : bit s (rd E[i] 1)
        · rw [if_pos rfl, if_pos (by omega), Option.bind_some, if_neg (by decide)]
        · exact absurd ⟨e0, e1⟩ e
theorem impl_Graph_form.ev (l : List Int) (own : Bool) (hG : GoodG l) (s : Int) (h0 : 0 ≤ s) (h1 : s < 2 ^ l.length) : Ev (fun k => impl_Graph_form.f k l own s) (formOf l s) := by
  have h16 := pow16 hG.top
  have ht := hG.top
  have hs : s.toNat < 2 ^ l.length := by
    have : ((2 ^ l.length : Nat) : Int) = 2 ^ l.length := by norm_cast
    omega
  have hle := pop_le (k := l.length) (by omega) hs
  have hE : (edgesOf l).length ≤ 256 := Nat.le_trans (edgesFrom_length l l.length l.length 0 (Nat.le_refl _)) (Nat.mul_le_mul ht ht)
  obtain ⟨K, hK⟩ := ev_and (impl_Graph_edges.ev l own hG) (impl_Graph_form.loop s h0 (by omega) (edgesOf l) (by omega) (edgesOf_pairs l) (edgesOf l).length 0 (pop s.toNat) (by omega) (by omega) (by omega))
  refine ⟨K, fun k hk => ?_⟩
  obtain ⟨k1, k2⟩ := hK k hk
  show impl_Graph_form.f k l own s = _
  unfold impl_Graph_form.f
  rw [impl_count.eq s h0 (by omega), Option.bind_some, k1, Option.bind_some]
  exact k2
theorem impl_FormOf.ev (l : List Int) (own : Bool) (s : Int) : Ev (fun k => impl_FormOf.f k l own s) (if (good l && decide (l.length ≤ 9) && inSet l.length s) = true then (formOf l s, true) else (0, false)) := by
  obtain ⟨K, hK⟩ := impl_isLit.ev l own [s]
  have ea : (good l && [s].all (inSet l.length) && decide (l.length ≤ 9)) = (good l && decide (l.length ≤ 9) && inSet l.length s) := by
    simp only [List.all_cons, List.all_nil, Bool.and_true]
    cases good l <;> cases inSet l.length s <;> cases decide (l.length ≤ 9) <;> rfl
  rw [ea] at hK
  cases e1 : (good l && decide (l.length ≤ 9) && inSet l.length s)
  · refine ⟨K, fun k hk => ?_⟩
    have h1 : impl_isLit.f k l own [s] = _ := hK k hk
    show impl_FormOf.f k l own s = _
    unfold impl_FormOf.f
    rw [h1, Option.bind_some, e1]
    rfl
  · have hG : GoodG l := (good_iff l).1 (by simp only [Bool.and_eq_true] at e1; exact e1.1.1)
    have hs : 0 ≤ s ∧ s < 2 ^ l.length := by simp only [Bool.and_eq_true] at e1; simpa [inSet] using e1.2
    obtain ⟨K2, hK2⟩ := impl_Graph_form.ev l own hG s hs.1 hs.2
    refine ⟨K + K2, fun k hk => ?_⟩
    have h1 : impl_isLit.f k l own [s] = _ := hK k (by omega)
    have h2 : impl_Graph_form.f k l own s = _ := hK2 k (by omega)
    show impl_FormOf.f k l own s = _
    unfold impl_FormOf.f
    rw [h1, Option.bind_some, e1, if_pos rfl, if_pos rfl, h2, Option.bind_some]
theorem impl_Graph_toggles.eq (l : List Int) (own : Bool) (hG : GoodG l) (i : Nat) (hi : i < l.length) : impl_Graph_toggles.f l own (i : Int) = some (togg l own i) := by
  have h16 := hG.top
  have hx := hG.sets (rd l (i : Int)) (rd_mem l _ (by omega) (by omega))
  have hp := pow16 hG.top
  unfold impl_Graph_toggles.f togg
  cases own
  · rw [if_neg (by decide), if_pos (by omega), if_pos (by omega), if_neg (by decide)]
  · have h2 : (2 : Nat) ^ i < 2 ^ 63 := Nat.pow_lt_pow_right (by decide) (by omega)
    rw [if_pos rfl, if_pos (by omega), if_pos (by omega), if_pos rfl, shl_one (by omega) (by omega), Int.toNat_natCast, or_eq hx.1 (by omega) (Int.natCast_nonneg _) (by exact_mod_cast h2)]
    rfl
theorem impl_Graph_effect.loop (l : List Int) (own : Bool) (hG : GoodG l) (s : Int) (h0 : 0 ≤ s) (h1 : s < 2 ^ l.length) : ∀ (d i o : Nat), i + d = l.length → o < 2 ^ l.length → Ev (fun k => impl_Graph_effect.l0 k s (o : Int) (l.length : Int) (i : Int) l own) (effFrom l own s d i o : Int)
  | 0, i, o, hd, ho => by
    refine now fun k => ?_
    simp only [impl_Graph_effect.l0]
    rw [if_neg (by omega)]
    rfl
  | d + 1, i, o, hd, ho => by
    have h16 := pow16 hG.top
    have ht := hG.top
    have hc := pow_cast l.length
    have hb := togg_bounds l own hG i (by omega)
    have hin := impl_has.eq s (i : Int) h0 (by omega) (by omega)
    have htg := impl_Graph_toggles.eq l own hG i (by omega)
    unfold effFrom
    cases e : bit s (i : Int)
    · refine Ev.step (f := fun k => impl_Graph_effect.l0 k s (o : Int) (l.length : Int) ((i + 1 : Nat) : Int) l own) (fun k => ?_) (by simpa only [Bool.false_eq_true, if_false] using impl_Graph_effect.loop l own hG s h0 h1 d (i + 1) o (by omega) ho)
      simp only [impl_Graph_effect.l0]
      rw [if_pos (by omega), hin, Option.bind_some, e, if_neg (by decide), wrap_succ i (by omega)]
    · have hx : o ^^^ (togg l own i).toNat < 2 ^ l.length := Nat.xor_lt_two_pow ho (by omega)
      refine Ev.step (f := fun k => impl_Graph_effect.l0 k s ((o ^^^ (togg l own i).toNat : Nat) : Int) (l.length : Int) ((i + 1 : Nat) : Int) l own) (fun k => ?_) (by simpa only [if_true] using impl_Graph_effect.loop l own hG s h0 h1 d (i + 1) _ (by omega) hx)
      simp only [impl_Graph_effect.l0]
      rw [if_pos (by omega), hin, Option.bind_some, e, if_pos rfl, htg, Option.bind_some, xor_eq (by omega) (by omega) hb.1 (by omega), Int.toNat_natCast, wrap_succ i (by omega)]
theorem impl_Graph_effect.ev (l : List Int) (own : Bool) (hG : GoodG l) (s : Int) (h0 : 0 ≤ s) (h1 : s < 2 ^ l.length) : Ev (fun k => impl_Graph_effect.f k l own s) (effFrom l own s l.length 0 0 : Int) :=
  impl_Graph_effect.loop l own hG s h0 h1 l.length 0 0 (by omega) (Nat.two_pow_pos _)
theorem impl_PressAll.ev (l : List Int) (own : Bool) (s p : Int) : Ev (fun k => impl_PressAll.f k l own s p) (pressAll l own s p) := by
  obtain ⟨K, hK⟩ := ev_get (impl_isSet.ev l own [s, p])
  unfold pressAll
  cases e1 : (good l && inSet l.length s)
  · refine ⟨K, fun k hk => ?_⟩
    show impl_PressAll.f k l own s p = _
    unfold impl_PressAll.f
    rw [hK k hk, Option.bind_some, if_neg (by simp only [List.all_cons, List.all_nil, Bool.and_true]; rw [← Bool.and_assoc, e1]; simp)]
    rfl
  · cases e2 : inSet l.length p
    · refine ⟨K, fun k hk => ?_⟩
      show impl_PressAll.f k l own s p = _
      unfold impl_PressAll.f
      rw [hK k hk, Option.bind_some, if_neg (by simp only [List.all_cons, List.all_nil, Bool.and_true]; rw [← Bool.and_assoc, e1, e2]; simp)]
      rfl
    · simp only [Bool.and_eq_true] at e1
      have hG := (good_iff l).1 e1.1
      obtain ⟨hs0, hs1, hs2⟩ := inSet_lt e1.2
      obtain ⟨hp0, hp1, hp2⟩ := inSet_lt e2
      have hc := pow_cast l.length
      have h16 := pow16 hG.top
      obtain ⟨K2, hK2⟩ := ev_get (impl_Graph_effect.ev l own hG p hp0 (by omega))
      have hlt := eff_lt l own hG p.toNat
      refine ⟨K + K2, fun k hk => ?_⟩
      show impl_PressAll.f k l own s p = _
      unfold impl_PressAll.f
      rw [hK k (by omega), Option.bind_some, if_pos (by simp [e1.1, e1.2, e2]), hK2 k (by omega), Option.bind_some, effFrom_eff, xor_eq hs0 (by omega) (by omega) (by omega)]
      rfl
theorem impl_EffectOf.ev (l : List Int) (own : Bool) (p : Int) : Ev (fun k => impl_EffectOf.f k l own p) (pressAll l own 0 p) := by
  obtain ⟨K, hK⟩ := ev_get (impl_PressAll.ev l own 0 p)
  refine ⟨K, fun k hk => ?_⟩
  show impl_EffectOf.f k l own p = _
  unfold impl_EffectOf.f
  rw [hK k hk]
  rfl
theorem impl_LitWord.loop (l : List Int) (own : Bool) (hG : GoodG l) (w : List Int) (hw : w.length < 4611686018427387904) (hb : ∀ x ∈ w, 0 ≤ x ∧ x < l.length) (d : Nat) :
    ∀ (i : Nat) (s : Int), w.length - i = d → i ≤ w.length → 0 ≤ s → s < 2 ^ l.length → Ev (fun k => impl_LitWord.l0 k s w (w.length : Int) (i : Int) l own) (litGo l s (w.drop i)) := by
  have h16 := pow16 hG.top
  induction d with
  | zero =>
    intro i s hd hi h0 h1
    refine now fun k => ?_
    simp only [impl_LitWord.l0]
    rw [if_neg (by omega), List.drop_eq_nil_of_le (by omega)]
    rfl
  | succ d ih =>
    intro i s hd hi h0 h1
    have hlt : i < w.length := by omega
    have hx := hb w[i] (List.getElem_mem _)
    rw [drop_cons w i hlt, litGo]
    have hin := impl_has.eq s w[i] h0 (by omega) hx.1
    cases e : bit s w[i]
    · refine now fun k => ?_
      simp only [impl_LitWord.l0]
      rw [if_pos (by omega), if_pos (by omega), if_pos (by omega), rd_get w i hlt, hin, Option.bind_some, e]
      rfl
    · have hm := hG.sets (rd l w[i]) (rd_mem l _ hx.1 hx.2)
      refine Ev.step (f := fun k => impl_LitWord.l0 k ((s.toNat ^^^ (rd l w[i]).toNat : Nat) : Int) w (w.length : Int) ((i + 1 : Nat) : Int) l own) (fun k => ?_) (ih (i + 1) _ (by omega) (by omega) (by omega) (xor_lt h1 hm.2 h0 hm.1))
      simp only [impl_LitWord.l0]
      rw [if_pos (by omega), if_pos (by omega), if_pos (by omega), rd_get w i hlt, hin, Option.bind_some, e, if_pos rfl, if_pos hx.1, if_pos hx.2, xor_eq h0 (by omega) hm.1 (by omega), wrap_succ i (by omega)]
theorem impl_LitWord.ev (l : List Int) (own : Bool) (s : Int) (w : List Int) (hw : w.length < 4611686018427387904) : Ev (fun k => impl_LitWord.f k l own s w) (litWord l s w) := by
  obtain ⟨K, hK⟩ := ev_and (impl_isLit.ev l own [s]) (impl_hasButton.ev l own w)
  have ea : (good l && [s].all (inSet l.length) && decide (l.length ≤ 9)) = (good l && decide (l.length ≤ 9) && inSet l.length s) := by
    simp only [List.all_cons, List.all_nil, Bool.and_true]
    cases good l <;> cases inSet l.length s <;> cases decide (l.length ≤ 9) <;> rfl
  rw [ea] at hK
  unfold litWord
  cases e1 : (good l && decide (l.length ≤ 9) && inSet l.length s)
  · refine ⟨K + 1, fun k hk => ?_⟩
    obtain ⟨m, rfl⟩ : ∃ m, k = m + 1 := ⟨k - 1, by omega⟩
    obtain ⟨h1, h2⟩ := hK (m + 1) (by omega)
    show impl_LitWord.f (m + 1) l own s w = _
    unfold impl_LitWord.f
    rw [h1, Option.bind_some, e1, if_neg (by decide)]
    simp only [impl_LitWord.j0, if_true]
    rfl
  · have hg : good l = true := by simp only [Bool.and_eq_true] at e1; exact e1.1.1
    rw [e1, hg, Bool.true_and] at hK
    cases e2 : (decide (w.length ≤ 200) && w.all (isBtn l.length))
    · refine ⟨K + 1, fun k hk => ?_⟩
      obtain ⟨m, rfl⟩ : ∃ m, k = m + 1 := ⟨k - 1, by omega⟩
      obtain ⟨h1, h2⟩ := hK (m + 1) (by omega)
      show impl_LitWord.f (m + 1) l own s w = _
      unfold impl_LitWord.f
      rw [h1, Option.bind_some, if_pos rfl]
      by_cases hl : w.length ≤ 200
      · rw [decide_eq_true hl, Bool.true_and] at e2
        rw [if_neg (by omega), h2, Option.bind_some, e2]
        simp only [impl_LitWord.j0, Bool.not_false, if_true]
        rfl
      · rw [if_pos (by omega)]
        simp only [impl_LitWord.j0, if_true]
        rfl
    · have hG : GoodG l := (good_iff l).1 hg
      have hs : 0 ≤ s ∧ s < 2 ^ l.length := by simp only [Bool.and_eq_true] at e1; simpa [inSet] using e1.2
      have e3 := e2
      simp only [Bool.and_eq_true, decide_eq_true_eq] at e3
      obtain ⟨K2, hK2⟩ := impl_LitWord.loop l own hG w hw (btn_all e3.2) w.length 0 s (by omega) (by omega) hs.1 hs.2
      refine ⟨K + K2 + 1, fun k hk => ?_⟩
      obtain ⟨m, rfl⟩ : ∃ m, k = m + 1 := ⟨k - 1, by omega⟩
      obtain ⟨h1, h2⟩ := hK (m + 1) (by omega)
      show impl_LitWord.f (m + 1) l own s w = _
      unfold impl_LitWord.f
      rw [h1, Option.bind_some, if_pos rfl, if_neg (by omega), h2, Option.bind_some, e3.2]
      simp only [impl_LitWord.j0, Bool.not_true, Bool.false_eq_true, if_false]
      exact hK2 m (by omega)
theorem impl_LitPress.ev (l : List Int) (own : Bool) (s i : Int) : Ev (fun k => impl_LitPress.f k l own s i) (litWord l s [i]) := by
  obtain ⟨K, hK⟩ := impl_LitWord.ev l own s [i] (by simp)
  refine ⟨K, fun k hk => ?_⟩
  have h1 : impl_LitWord.f k l own s [i] = _ := hK k hk
  show impl_LitPress.f k l own s i = _
  unfold impl_LitPress.f
  rw [h1]
  rfl
theorem spec_liWord.ev (l : List Int) (own : Bool) (w : List Int) (h : l.length < 4611686018427387904) (hw : w.length < 4611686018427387904) : Ev (fun k => spec_liWord.f k l own w) (decide (w.length ≤ 200) && w.all (isBtn l.length)) := by
  obtain ⟨K, hK⟩ := spec_l1All.ev w 0 (wrap64 ((l.length : Int) - 1)) hw
  refine ⟨K, fun k hk => ?_⟩
  have h1 : spec_l1All.f k w 0 (wrap64 ((l.length : Int) - 1)) = _ := hK k hk
  show spec_liWord.f k l own w = _
  unfold spec_liWord.f
  rw [h1]
  by_cases e : w.length ≤ 200
  · rw [if_pos (by omega), decide_eq_true e, Option.bind_some, Bool.true_and, wrap_id (by omega) (by omega)]
    rfl
  · rw [if_neg (by omega), decide_eq_false e, Bool.false_and]
theorem spec_ReflectWord.loop (l : List Int) (own : Bool) (hG : GoodG l) (w : List Int) (hw : w.length < 4611686018427387904) (hb : ∀ x ∈ w, 0 ≤ x ∧ x < l.length) (d : Nat) :
    ∀ (i : Nat) (s : Int), w.length - i = d → i ≤ w.length → 0 ≤ s → s < 2 ^ l.length → Ev (fun k => spec_ReflectWord.l0 k s w (w.length : Int) (i : Int) l own) (reflGo l s (w.drop i), true) := by
  induction d with
  | zero =>
    intro i s hd hi h0 h1
    refine now fun k => ?_
    simp only [spec_ReflectWord.l0]
    rw [if_neg (by omega), List.drop_eq_nil_of_le (by omega)]
    rfl
  | succ d ih =>
    intro i s hd hi h0 h1
    have hlt : i < w.length := by omega
    have hx := hb w[i] (List.getElem_mem _)
    have hm := reflOne_bounds l s w[i] h0 h1 hx.1 hx.2
    rw [drop_cons w i hlt, reflGo]
    obtain ⟨K, hK⟩ := ev_and (spec_liReflect.ev l own hG s w[i] h0 h1 hx.1 hx.2) (ih (i + 1) _ (by omega) (by omega) hm.1 hm.2)
    refine ⟨K + 1, fun k hk => ?_⟩
    obtain ⟨m, rfl⟩ : ∃ m, k = m + 1 := ⟨k - 1, by omega⟩
    obtain ⟨k1, k2⟩ := hK m (by omega)
    simp only [spec_ReflectWord.l0]
    rw [if_pos (by omega), if_pos (by omega), if_pos (by omega), rd_get w i hlt, k1, Option.bind_some, wrap_succ i (by omega), k2]
theorem spec_ReflectWord.ev (l : List Int) (own : Bool) (s : Int) (w : List Int) (h : l.length < 4611686018427387904) (hw : w.length < 4611686018427387904) : Ev (fun k => spec_ReflectWord.f k l own s w) (reflWord l s w) := by
  obtain ⟨K, hK⟩ := ev_and (spec_liSet.ev l own s h) (spec_liWord.ev l own w h hw)
  unfold reflWord
  cases e1 : (good l && decide (l.length ≤ 9) && inSet l.length s)
  · refine ⟨K + 1, fun k hk => ?_⟩
    obtain ⟨m, rfl⟩ : ∃ m, k = m + 1 := ⟨k - 1, by omega⟩
    obtain ⟨h1, h2⟩ := hK (m + 1) (by omega)
    show spec_ReflectWord.f (m + 1) l own s w = _
    unfold spec_ReflectWord.f
    rw [h1, Option.bind_some, e1, if_neg (by decide)]
    simp only [spec_ReflectWord.j0, if_true]
    rfl
  · cases e2 : (decide (w.length ≤ 200) && w.all (isBtn l.length))
    · refine ⟨K + 1, fun k hk => ?_⟩
      obtain ⟨m, rfl⟩ : ∃ m, k = m + 1 := ⟨k - 1, by omega⟩
      obtain ⟨h1, h2⟩ := hK (m + 1) (by omega)
      show spec_ReflectWord.f (m + 1) l own s w = _
      unfold spec_ReflectWord.f
      rw [h1, Option.bind_some, e1, if_pos rfl, h2, Option.bind_some, e2]
      simp only [spec_ReflectWord.j0, Bool.not_false, if_true]
      rfl
    · have hG : GoodG l := (good_iff l).1 (by simp only [Bool.and_eq_true] at e1; exact e1.1.1)
      have hs : 0 ≤ s ∧ s < 2 ^ l.length := by simp only [Bool.and_eq_true] at e1; simpa [inSet] using e1.2
      have hb : ∀ x ∈ w, 0 ≤ x ∧ x < l.length := by simp only [Bool.and_eq_true] at e2; exact btn_all e2.2
      obtain ⟨K2, hK2⟩ := spec_ReflectWord.loop l own hG w hw hb w.length 0 s (by omega) (by omega) hs.1 hs.2
      refine ⟨K + K2 + 1, fun k hk => ?_⟩
      obtain ⟨m, rfl⟩ : ∃ m, k = m + 1 := ⟨k - 1, by omega⟩
      obtain ⟨h1, h2⟩ := hK (m + 1) (by omega)
      show spec_ReflectWord.f (m + 1) l own s w = _
      unfold spec_ReflectWord.f
      rw [h1, Option.bind_some, e1, if_pos rfl, h2, Option.bind_some, e2]
      simp only [spec_ReflectWord.j0, Bool.not_true, Bool.false_eq_true, if_false]
      exact hK2 m (by omega)
end Go.Proofs.YtjocpjjimhefjaaGreat.Pure
