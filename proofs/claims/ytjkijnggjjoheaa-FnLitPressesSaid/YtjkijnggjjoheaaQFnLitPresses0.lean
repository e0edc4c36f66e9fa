/- What the functions of FnLitPresses compute, in plain words. -/
import Derived.Test.YtjkijnggjjoheaaPFnLitPressesx
import Derived.Test.YtjkijnggjjoheaaM1
import Derived.Test.YtjkijnggjjoheaaM2
import Derived.Test.YtjkijnggjjoheaaM3
import Derived.Test.YtjkijnggjjoheaaM4
import Derived.Test.YtjkijnggjjoheaaM5
import Derived.Test.YtjkijnggjjoheaaM6
import Derived.Test.YtjkijnggjjoheaaM7
import Derived.Test.YtjkijnggjjoheaaM8
import Derived.Test.YtjkijnggjjoheaaM9
import Derived.Test.YtjkijnggjjoheaaM10
import Derived.Test.YtjkijnggjjoheaaM11
import Derived.Test.YtjkijnggjjoheaaM12
import Derived.Test.YtjkijnggjjoheaaM13
import Derived.Test.YtjkijnggjjoheaaM14
import Derived.Test.YtjkijnggjjoheaaM17
import Derived.Test.YtjkijnggjjoheaaM18
import Derived.Test.YtjkijnggjjoheaaM19
namespace Go.Proofs.Ytjkijnggjjoheaa.Pure
open Go.RowKit Go.Proofs.Ytjkijnggjjoheaa.PFnLitPresses Go.Proofs.YtjkijnggjjoheaaW.PrintWords Go.Proofs.YtjkijnggjjoheaaW.PrintLast Go.Proofs.YtjkijnggjjoheaaW.PrintMore Go.Proofs.YtjkijnggjjoheaaM
set_option linter.unusedVariables false
set_option linter.unusedSimpArgs false
/-! laws_hSame -/
theorem laws_hSame.loop (a b : List Int) (hl : a.length = b.length) (h : a.length < 4611686018427387904) (d : Nat) : ∀ i : Nat, a.length - i = d → i ≤ a.length → Ev (fun k => laws_hSame.l0 k a b (a.length : Int) (i : Int)) (decide (a.drop i = b.drop i)) := by
  induction d with
  | zero =>
    intro i hd hi
    refine now fun k => ?_
    simp only [laws_hSame.l0]
    rw [if_neg (by omega), List.drop_eq_nil_of_le (by omega), List.drop_eq_nil_of_le (by omega)]
    rfl
  | succ d ih =>
    intro i hd hi
    have hlt : i < a.length := by omega
    have hltb : i < b.length := by omega
    rw [drop_cons a i hlt, drop_cons b i hltb]
    by_cases e : a[i] = b[i]
    · have := ih (i + 1) (by omega) (by omega)
      refine Ev.step (f := fun k => laws_hSame.l0 k a b (a.length : Int) ((i + 1 : Nat) : Int)) (fun k => ?_) (by rw [show decide (a[i] :: a.drop (i + 1) = b[i] :: b.drop (i + 1)) = decide (a.drop (i + 1) = b.drop (i + 1)) by simp only [List.cons.injEq, e, true_and]]; exact this)
      simp only [laws_hSame.l0]
      rw [if_pos (by omega), if_pos (by omega), if_pos (by omega), if_pos (by omega), rd_get a i hlt, rd_get b i hltb, if_pos e, wrap_succ i (by omega)]
    · refine now fun k => ?_
      simp only [laws_hSame.l0]
      rw [if_pos (by omega), if_pos (by omega), if_pos (by omega), if_pos (by omega), rd_get a i hlt, rd_get b i hltb, if_neg e, show decide (a[i] :: a.drop (i + 1) = b[i] :: b.drop (i + 1)) = false by simp only [List.cons.injEq, e, false_and, decide_false]]
theorem laws_hSame.ev (a b : List Int) (h : a.length < 4611686018427387904) : Ev (fun k => laws_hSame.f k a b) (decide (a = b)) := by
  by_cases hl : a.length = b.length
  · have := laws_hSame.loop a b hl h a.length 0 (by omega) (by omega)
    refine Ev.congr (f := fun k => laws_hSame.l0 k a b (a.length : Int) ((0 : Nat) : Int)) (fun k => ?_) (by simpa using this)
    unfold laws_hSame.f
    rw [if_pos (by omega)]
    rfl
  · refine always fun k => ?_
    unfold laws_hSame.f
    rw [if_neg (by omega)]
    have : ¬ a = b := fun e => hl (by rw [e])
    simp [this]

/-! impl_has -/
theorem impl_has.eq (x i : Int) (hx : 0 ≤ x) (hx1 : x < 2 ^ 63) (hi : 0 ≤ i) : impl_has.f x i = some (bit x i) := by unfold impl_has.f; rw [if_pos hi, has_bit hx hx1 hi]

/-! impl_in -/
theorem impl_in.eq (x a b : Int) : impl_in.f x a b = some (decide (a ≤ x) && decide (x ≤ b)) := by
  unfold impl_in.f
  by_cases h : a ≤ x
  · rw [if_pos h]; simp [h]
  · rw [if_neg h]; simp [h]

/-! impl_whole -/
theorem impl_whole.eq (n : Int) (h0 : 0 ≤ n) (h1 : n ≤ 62) : impl_whole.f n = some (2 ^ n.toNat - 1) := by unfold impl_whole.f; rw [if_pos h0, whole_eq h0 h1]

/-! impl_isCount -/
theorem impl_isCount.eq (x : Int) : impl_isCount.f x = some (decide (1 ≤ x) && decide (x ≤ 16)) := by unfold impl_isCount.f; rw [impl_in.eq]; rfl

/-! impl_isGraph -/
theorem impl_isGraph.inner (l : List Int) (own : Bool) (hn : l.length ≤ 16) (i : Nat) (hi : i < l.length) (hbi : 0 ≤ l[i] ∧ l[i] < 2 ^ 63) (hb : ∀ j, (h : j < i) → 0 ≤ l[j] ∧ l[j] < 2 ^ 63) (r : Bool) (hr : Ev (fun k => impl_isGraph.l0 k (l.length : Int) l (l.length : Int) ((i + 1 : Nat) : Int) l own) r) (d : Nat) :
    ∀ j : Nat, i - j = d → j ≤ i → Ev (fun k => impl_isGraph.l1 k (l.length : Int) (i : Int) l[i] l (l.length : Int) (i : Int) (i : Int) (j : Int) l own) (((List.range' j (i - j)).all fun j => bit (l.getD i 0) (j : Int) == bit (l.getD j 0) (i : Int)) && r) := by
  induction d with
  | zero =>
    intro j hd hj
    refine Ev.step (f := fun k => impl_isGraph.l0 k (l.length : Int) l (l.length : Int) ((i + 1 : Nat) : Int) l own) (fun k => ?_) (by rw [hd]; simpa using hr)
    simp only [impl_isGraph.l1]
    rw [if_neg (by omega), wrap_succ i (by omega)]
  | succ d ih =>
    intro j hd hj
    have hlt : j < i := by omega
    have hbj := hb j hlt
    rw [hd, List.range'_succ, List.all_cons, Bool.and_assoc]
    have ih' := ih (j + 1) (by omega) (by omega)
    rw [show i - (j + 1) = d by omega] at ih'
    have h1 := impl_has.eq l[i] (j : Int) hbi.1 hbi.2 (by omega)
    have h2 := impl_has.eq l[j] (i : Int) hbj.1 hbj.2 (by omega)
    rw [getD_get l i hi, getD_get l j (by omega)]
    rw [getD_get l i hi] at ih'
    have step : ∀ k, impl_isGraph.l1 (k + 1) (l.length : Int) (i : Int) l[i] l (l.length : Int) (i : Int) (i : Int) (j : Int) l own = if (bit l[i] (j : Int) == bit l[j] (i : Int)) = true then impl_isGraph.l1 k (l.length : Int) (i : Int) l[i] l (l.length : Int) (i : Int) (i : Int) ((j + 1 : Nat) : Int) l own else some false := by
      intro k
      simp only [impl_isGraph.l1]
      rw [if_pos (by omega), h1, Option.bind_some, if_pos (by omega), if_pos (by omega), rd_get l j (by omega), h2, Option.bind_some, wrap_succ j (by omega)]
      cases bit l[i] (j : Int) <;> cases bit l[j] (i : Int) <;> rfl
    cases e : (bit l[i] (j : Int) == bit l[j] (i : Int))
    · rw [Bool.false_and]
      exact now fun k => by rw [step k, e]; rfl
    · rw [Bool.true_and]
      exact Ev.step (fun k => by rw [step k, e]; rfl) ih'
theorem impl_isGraph.outer (l : List Int) (own : Bool) (hn : l.length ≤ 16) (d : Nat) :
    ∀ i : Nat, l.length - i = d → i ≤ l.length → (∀ j, (h : j < i) → (hj : j < l.length) → 0 ≤ l[j] ∧ l[j] < 2 ^ l.length) → Ev (fun k => impl_isGraph.l0 k (l.length : Int) l (l.length : Int) (i : Int) l own) ((List.range' i (l.length - i)).all (okRow l)) := by
  induction d with
  | zero =>
    intro i hd hi _
    refine now fun k => ?_
    simp only [impl_isGraph.l0]
    rw [if_neg (by omega), hd]
    rfl
  | succ d ih =>
    intro i hd hi hb
    have hlt : i < l.length := by omega
    have h16 := pow16 hn
    rw [hd, List.range'_succ, List.all_cons]
    have hr : okRow l i = (inSet l.length l[i] && (!(bit l[i] (i : Int)) && (List.range' 0 i).all fun j => bit (l.getD i 0) (j : Int) == bit (l.getD j 0) (i : Int))) := by
      unfold okRow
      rw [getD_get l i hlt]
    have hin : impl_in.f l[i] 0 (2 ^ (l.length : Int).toNat - 1) = some (inSet l.length l[i]) := by
      rw [impl_in.eq, Int.toNat_natCast]
      unfold inSet
      congr 2
      rw [Bool.eq_iff_iff]
      simp only [decide_eq_true_eq]
      omega
    rw [hr]
    cases e1 : inSet l.length l[i]
    · rw [Bool.false_and, Bool.false_and]
      refine ⟨2, fun k hk => ?_⟩
      obtain ⟨m, rfl⟩ : ∃ m, k = m + 2 := ⟨k - 2, by omega⟩
      show impl_isGraph.l0 (m + 2) (l.length : Int) l (l.length : Int) (i : Int) l own = _
      simp only [impl_isGraph.l0]
      rw [if_pos (by omega), if_pos (by omega), if_pos (by omega), rd_get l i hlt, impl_whole.eq _ (by omega) (by omega), Option.bind_some, hin, Option.bind_some, e1, if_neg (by decide)]
      simp only [impl_isGraph.j1, if_true]
    · have hbi : 0 ≤ l[i] ∧ l[i] < 2 ^ l.length := by simpa [inSet] using e1
      have hbi' : 0 ≤ l[i] ∧ l[i] < 2 ^ 63 := by omega
      rw [Bool.true_and]
      have head : ∀ k, impl_isGraph.l0 (k + 2) (l.length : Int) l (l.length : Int) (i : Int) l own = if bit l[i] (i : Int) = true then some false else impl_isGraph.l1 k (l.length : Int) (i : Int) l[i] l (l.length : Int) (i : Int) (i : Int) ((0 : Nat) : Int) l own := by
        intro k
        simp only [impl_isGraph.l0]
        rw [if_pos (by omega), if_pos (by omega), if_pos (by omega), rd_get l i hlt, impl_whole.eq _ (by omega) (by omega), Option.bind_some, hin, Option.bind_some, e1, if_pos rfl, impl_has.eq l[i] (i : Int) hbi'.1 hbi'.2 (by omega), Option.bind_some]
        simp only [impl_isGraph.j1]
        rfl
      cases e2 : bit l[i] (i : Int)
      · rw [Bool.not_false, Bool.true_and]
        have ih' := ih (i + 1) (by omega) (by omega) (fun j h hj => by
          rcases Nat.lt_succ_iff_lt_or_eq.1 h with h | h
          · exact hb j h hj
          · subst h; exact hbi)
        rw [show l.length - (i + 1) = d by omega] at ih'
        obtain ⟨K, hK⟩ := impl_isGraph.inner l own hn i hlt hbi' (fun j h => by have := hb j h (by omega); omega) _ ih' i 0 (by omega) (by omega)
        rw [Nat.sub_zero] at hK
        refine ⟨K + 2, fun k hk => ?_⟩
        obtain ⟨m, rfl⟩ : ∃ m, k = m + 2 := ⟨k - 2, by omega⟩
        show impl_isGraph.l0 (m + 2) (l.length : Int) l (l.length : Int) (i : Int) l own = _
        rw [head m, e2, if_neg (by decide)]
        exact hK m (by omega)
      · rw [Bool.not_true, Bool.false_and, Bool.false_and]
        refine ⟨2, fun k hk => ?_⟩
        obtain ⟨m, rfl⟩ : ∃ m, k = m + 2 := ⟨k - 2, by omega⟩
        show impl_isGraph.l0 (m + 2) (l.length : Int) l (l.length : Int) (i : Int) l own = _
        rw [head m, e2, if_pos rfl]
theorem impl_isGraph.ev (l : List Int) (own : Bool) : Ev (fun k => impl_isGraph.f k l own) (good l) := by
  rw [good_rows]
  by_cases hn : 1 ≤ l.length ∧ l.length ≤ 16
  · have e1 : impl_isCount.f (l.length : Int) = some true := by rw [impl_isCount.eq, decide_eq_true (by omega), decide_eq_true (by omega)]; rfl
    rw [show (decide (1 ≤ l.length ∧ l.length ≤ 16)) = true from decide_eq_true hn, Bool.true_and]
    refine Ev.congr (f := fun k => impl_isGraph.l0 k (l.length : Int) l (l.length : Int) ((0 : Nat) : Int) l own) (fun k => ?_) (by simpa using impl_isGraph.outer l own hn.2 l.length 0 (by omega) (by omega) (fun j h => absurd h (by omega)))
    unfold impl_isGraph.f
    rw [e1, Option.bind_some, if_pos rfl]
    rfl
  · have e1 : impl_isCount.f (l.length : Int) = some false := by
      rw [impl_isCount.eq]
      congr 1
      rw [Bool.and_eq_false_iff, decide_eq_false_iff_not, decide_eq_false_iff_not]
      omega
    rw [show (decide (1 ≤ l.length ∧ l.length ≤ 16)) = false from decide_eq_false hn, Bool.false_and]
    refine always fun k => ?_
    unfold impl_isGraph.f
    rw [e1, Option.bind_some, if_neg (by decide)]

/-! impl_isSet -/
theorem impl_isSet.p_eq (n : Nat) (h : n ≤ 16) (s : Int) : impl_isSet.p n s = !(inSet n s) := by
  unfold impl_isSet.p
  rw [whole_eq (by omega) (by omega), impl_in.eq, Int.toNat_natCast, ← inSet_eq' n s]
  rfl
theorem impl_isSet.ev (l : List Int) (own : Bool) (ss : List Int) : Ev (fun k => impl_isSet.f k l own ss) (good l && ss.all (inSet l.length)) := by
  obtain ⟨K, hK⟩ := impl_isGraph.ev l own
  refine ⟨K, fun k hk => ?_⟩
  have h1 : impl_isGraph.f k l own = _ := hK k hk
  show impl_isSet.f k l own ss = _
  unfold impl_isSet.f
  rw [h1, Option.bind_some]
  cases hg : good l
  · rfl
  · have := ((good_iff l).1 hg).top
    rw [if_pos rfl, Bool.true_and, show impl_isSet.p l.length = (fun s => !(inSet l.length s)) from funext (impl_isSet.p_eq l.length this), List.not_any_eq_all_not]
    simp

/-! impl_isLit -/
theorem impl_isLit.ev (l : List Int) (own : Bool) (ss : List Int) : Ev (fun k => impl_isLit.f k l own ss) (good l && ss.all (inSet l.length) && decide (l.length ≤ 9)) := by
  obtain ⟨K, hK⟩ := impl_isSet.ev l own ss
  refine ⟨K, fun k hk => ?_⟩
  have h1 : impl_isSet.f k l own ss = _ := hK k hk
  show impl_isLit.f k l own ss = _
  unfold impl_isLit.f
  rw [h1, Option.bind_some]
  cases (good l && ss.all (inSet l.length))
  · rfl
  · rw [if_pos rfl, Bool.true_and]
    congr 1
    rw [Bool.eq_iff_iff]
    simp only [decide_eq_true_eq]
    omega

/-! impl_Graph_orbit -/
theorem impl_Graph_orbit.inn_eq (mv : Int → Int → Option Int) (m : Nat → Nat → Nat) (n : Nat) (hn : n ≤ 9) (hm : ∀ s i : Nat, s < 2 ^ n → i < n → mv (s : Int) (i : Int) = some (m s i : Int)) (hb : ∀ s i : Nat, s < 2 ^ n → i < n → m s i < 2 ^ n) (s : Nat) (hs : s < 2 ^ n) :
    ∀ (d i : Nat) (out : List Nat), i + d ≤ n → OrbOk (2 ^ n) out → impl_Graph_orbit.inn mv (s : Int) d i (ints out) = some (ints (orbIn m s d i out))
  | 0, i, out, _, _ => rfl
  | d + 1, i, out, hd, ho => by
    have hp := pow9 hn
    have ht := hb s i hs (by omega)
    have hl := ho.length
    have ih := impl_Graph_orbit.inn_eq mv m n hn hm hb s hs d (i + 1) (if out.contains (m s i) = true then out else out ++ [m s i]) (by omega) (ho.more ht)
    unfold impl_Graph_orbit.inn orbIn
    rw [hm s i hs (by omega), Option.bind_some, if_pos (wf_small (by omega) (by omega)), ints_contains]
    split
    · next e => rw [if_pos e] at ih; exact ih
    · next e =>
      rw [if_neg e, ints_append] at ih
      rw [if_pos (by rw [ints_length]; omega)]
      exact ih
theorem impl_Graph_orbit.go_eq (mv : Int → Int → Option Int) (m : Nat → Nat → Nat) (n : Nat) (hn : n ≤ 9) (hm : ∀ s i : Nat, s < 2 ^ n → i < n → mv (s : Int) (i : Int) = some (m s i : Int)) (hb : ∀ s i : Nat, s < 2 ^ n → i < n → m s i < 2 ^ n) :
    ∀ (f k : Nat) (out : List Nat), k + f = 2 ^ n → OrbOk (2 ^ n) out → impl_Graph_orbit.go mv n (f + 1) k (ints out) = some (ints (orbGo m n f k out))
  | 0, k, out, hk, ho => by
    have hl := ho.length
    unfold impl_Graph_orbit.go orbGo
    rw [if_neg (by rw [ints_length]; omega)]
  | f + 1, k, out, hk, ho => by
    unfold impl_Graph_orbit.go orbGo
    rw [ints_length]
    by_cases h : k < out.length
    · have hs := ho.low _ (List.getElem_mem h)
      rw [if_pos h, dif_pos h, ints_get out k h, impl_Graph_orbit.inn_eq mv m n hn hm hb out[k] hs n 0 out (by omega) ho, Option.bind_some]
      exact impl_Graph_orbit.go_eq mv m n hn hm hb f (k + 1) _ (by omega) (orbIn_ok n 0 out (fun j _ hj => hb _ _ hs (by omega)) ho)
    · rw [if_neg h, dif_neg h]
theorem impl_Graph_orbit.ev (mv : Int → Int → Option Int) (m : Nat → Nat → Nat) (l : List Int) (hn : l.length ≤ 9) (hm : ∀ s i : Nat, s < 2 ^ l.length → i < l.length → mv (s : Int) (i : Int) = some (m s i : Int)) (hb : ∀ s i : Nat, s < 2 ^ l.length → i < l.length → m s i < 2 ^ l.length) (s : Nat) (hs : s < 2 ^ l.length) :
    Ev (fun k => impl_Graph_orbit.f k mv l (s : Int)) (ints (rising (2 ^ l.length) (orbL m l.length s))) := by
  have hp := pow9 hn
  have ho : OrbOk (2 ^ l.length) [s] := ⟨by simp, fun x hx => by rw [List.mem_singleton.1 hx]; exact hs⟩
  have hok := orbL_ok hb hs
  refine ⟨2 ^ l.length + 1, fun k hk => ?_⟩
  have h1 : impl_Graph_orbit.go mv l.length k 0 [(s : Int)] = some (ints (orbL m l.length s)) := at_rounds (g := fun k => impl_Graph_orbit.go mv l.length k 0 [(s : Int)]) (fun k => impl_Graph_orbit.go_mono (fun _ _ => LeO.refl _) _ k 0 _) hk (impl_Graph_orbit.go_eq mv m l.length hn hm hb (2 ^ l.length) 0 [s] (by omega) ho)
  show impl_Graph_orbit.f k mv l (s : Int) = _
  unfold impl_Graph_orbit.f
  rw [if_pos (wf_small (by omega) (by omega)), h1, Option.bind_some]
  unfold slices_Sort_int_int.f
  have := hok.length
  rw [if_pos (by rw [ints_length]; omega), sort_orbit hok]

/-! impl_Graph_litMove -/
theorem impl_Graph_litMove.eq (l : List Int) (own : Bool) (hG : GoodG l) (s i : Nat) (hs : s < 2 ^ l.length) (hi : i < l.length) : impl_Graph_litMove.f l own (s : Int) (i : Int) = some (moveOf l false s i : Int) := by
  have h16 := pow16 hG.top
  have hc := pow_cast l.length
  have hx := hG.sets (rd l (i : Int)) (rd_mem l _ (by omega) (by omega))
  unfold impl_Graph_litMove.f moveOf
  rw [impl_has.eq (s : Int) (i : Int) (by omega) (by omega) (by omega), Option.bind_some, show bit (s : Int) (i : Int) = s.testBit i from rfl]
  split
  · rw [if_pos (by omega), if_pos (by omega), xor_eq (by omega) (by omega) hx.1 (by omega)]
    rfl
  · rfl

/-! impl_ReachOf -/
theorem impl_ReachOf.ev (l : List Int) (own : Bool) (s : Int) : Ev (fun k => impl_ReachOf.f k l own s) (if (good l && decide (l.length ≤ 9) && inSet l.length s) = true then (ints (orbitOf l false s.toNat), true) else ([], false)) := by
  obtain ⟨K, hK⟩ := impl_isLit.ev l own [s]
  have ea : (good l && [s].all (inSet l.length) && decide (l.length ≤ 9)) = (good l && decide (l.length ≤ 9) && inSet l.length s) := by
    simp only [List.all_cons, List.all_nil, Bool.and_true]
    cases good l <;> cases inSet l.length s <;> cases decide (l.length ≤ 9) <;> rfl
  rw [ea] at hK
  cases e1 : (good l && decide (l.length ≤ 9) && inSet l.length s)
  · refine ⟨K, fun k hk => ?_⟩
    have h1 : impl_isLit.f k l own [s] = _ := hK k hk
    show impl_ReachOf.f k l own s = _
    unfold impl_ReachOf.f
    rw [h1, Option.bind_some, e1]
    rfl
  · have e1' := e1
    simp only [Bool.and_eq_true, decide_eq_true_eq] at e1'
    have hG : GoodG l := (good_iff l).1 e1'.1.1
    have hs : 0 ≤ s ∧ s < 2 ^ l.length := by simpa [inSet] using e1'.2
    obtain ⟨t, rfl⟩ := Int.eq_ofNat_of_zero_le hs.1
    have hc := pow_cast l.length
    have ht : t < 2 ^ l.length := by omega
    obtain ⟨K2, hK2⟩ := impl_Graph_orbit.ev (fun s i => impl_Graph_litMove.f l own s i) (moveOf l false) l e1'.1.2 (fun s i hs hi => impl_Graph_litMove.eq l own hG s i hs hi) (fun s i hs hi => moveOf_lt l hG false s i hs hi) t ht
    refine ⟨K + K2, fun k hk => ?_⟩
    have h1 : impl_isLit.f k l own [(t : Int)] = _ := hK k (by omega)
    have h2 : impl_Graph_orbit.f k (fun s i => impl_Graph_litMove.f l own s i) l (t : Int) = _ := hK2 k (by omega)
    show impl_ReachOf.f k l own (t : Int) = _
    unfold impl_ReachOf.f
    rw [h1, Option.bind_some, e1, if_pos rfl, h2, Option.bind_some]
    rfl

/-! laws_hHas -/
theorem laws_hHas.loop (l : List Int) (n : Int) (h : l.length < 4611686018427387904) : ∀ (d i : Nat), l.length - i = d → i ≤ l.length → Ev (fun k => laws_hHas.l0 k n l (l.length : Int) (i : Int)) ((l.drop i).contains n)
  | 0, i, hd, hi => by
    refine now fun k => ?_
    simp only [laws_hHas.l0]
    rw [if_neg (by omega), List.drop_eq_nil_of_le (by omega)]
    rfl
  | d + 1, i, hd, hi => by
    have hlt : i < l.length := by omega
    rw [drop_cons l i hlt, List.contains_cons]
    by_cases e : l[i] = n
    · refine now fun k => ?_
      simp only [laws_hHas.l0]
      rw [if_pos (by omega), if_pos (by omega), if_pos (by omega), rd_get l i hlt, if_pos e]
      simp [e]
    · have e2 : (n == l[i]) = false := by simpa using fun h => e h.symm
      refine Ev.step (f := fun k => laws_hHas.l0 k n l (l.length : Int) ((i + 1 : Nat) : Int)) (fun k => ?_) (by rw [e2, Bool.false_or]; exact laws_hHas.loop l n h d (i + 1) (by omega) (by omega))
      simp only [laws_hHas.l0]
      rw [if_pos (by omega), if_pos (by omega), if_pos (by omega), rd_get l i hlt, if_neg e, wrap_succ i (by omega)]
theorem laws_hHas.ev (l : List Int) (n : Int) (h : l.length < 4611686018427387904) : Ev (fun k => laws_hHas.f k l n) (l.contains n) := by
  have h0 := laws_hHas.loop l n h l.length 0 (by omega) (by omega)
  exact Ev.congr (f := fun k => laws_hHas.l0 k n l (l.length : Int) ((0 : Nat) : Int)) (fun k => rfl) (by simpa using h0)

/-! spec_grAdd -/
theorem spec_grAdd.eq (l : List Nat) (own : Bool) (n : Nat) (hn : n ≤ 16) (hl : l.length = n) (hb : ∀ x ∈ l, x < 2 ^ n) (i j : Nat) (hi : i < n) (hj : j < n) : spec_grAdd.f (ints l) own (i : Int) (j : Int) = some (ints (joinL l i j)) := by
  have hp : (2 : Nat) ^ n ≤ 2 ^ 16 := Nat.pow_le_pow_right (by decide) hn
  have hpi : (2 : Nat) ^ i < 2 ^ n := Nat.pow_lt_pow_right (by decide) hi
  have hpj : (2 : Nat) ^ j < 2 ^ n := Nat.pow_lt_pow_right (by decide) hj
  have g1 := getD_lt hb i
  have h1 := set_lt hb i _ (Nat.or_lt_two_pow g1 hpj)
  have g2 := getD_lt h1 j
  have s1 : shl .i64 1 (j : Int) = ((2 ^ j : Nat) : Int) := by rw [shl_one (by omega) (by omega), Int.toNat_natCast]
  have s2 : shl .i64 1 (i : Int) = ((2 ^ i : Nat) : Int) := by rw [shl_one (by omega) (by omega), Int.toNat_natCast]
  unfold spec_grAdd.f
  simp only [Int.toNat_natCast, s1, s2]
  rw [if_pos (by omega), if_pos (by rw [ints_length]; omega), if_pos (by omega), ints_getD l i (by omega), or_nat _ _ (by omega) (by omega), ints_set, Option.bind_some, if_pos (by rw [ints_length]; omega), ints_getD _ j (by simp; omega), or_nat _ _ (by omega) (by omega), ints_set]
  rfl

/-! spec_grPath -/
theorem spec_grPath.loop (n : Nat) (own : Bool) (hn : n ≤ 16) : ∀ (d i : Nat) (l : List Nat), i + d = n - 1 → 1 ≤ n → l.length = n → (∀ x ∈ l, x < 2 ^ n) → Ev (fun k => spec_grPath.l0 k (n : Int) ((i + 1 : Nat) : Int) (ints l) own) (ints (pathGo d i l), own)
  | 0, i, l, hd, h1, hl, hb => by
    refine now fun k => ?_
    simp only [spec_grPath.l0]
    rw [if_neg (by omega)]
    rfl
  | d + 1, i, l, hd, h1, hl, hb => by
    refine Ev.step (f := fun k => spec_grPath.l0 k (n : Int) ((i + 1 + 1 : Nat) : Int) (ints (joinL l i (i + 1))) own) (fun k => ?_) (spec_grPath.loop n own hn d (i + 1) _ (by omega) h1 (by rw [joinL_length]; exact hl) (joinL_lt hb i (i + 1) (by omega) (by omega)))
    simp only [spec_grPath.l0]
    rw [if_pos (by omega), wrap_id (x := ((i + 1 : Nat) : Int) - 1) (by omega) (by omega), show ((i + 1 : Nat) : Int) - 1 = (i : Int) by omega, spec_grAdd.eq l own n hn hl hb i (i + 1) (by omega) (by omega), Option.bind_some, wrap_succ (i + 1) (by omega)]
theorem spec_grPath.ev (n : Nat) (own : Bool) (h1 : 1 ≤ n) (hn : n ≤ 16) : Ev (fun k => spec_grPath.f k (n : Int) own) (ints (pathL n), own) := by
  have h := spec_grPath.loop n own hn (n - 1) 0 (List.replicate n 0) (by omega) h1 (by simp) (zeros_lt n n)
  refine Ev.congr (f := fun k => spec_grPath.l0 k (n : Int) ((0 + 1 : Nat) : Int) (ints (List.replicate n 0)) own) (fun k => ?_) h
  unfold spec_grPath.f
  rw [if_pos (by omega), if_pos (by rw [Int.toNat_natCast]; omega), Int.toNat_natCast]
  unfold ints
  rw [List.map_replicate]
  rfl

/-! spec_grCircle -/
theorem spec_grCircle.ev (n : Nat) (own : Bool) (h1 : 3 ≤ n) (hn : n ≤ 16) : Ev (fun k => spec_grCircle.f k (n : Int) own) (ints (circleL n), own) := by
  obtain ⟨K, hK⟩ := spec_grPath.ev n own (by omega) hn
  refine ⟨K, fun k hk => ?_⟩
  have c1 : spec_grPath.f k (n : Int) own = _ := hK k hk
  show spec_grCircle.f k (n : Int) own = _
  unfold spec_grCircle.f
  rw [c1, Option.bind_some, wrap_id (by omega) (by omega), show (n : Int) - 1 = ((n - 1 : Nat) : Int) by omega]
  have h2 := spec_grAdd.eq (pathL n) own n hn (pathL_length n) (pathL_lt (by omega)) 0 (n - 1) (by omega) (by omega)
  show (spec_grAdd.f (ints (pathL n)) own ((0 : Nat) : Int) ((n - 1 : Nat) : Int)).bind _ = _
  rw [h2, Option.bind_some]
  rfl

/-! impl_hasButton -/
theorem impl_hasButton.p_eq (n : Nat) (h : n ≤ 16) (s : Int) : impl_hasButton.p n s = !(isBtn n s) := by
  unfold impl_hasButton.p
  rw [wrap_id (by omega) (by omega), impl_in.eq]
  rfl
theorem impl_hasButton.ev (l : List Int) (own : Bool) (ss : List Int) : Ev (fun k => impl_hasButton.f k l own ss) (good l && ss.all (isBtn l.length)) := by
  obtain ⟨K, hK⟩ := impl_isGraph.ev l own
  refine ⟨K, fun k hk => ?_⟩
  have h1 : impl_isGraph.f k l own = _ := hK k hk
  show impl_hasButton.f k l own ss = _
  unfold impl_hasButton.f
  rw [h1, Option.bind_some]
  cases hg : good l
  · rfl
  · have := ((good_iff l).1 hg).top
    rw [if_pos rfl, Bool.true_and, show impl_hasButton.p l.length = (fun s => !(isBtn l.length s)) from funext (impl_hasButton.p_eq l.length this), List.not_any_eq_all_not]
    simp

/-! impl_LitWord -/
theorem impl_LitWord.loop (l : List Int) (own : Bool) (hG : GoodG l) (w : List Int) (hw : w.length < 4611686018427387904) (hb : ∀ x ∈ w, 0 ≤ x ∧ x < l.length) (d : Nat) :
    ∀ (i : Nat) (s : Int), w.length - i = d → i ≤ w.length → 0 ≤ s → s < 2 ^ l.length → Ev (fun k => impl_LitWord.l0 k s w (w.length : Int) (i : Int) l own) (litGo l s (w.drop i)) := by
  have h16 := pow16 hG.top
  induction d with
  | zero =>
    intro i s hd hi h0 h1
    refine now fun k => ?_
    simp only [impl_LitWord.l0]
    rw [if_neg (by omega), List.drop_eq_nil_of_le (by omega)]
    rfl
  | succ d ih =>
    intro i s hd hi h0 h1
    have hlt : i < w.length := by omega
    have hx := hb w[i] (List.getElem_mem _)
    rw [drop_cons w i hlt, litGo]
    have hin := impl_has.eq s w[i] h0 (by omega) hx.1
    cases e : bit s w[i]
    · refine now fun k => ?_
      simp only [impl_LitWord.l0]
      rw [if_pos (by omega), if_pos (by omega), if_pos (by omega), rd_get w i hlt, hin, Option.bind_some, e]
      rfl
    · have hm := hG.sets (rd l w[i]) (rd_mem l _ hx.1 hx.2)
      refine Ev.step (f := fun k => impl_LitWord.l0 k ((s.toNat ^^^ (rd l w[i]).toNat : Nat) : Int) w (w.length : Int) ((i + 1 : Nat) : Int) l own) (fun k => ?_) (ih (i + 1) _ (by omega) (by omega) (by omega) (xor_lt h1 hm.2 h0 hm.1))
      simp only [impl_LitWord.l0]
      rw [if_pos (by omega), if_pos (by omega), if_pos (by omega), rd_get w i hlt, hin, Option.bind_some, e, if_pos rfl, if_pos hx.1, if_pos hx.2, xor_eq h0 (by omega) hm.1 (by omega), wrap_succ i (by omega)]
theorem impl_LitWord.ev (l : List Int) (own : Bool) (s : Int) (w : List Int) (hw : w.length < 4611686018427387904) : Ev (fun k => impl_LitWord.f k l own s w) (litWord l s w) := by
  obtain ⟨K, hK⟩ := ev_and (impl_isLit.ev l own [s]) (impl_hasButton.ev l own w)
  have ea : (good l && [s].all (inSet l.length) && decide (l.length ≤ 9)) = (good l && decide (l.length ≤ 9) && inSet l.length s) := by
    simp only [List.all_cons, List.all_nil, Bool.and_true]
    cases good l <;> cases inSet l.length s <;> cases decide (l.length ≤ 9) <;> rfl
  rw [ea] at hK
  unfold litWord
  cases e1 : (good l && decide (l.length ≤ 9) && inSet l.length s)
  · refine ⟨K + 1, fun k hk => ?_⟩
    obtain ⟨m, rfl⟩ : ∃ m, k = m + 1 := ⟨k - 1, by omega⟩
    obtain ⟨h1, h2⟩ := hK (m + 1) (by omega)
    show impl_LitWord.f (m + 1) l own s w = _
    unfold impl_LitWord.f
    rw [h1, Option.bind_some, e1, if_neg (by decide)]
    simp only [impl_LitWord.j0, if_true]
    rfl
  · have hg : good l = true := by simp only [Bool.and_eq_true] at e1; exact e1.1.1
    rw [e1, hg, Bool.true_and] at hK
    cases e2 : (decide (w.length ≤ 200) && w.all (isBtn l.length))
    · refine ⟨K + 1, fun k hk => ?_⟩
      obtain ⟨m, rfl⟩ : ∃ m, k = m + 1 := ⟨k - 1, by omega⟩
      obtain ⟨h1, h2⟩ := hK (m + 1) (by omega)
      show impl_LitWord.f (m + 1) l own s w = _
      unfold impl_LitWord.f
      rw [h1, Option.bind_some, if_pos rfl]
      by_cases hl : w.length ≤ 200
      · rw [decide_eq_true hl, Bool.true_and] at e2
        rw [if_neg (by omega), h2, Option.bind_some, e2]
        simp only [impl_LitWord.j0, Bool.not_false, if_true]
        rfl
      · rw [if_pos (by omega)]
        simp only [impl_LitWord.j0, if_true]
        rfl
    · have hG : GoodG l := (good_iff l).1 hg
      have hs : 0 ≤ s ∧ s < 2 ^ l.length := by simp only [Bool.and_eq_true] at e1; simpa [inSet] using e1.2
      have e3 := e2
      simp only [Bool.and_eq_true, decide_eq_true_eq] at e3
      obtain ⟨K2, hK2⟩ := impl_LitWord.loop l own hG w hw (btn_all e3.2) w.length 0 s (by omega) (by omega) hs.1 hs.2
      refine ⟨K + K2 + 1, fun k hk => ?_⟩
      obtain ⟨m, rfl⟩ : ∃ m, k = m + 1 := ⟨k - 1, by omega⟩
      obtain ⟨h1, h2⟩ := hK (m + 1) (by omega)
      show impl_LitWord.f (m + 1) l own s w = _
      unfold impl_LitWord.f
      rw [h1, Option.bind_some, if_pos rfl, if_neg (by omega), h2, Option.bind_some, e3.2]
      simp only [impl_LitWord.j0, Bool.not_true, Bool.false_eq_true, if_false]
      exact hK2 m (by omega)

/-! impl_LitPress -/
theorem impl_LitPress.ev (l : List Int) (own : Bool) (s i : Int) : Ev (fun k => impl_LitPress.f k l own s i) (litWord l s [i]) := by
  obtain ⟨K, hK⟩ := impl_LitWord.ev l own s [i] (by simp)
  refine ⟨K, fun k hk => ?_⟩
  have h1 : impl_LitWord.f k l own s [i] = _ := hK k hk
  show impl_LitPress.f k l own s i = _
  unfold impl_LitPress.f
  rw [h1]
  rfl

/-! spec_grIn -/
theorem spec_grIn.eq (x i : Int) (hx : 0 ≤ x) (hx1 : x < 2 ^ 63) (hi : 0 ≤ i) : spec_grIn.f x i = some (bit x i) := by unfold spec_grIn.f; rw [if_pos hi, in_bit hx hx1 hi]

/-! spec_l1In -/
theorem spec_l1In.eq (x a b : Int) : spec_l1In.f x a b = some (decide (a ≤ x) && decide (x ≤ b)) := by
  unfold spec_l1In.f
  by_cases h : a ≤ x
  · rw [if_pos (by omega)]; simp [h]
  · rw [if_neg (by omega)]; simp [h]

/-! spec_l1All -/
theorem spec_l1All.loop (l : List Int) (a b : Int) (h : l.length < 4611686018427387904) (d : Nat) : ∀ i : Nat, l.length - i = d → i ≤ l.length → Ev (fun k => spec_l1All.l0 k a b l (l.length : Int) (i : Int)) ((l.drop i).all fun x => decide (a ≤ x) && decide (x ≤ b)) := by
  induction d with
  | zero =>
    intro i hd hi
    refine now fun k => ?_
    simp only [spec_l1All.l0]
    rw [if_neg (by omega), List.drop_eq_nil_of_le (by omega)]
    rfl
  | succ d ih =>
    intro i hd hi
    have hlt : i < l.length := by omega
    rw [drop_cons l i hlt, List.all_cons]
    by_cases e : (decide (a ≤ l[i]) && decide (l[i] ≤ b)) = true
    · refine Ev.step (f := fun k => spec_l1All.l0 k a b l (l.length : Int) ((i + 1 : Nat) : Int)) (fun k => ?_) (by rw [e, Bool.true_and]; exact ih (i + 1) (by omega) (by omega))
      simp only [spec_l1All.l0]
      rw [if_pos (by omega), if_pos (by omega), if_pos (by omega), rd_get l i hlt, spec_l1In.eq, e, wrap_succ i (by omega)]
      rfl
    · refine now fun k => ?_
      simp only [spec_l1All.l0]
      replace e := Bool.eq_false_iff.mpr e
      rw [if_pos (by omega), if_pos (by omega), if_pos (by omega), rd_get l i hlt, spec_l1In.eq, e]
      rfl
theorem spec_l1All.ev (l : List Int) (a b : Int) (h : l.length < 4611686018427387904) : Ev (fun k => spec_l1All.f k l a b) (l.all fun x => decide (a ≤ x) && decide (x ≤ b)) :=
  spec_l1All.loop l a b h l.length 0 (by omega) (by omega)

/-! spec_grSize -/
theorem spec_grSize.eq (x : Int) : spec_grSize.f x = some (decide (1 ≤ x) && decide (x ≤ 16)) := by unfold spec_grSize.f; rw [spec_l1In.eq]; rfl

/-! spec_grGood -/
theorem spec_grGood.inner (l : List Int) (own : Bool) (hn : l.length ≤ 16) (hg : ∀ x ∈ l, 0 ≤ x ∧ x < 2 ^ l.length) (i : Nat) (hi : i < l.length) (r : Bool) (hr : Ev (fun k => spec_grGood.l0 k l (l.length : Int) ((i + 1 : Nat) : Int) l own) r) (d : Nat) :
    ∀ j : Nat, l.length - j = d → j ≤ l.length → Ev (fun k => spec_grGood.l1 k (i : Int) l[i] l (l.length : Int) (i : Int) (l.length : Int) (j : Int) l own) (((List.range' j (l.length - j)).all fun j => okPair l i j) && r) := by
  induction d with
  | zero =>
    intro j hd hj
    refine Ev.step (f := fun k => spec_grGood.l0 k l (l.length : Int) ((i + 1 : Nat) : Int) l own) (fun k => ?_) (by rw [hd]; simpa using hr)
    simp only [spec_grGood.l1]
    rw [if_neg (by omega), wrap_succ i (by omega)]
  | succ d ih =>
    intro j hd hj
    have hlt : j < l.length := by omega
    have hbi := set_bounds l hn hg i hi
    have hbj := set_bounds l hn hg j hlt
    rw [hd, List.range'_succ, List.all_cons, Bool.and_assoc]
    have ih' := ih (j + 1) (by omega) (by omega)
    rw [show l.length - (j + 1) = d by omega] at ih'
    have hb := spec_grIn.eq l[i] (j : Int) hbi.1 hbi.2 (by omega)
    have hb2 := spec_grIn.eq l[j] (i : Int) hbj.1 hbj.2 (by omega)
    have step : ∀ k, spec_grGood.l1 (k + 1) (i : Int) l[i] l (l.length : Int) (i : Int) (l.length : Int) (j : Int) l own = if okPair l i j = true then spec_grGood.l1 k (i : Int) l[i] l (l.length : Int) (i : Int) (l.length : Int) ((j + 1 : Nat) : Int) l own else some false := by
      intro k
      simp only [spec_grGood.l1]
      rw [if_pos (by omega), hb, Option.bind_some, okPair_eq l i j hi hlt]
      cases e1 : bit l[i] (j : Int)
      · simp only [Bool.false_eq_true, if_false, Bool.not_false, Bool.true_or, if_true]
        rw [wrap_succ j (by omega)]
      · simp only [if_true, Bool.not_true, Bool.false_or]
        by_cases e2 : i = j
        · subst e2
          simp
        · rw [if_neg (by omega), if_pos (by omega), if_pos (by omega), rd_get l j hlt, hb2, Option.bind_some, wrap_succ j (by omega)]
          simp [e2]
    cases e : okPair l i j
    · rw [Bool.false_and]
      exact now fun k => by rw [step k, e]; rfl
    · rw [Bool.true_and]
      exact Ev.step (fun k => by rw [step k, e]; rfl) ih'
theorem spec_grGood.outer (l : List Int) (own : Bool) (hn : l.length ≤ 16) (hg : ∀ x ∈ l, 0 ≤ x ∧ x < 2 ^ l.length) (d : Nat) :
    ∀ i : Nat, l.length - i = d → i ≤ l.length → Ev (fun k => spec_grGood.l0 k l (l.length : Int) (i : Int) l own) ((List.range' i (l.length - i)).all fun i => (List.range' 0 l.length).all fun j => okPair l i j) := by
  induction d with
  | zero =>
    intro i hd hi
    refine now fun k => ?_
    simp only [spec_grGood.l0]
    rw [if_neg (by omega), hd]
    rfl
  | succ d ih =>
    intro i hd hi
    have hlt : i < l.length := by omega
    rw [hd, List.range'_succ, List.all_cons]
    have ih' := ih (i + 1) (by omega) (by omega)
    rw [show l.length - (i + 1) = d by omega] at ih'
    refine Ev.step (f := fun k => spec_grGood.l1 k (i : Int) l[i] l (l.length : Int) (i : Int) (l.length : Int) ((0 : Nat) : Int) l own) (fun k => ?_) (spec_grGood.inner l own hn hg i hlt _ ih' l.length 0 (by omega) (by omega))
    simp only [spec_grGood.l0]
    rw [if_pos (by omega), if_pos (by omega), if_pos (by omega), rd_get l i hlt]
    rfl
theorem spec_grGood.ev (l : List Int) (own : Bool) (h : l.length < 4611686018427387904) : Ev (fun k => spec_grGood.f k l own) (good l) := by
  rw [good_eq]
  by_cases hn : 1 ≤ l.length ∧ l.length ≤ 16
  · have e1 : spec_grSize.f (l.length : Int) = some true := by rw [spec_grSize.eq, decide_eq_true (by omega), decide_eq_true (by omega)]; rfl
    have e2 := spec_l1All.ev l 0 (wrap64 ((shl .i64 1 (l.length : Int)) - 1)) h
    rw [whole_eq (by omega) (by omega)] at e2
    rw [show (decide (1 ≤ l.length ∧ l.length ≤ 16)) = true from decide_eq_true hn, Bool.true_and]
    have e3 : (l.all fun x => decide (0 ≤ x) && decide (x ≤ 2 ^ (l.length : Int).toNat - 1)) = l.all (inSet l.length) := by
      congr 1
      funext x
      unfold inSet
      rw [Int.toNat_natCast]
      congr 1
      rw [Bool.eq_iff_iff]
      simp only [decide_eq_true_eq]
      omega
    rw [e3] at e2
    obtain ⟨K, hK⟩ := e2
    by_cases hg : l.all (inSet l.length) = true
    · rw [hg, Bool.true_and]
      have hg' := inSet_all l hg
      obtain ⟨K2, hK2⟩ := spec_grGood.outer l own hn.2 hg' l.length 0 (by omega) (by omega)
      refine ⟨K + K2 + 1, fun k hk => ?_⟩
      obtain ⟨m, rfl⟩ : ∃ m, k = m + 1 := ⟨k - 1, by omega⟩
      have h1 : spec_l1All.f (m + 1) l 0 (2 ^ (l.length : Int).toNat - 1) = _ := hK (m + 1) (by omega)
      have h2 : spec_grGood.l0 m l (l.length : Int) ((0 : Nat) : Int) l own = _ := hK2 m (by omega)
      show spec_grGood.f (m + 1) l own = _
      unfold spec_grGood.f
      rw [e1, Option.bind_some, if_pos rfl, whole_eq (by omega) (by omega), h1, Option.bind_some, hg]
      simp only [spec_grGood.j0, Bool.not_true, Bool.false_eq_true, if_false]
      rw [Nat.sub_zero] at h2
      exact h2
    · replace hg := Bool.eq_false_iff.mpr hg
      rw [hg, Bool.false_and]
      refine ⟨K + 1, fun k hk => ?_⟩
      obtain ⟨m, rfl⟩ : ∃ m, k = m + 1 := ⟨k - 1, by omega⟩
      have h1 : spec_l1All.f (m + 1) l 0 (2 ^ (l.length : Int).toNat - 1) = _ := hK (m + 1) (by omega)
      show spec_grGood.f (m + 1) l own = _
      unfold spec_grGood.f
      rw [e1, Option.bind_some, if_pos rfl, whole_eq (by omega) (by omega), h1, Option.bind_some, hg]
      simp only [spec_grGood.j0, Bool.not_false, if_true]
  · have e1 : spec_grSize.f (l.length : Int) = some false := by
      rw [spec_grSize.eq]
      congr 1
      rw [Bool.and_eq_false_iff, decide_eq_false_iff_not, decide_eq_false_iff_not]
      omega
    rw [show (decide (1 ≤ l.length ∧ l.length ≤ 16)) = false from decide_eq_false hn, Bool.false_and]
    refine now fun k => ?_
    unfold spec_grGood.f
    rw [e1, Option.bind_some, if_neg (by decide)]
    simp only [spec_grGood.j0, if_true]

/-! spec_liGood -/
theorem spec_liGood.ev (l : List Int) (own : Bool) (h : l.length < 4611686018427387904) : Ev (fun k => spec_liGood.f k l own) (good l && decide (l.length ≤ 9)) := by
  obtain ⟨K, hK⟩ := spec_grGood.ev l own h
  refine ⟨K, fun k hk => ?_⟩
  have h1 : spec_grGood.f k l own = _ := hK k hk
  show spec_liGood.f k l own = _
  unfold spec_liGood.f
  rw [h1, Option.bind_some]
  cases good l
  · rfl
  · rw [if_pos rfl, Bool.true_and]
    congr 1
    rw [Bool.eq_iff_iff]
    simp only [decide_eq_true_eq]
    omega

/-! spec_grSet -/
theorem spec_grSet.ev (l : List Int) (own : Bool) (s : Int) (h : l.length < 4611686018427387904) : Ev (fun k => spec_grSet.f k l own s) (good l && inSet l.length s) := by
  obtain ⟨K, hK⟩ := spec_grGood.ev l own h
  refine ⟨K, fun k hk => ?_⟩
  have h1 : spec_grGood.f k l own = _ := hK k hk
  show spec_grSet.f k l own s = _
  unfold spec_grSet.f
  rw [h1, Option.bind_some]
  cases hg : good l
  · rfl
  · have hG := (good_iff l).1 hg
    have := hG.top
    rw [if_pos rfl, whole_eq (by omega) (by omega), spec_l1In.eq, Option.bind_some, Bool.true_and, inSet_eq]

/-! spec_liSet -/
theorem spec_liSet.ev (l : List Int) (own : Bool) (s : Int) (h : l.length < 4611686018427387904) : Ev (fun k => spec_liSet.f k l own s) (good l && decide (l.length ≤ 9) && inSet l.length s) := by
  obtain ⟨K, hK⟩ := ev_and (spec_liGood.ev l own h) (spec_grSet.ev l own s h)
  refine ⟨K, fun k hk => ?_⟩
  obtain ⟨h1, h2⟩ := hK k hk
  show spec_liSet.f k l own s = _
  unfold spec_liSet.f
  rw [h1, Option.bind_some, h2, Option.bind_some]
  cases good l <;> cases decide (l.length ≤ 9) <;> rfl

/-! spec_LitPress -/
theorem spec_LitPress.ev (l : List Int) (own : Bool) (s i : Int) (h : l.length < 4611686018427387904) : Ev (fun k => spec_LitPress.f k l own s i) (litWord l s [i]) := by
  obtain ⟨K, hK⟩ := spec_liSet.ev l own s h
  refine ⟨K, fun k hk => ?_⟩
  have h1 : spec_liSet.f k l own s = _ := hK k hk
  show spec_LitPress.f k l own s i = _
  unfold spec_LitPress.f litWord
  rw [h1, Option.bind_some]
  cases e1 : (good l && decide (l.length ≤ 9) && inSet l.length s)
  · rfl
  · have hG : GoodG l := (good_iff l).1 (by simp only [Bool.and_eq_true] at e1; exact e1.1.1)
    have hs : 0 ≤ s ∧ s < 2 ^ l.length := by simp only [Bool.and_eq_true] at e1; simpa [inSet] using e1.2
    have hp := pow16 hG.top
    rw [if_pos rfl, if_pos rfl, wrap_id (by omega) (by have := hG.top; omega), spec_l1In.eq, Option.bind_some, show (decide (0 ≤ i) && decide (i ≤ (l.length : Int) - 1)) = isBtn l.length i from rfl]
    cases e2 : isBtn l.length i
    · simp [e2]
    · have hb : 0 ≤ i ∧ i < l.length := by simp only [isBtn, Bool.and_eq_true, decide_eq_true_eq] at e2; omega
      have hm := hG.sets (rd l i) (rd_mem l _ hb.1 hb.2)
      rw [if_pos rfl, spec_grIn.eq s i hs.1 (by omega) hb.1, Option.bind_some, show (decide ([i].length ≤ 200) && [i].all (isBtn l.length)) = true by rw [List.all_cons, e2]; rfl, if_pos rfl, litGo]
      cases e3 : bit s i
      · rfl
      · rw [if_pos rfl, if_pos rfl, if_pos hb.1, if_pos hb.2, xor_eq hs.1 (by omega) hm.1 (by omega)]
        rfl

/-! spec_grCount -/
theorem spec_grCount.loop : ∀ (k : Nat) (x : Nat) (o : Int), k ≤ 63 → x < 2 ^ k → 0 ≤ o → o + 64 < 9223372036854775807 → o ≤ 63 - k → Ev (fun n => spec_grCount.l0 n (x : Int) o) (o + (cnt k x : Nat))
  | 0, x, o, _, hx, h0, h1, _ => by
    have : x = 0 := by omega
    subst this
    refine now fun k => ?_
    simp only [spec_grCount.l0]
    rw [if_neg (by decide)]
    simp [cnt]
  | k + 1, x, o, hk, hx, h0, h1, h2 => by
    by_cases e : x = 0
    · subst e
      refine now fun k => ?_
      simp only [spec_grCount.l0]
      rw [if_neg (by decide), cnt_zero]
      simp
    · have hx2 : x / 2 < 2 ^ k := by rw [Nat.pow_succ] at hx; omega
      have h63 : x < 2 ^ 63 := Nat.lt_of_lt_of_le hx (Nat.pow_le_pow_right (by decide) hk)
      have ih := spec_grCount.loop k (x / 2) (o + ((x % 2 : Nat) : Int)) (by omega) hx2 (by omega) (by omega) (by omega)
      rw [cnt, show o + ((x % 2 + cnt k (x / 2) : Nat) : Int) = o + ((x % 2 : Nat) : Int) + ((cnt k (x / 2) : Nat) : Int) by omega]
      refine Ev.step (f := fun n => spec_grCount.l0 n ((x / 2 : Nat) : Int) (o + ((x % 2 : Nat) : Int))) (fun n => ?_) ih
      simp only [spec_grCount.l0]
      rw [if_pos (by omega), Int.tdiv_eq_ediv_of_nonneg (by omega), Int.tmod_eq_emod_of_nonneg (by omega), wrap_id (by omega) (by omega), wrap_id (by omega) (by omega)]
      norm_cast
theorem spec_grCount.ev (x : Int) (h0 : 0 ≤ x) (h1 : x < 2 ^ 63) : Ev (fun k => spec_grCount.f k x) ((pop x.toNat : Nat) : Int) := by
  have := spec_grCount.loop 63 x.toNat 0 (by omega) (by omega) (by omega) (by omega) (by omega)
  rw [Int.toNat_of_nonneg h0, Int.zero_add] at this
  rw [pop_cnt 63 x.toNat (by omega)]
  exact this

/-! spec_liReflect -/
theorem spec_liReflect.ev (l : List Int) (own : Bool) (hG : GoodG l) (s i : Int) (h0 : 0 ≤ s) (h1 : s < 2 ^ l.length) (g0 : 0 ≤ i) (g1 : i < l.length) : Ev (fun k => spec_liReflect.f k l own s i) (reflOne l s i) := by
  have h16 := pow16 hG.top
  have := hG.top
  have hm := hG.sets (rd l i) (rd_mem l _ g0 g1)
  have hp : (2 ^ i.toNat : Nat) < 2 ^ l.length := Nat.pow_lt_pow_right (by decide) (by omega)
  have hp0 : (0 : Int) ≤ ((2 ^ i.toNat : Nat) : Int) := Int.natCast_nonneg _
  have hc : ((2 ^ l.length : Nat) : Int) = 2 ^ l.length := by norm_cast
  have hle : (rd l i).toNat &&& s.toNat ≤ s.toNat := Nat.and_le_right
  obtain ⟨K, hK⟩ := spec_grCount.ev (((rd l i).toNat &&& s.toNat : Nat) : Int) (by omega) (by omega)
  refine ⟨K, fun k hk => ?_⟩
  have hk1 : spec_grCount.f k (((rd l i).toNat &&& s.toNat : Nat) : Int) = _ := hK k hk
  show spec_liReflect.f k l own s i = _
  unfold spec_liReflect.f
  rw [if_pos g0, if_pos g1, and_eq hm.1 (by omega) h0 (by omega), hk1, Option.bind_some, shl_one g0 (by omega), xor_eq h0 (by omega) (by omega) (by omega), Int.toNat_natCast, Int.toNat_natCast, Int.tmod_eq_emod_of_nonneg (Int.natCast_nonneg _)]
  unfold reflOne
  by_cases e : pop ((rd l i).toNat &&& s.toNat) % 2 = 1
  · rw [if_pos (by omega), if_pos e]
  · rw [if_neg (by omega), if_neg e]

/-! spec_liReach -/
/-- One set that is met, or not. -/
def meet (out : List Nat) (t : Nat) : List Nat := if out.contains t = true then out else out ++ [t]
theorem spec_liReach.step (l : List Int) (own r : Bool) (hG : GoodG l) (hn : l.length ≤ 9) (out : List Nat) (ho : OrbOk (2 ^ l.length) out) (kk i : Nat) (hk : kk < out.length) (hi : i < l.length) :
    ∃ K, ∀ k, K ≤ k → spec_liReach.l1 (k + 1) r (marksOf (2 ^ l.length) out) (ints out) (kk : Int) l (l.length : Int) (i : Int) l own = spec_liReach.l1 k r (marksOf (2 ^ l.length) (meet out (moveOf l r out[kk] i))) (ints (meet out (moveOf l r out[kk] i))) (kk : Int) l (l.length : Int) ((i + 1 : Nat) : Int) l own := by
  have hp := pow9 hn
  have hc := pow_cast l.length
  have hs := ho.low _ (List.getElem_mem hk)
  have hl := ho.length
  have ht := moveOf_lt l hG r out[kk] i hs hi
  have hx := hG.sets (rd l (i : Int)) (rd_mem l _ (by omega) (by omega))
  have h16 := pow16 hG.top
  obtain ⟨K, hK⟩ := spec_liReflect.ev l own hG (out[kk] : Int) (i : Int) (by omega) (by omega) (by omega) (by omega)
  refine ⟨K, fun k hkk => ?_⟩
  have hR : spec_liReflect.f k l own (out[kk] : Int) (i : Int) = _ := hK k hkk
  have hb := reflOne_bounds l (out[kk] : Int) (i : Int) (by omega) (by omega) (by omega) (by omega)
  have hin := spec_grIn.eq (out[kk] : Int) (i : Int) (by omega) (by omega) (by omega)
  have fin : ∀ t : Nat, t < 2 ^ l.length → (if 0 ≤ (t : Int) then (if (t : Int) < ((marksOf (2 ^ l.length) out).length : Int) then (if rdOf false (marksOf (2 ^ l.length) out) (t : Int) = true then (spec_liReach.l1 k r (marksOf (2 ^ l.length) out) (ints out) (kk : Int) l (l.length : Int) ((i + 1 : Nat) : Int) l own) else (if (ints out).length < 17592186044416 then (spec_liReach.l1 k r ((marksOf (2 ^ l.length) out).set (t : Int).toNat true) (ints out ++ [(t : Int)]) (kk : Int) l (l.length : Int) ((i + 1 : Nat) : Int) l own) else (none))) else (none)) else (none)) = spec_liReach.l1 k r (marksOf (2 ^ l.length) (meet out t)) (ints (meet out t)) (kk : Int) l (l.length : Int) ((i + 1 : Nat) : Int) l own := by
    intro t ht
    have e1 : rdOf false (marksOf (2 ^ l.length) out) (t : Int) = out.contains t := marksOf_get _ _ _ ht
    rw [if_pos (by omega), if_pos (by rw [marksOf_length]; omega), e1]
    unfold meet
    split
    · rfl
    · rw [if_pos (by rw [ints_length]; omega), Int.toNat_natCast, marksOf_set _ _ _ ht, ints_append]
      rfl
  simp only [spec_liReach.l1]
  rw [if_pos (by omega), if_pos (by omega), if_pos (by omega), if_pos (by omega), if_pos (by rw [ints_length]; omega), ints_get out kk hk, wrap_succ i (by omega)]
  cases r
  · have em : moveOf l false out[kk] i = if out[kk].testBit i = true then out[kk] ^^^ (rd l (i : Int)).toNat else out[kk] := rfl
    rw [em] at ht ⊢
    rw [if_neg (show ¬ (false = true) by decide), hin, Option.bind_some, show bit (out[kk] : Int) (i : Int) = out[kk].testBit i from rfl]
    cases hb : out[kk].testBit i
    · rw [hb, if_neg (by decide)] at ht
      simp only [Bool.false_eq_true, if_false]
      exact fin _ ht
    · rw [hb, if_pos rfl] at ht
      simp only [if_true]
      rw [xor_eq (by omega) (by omega) hx.1 (by omega)]
      exact fin _ ht
  · have em : moveOf l true out[kk] i = (reflOne l (out[kk] : Int) (i : Int)).toNat := rfl
    rw [em] at ht ⊢
    rw [if_pos rfl, hR, Option.bind_some]
    have e2 : reflOne l (out[kk] : Int) (i : Int) = (((reflOne l (out[kk] : Int) (i : Int)).toNat : Nat) : Int) := (Int.toNat_of_nonneg hb.1).symm
    generalize (reflOne l (out[kk] : Int) (i : Int)).toNat = t at ht e2 ⊢
    rw [e2]
    exact fin t ht
theorem orbIn_get {mv : Nat → Nat → Nat} (s : Nat) (d i : Nat) (out : List Nat) (kk : Nat) (hk : kk < out.length) : ∃ h : kk < (meet out (mv s i)).length, (meet out (mv s i))[kk] = out[kk] := by
  unfold meet
  split
  · exact ⟨hk, rfl⟩
  · exact ⟨by simp; omega, by rw [List.getElem_append_left hk]⟩
theorem spec_liReach.inner (l : List Int) (own r : Bool) (hG : GoodG l) (hn : l.length ≤ 9) (kk : Nat) (R : List Int) (s : Nat) (fin : List Nat) (hfin : Ev (fun k => spec_liReach.l0 k r (marksOf (2 ^ l.length) fin) (ints fin) ((kk + 1 : Nat) : Int) l own) R) :
    ∀ (d i : Nat) (out : List Nat), i + d = l.length → OrbOk (2 ^ l.length) out → (∃ h : kk < out.length, out[kk] = s) → orbIn (moveOf l r) s d i out = fin →
      Ev (fun k => spec_liReach.l1 k r (marksOf (2 ^ l.length) out) (ints out) (kk : Int) l (l.length : Int) (i : Int) l own) R
  | 0, i, out, hd, ho, hk, hf => by
    obtain ⟨hk, rfl⟩ := hk
    have hp := pow9 hn
    have hl := ho.length
    have : out = fin := hf
    subst this
    refine Ev.step (f := fun k => spec_liReach.l0 k r (marksOf (2 ^ l.length) out) (ints out) ((kk + 1 : Nat) : Int) l own) (fun k => ?_) hfin
    simp only [spec_liReach.l1]
    rw [if_neg (by omega), wrap_succ kk (by omega)]
  | d + 1, i, out, hd, ho, hk, hf => by
    obtain ⟨hk, hs⟩ := hk
    have hlow := ho.low _ (List.getElem_mem hk)
    have ht := moveOf_lt l hG r out[kk] i hlow (by omega)
    obtain ⟨K1, hK1⟩ := spec_liReach.step l own r hG hn out ho kk i hk (by omega)
    have hg := orbIn_get (mv := moveOf l r) s d i out kk hk
    subst hs
    obtain ⟨K2, hK2⟩ := spec_liReach.inner l own r hG hn kk R out[kk] fin hfin d (i + 1) (meet out (moveOf l r out[kk] i)) (by omega) (ho.more ht) hg hf
    refine ⟨K1 + K2 + 1, fun k hkk => ?_⟩
    obtain ⟨j, rfl⟩ : ∃ j, k = j + 1 := ⟨k - 1, by omega⟩
    show spec_liReach.l1 (j + 1) r (marksOf (2 ^ l.length) out) (ints out) (kk : Int) l (l.length : Int) (i : Int) l own = _
    rw [hK1 j (by omega)]
    exact hK2 j (by omega)
theorem spec_liReach.tail (N : Nat) (hN : N ≤ 512) (out : List Nat) : ∀ (d i : Nat) (o : List Int), i + d = N → o.length ≤ i → Ev (fun k => spec_liReach.l2 k o (marksOf N out) (N : Int) (i : Int)) (o ++ ints ((List.range' i d).filter fun x => out.contains x))
  | 0, i, o, hd, ho => by
    refine now fun k => ?_
    simp only [spec_liReach.l2]
    rw [if_neg (by omega)]
    simp [ints]
  | d + 1, i, o, hd, ho => by
    have e1 : rdOf false (marksOf N out) (i : Int) = out.contains i := marksOf_get _ _ _ (by omega)
    rw [List.range'_succ, List.filter_cons]
    cases e : out.contains i
    · refine Ev.step (f := fun k => spec_liReach.l2 k o (marksOf N out) (N : Int) ((i + 1 : Nat) : Int)) (fun k => ?_) (by simpa using spec_liReach.tail N hN out d (i + 1) o (by omega) (by omega))
      simp only [spec_liReach.l2]
      rw [if_pos (by omega), if_pos (by omega), if_pos (by rw [marksOf_length]; omega), e1, e, if_neg (by decide), wrap_succ i (by omega)]
    · refine Ev.step (f := fun k => spec_liReach.l2 k (o ++ [(i : Int)]) (marksOf N out) (N : Int) ((i + 1 : Nat) : Int)) (fun k => ?_) (by
        have := spec_liReach.tail N hN out d (i + 1) (o ++ [(i : Int)]) (by omega) (by simp; omega)
        rw [List.append_assoc] at this
        simpa [ints] using this)
      simp only [spec_liReach.l2]
      rw [if_pos (by omega), if_pos (by omega), if_pos (by rw [marksOf_length]; omega), e1, e, if_pos rfl, if_pos (by omega), wrap_succ i (by omega)]
theorem spec_liReach.outer (l : List Int) (own r : Bool) (hG : GoodG l) (hn : l.length ≤ 9) (R : List Nat) (hR : ∀ out, out = R → Ev (fun k => spec_liReach.l2 k [] (marksOf (2 ^ l.length) out) (((marksOf (2 ^ l.length) out).length : Nat) : Int) 0) (ints (rising (2 ^ l.length) R))) :
    ∀ (f kk : Nat) (out : List Nat), kk + f = 2 ^ l.length → OrbOk (2 ^ l.length) out → orbGo (moveOf l r) l.length f kk out = R → Ev (fun k => spec_liReach.l0 k r (marksOf (2 ^ l.length) out) (ints out) (kk : Int) l own) (ints (rising (2 ^ l.length) R))
  | 0, kk, out, hf, ho, hR0 => by
    have hl := ho.length
    refine Ev.step (f := fun k => spec_liReach.l2 k [] (marksOf (2 ^ l.length) out) (((marksOf (2 ^ l.length) out).length : Nat) : Int) 0) (fun k => ?_) (hR out hR0)
    simp only [spec_liReach.l0]
    rw [if_neg (by rw [ints_length]; omega)]
  | f + 1, kk, out, hf, ho, hR0 => by
    unfold orbGo at hR0
    by_cases h : kk < out.length
    · rw [dif_pos h] at hR0
      have hs := ho.low _ (List.getElem_mem h)
      have ho2 := orbIn_ok l.length 0 out (fun j _ hj => moveOf_lt l hG r out[kk] j hs (by omega)) ho
      have ih := spec_liReach.outer l own r hG hn R hR f (kk + 1) _ (by omega) ho2 hR0
      have hi := spec_liReach.inner l own r hG hn kk _ out[kk] _ ih l.length 0 out (by omega) ho ⟨h, rfl⟩ rfl
      refine Ev.step (f := fun k => spec_liReach.l1 k r (marksOf (2 ^ l.length) out) (ints out) (kk : Int) l (l.length : Int) ((0 : Nat) : Int) l own) (fun k => ?_) hi
      simp only [spec_liReach.l0]
      rw [if_pos (by rw [ints_length]; omega)]
      rfl
    · rw [dif_neg h] at hR0
      refine Ev.step (f := fun k => spec_liReach.l2 k [] (marksOf (2 ^ l.length) out) (((marksOf (2 ^ l.length) out).length : Nat) : Int) 0) (fun k => ?_) (hR out hR0)
      simp only [spec_liReach.l0]
      rw [if_neg (by rw [ints_length]; omega)]
theorem spec_liReach.ev (l : List Int) (own r : Bool) (hG : GoodG l) (hn : l.length ≤ 9) (s : Nat) (hs : s < 2 ^ l.length) : Ev (fun k => spec_liReach.f k l own (s : Int) r) (ints (orbitOf l r s)) := by
  have hp := pow9 hn
  have e0 : shl .i64 1 (l.length : Int) = ((2 ^ l.length : Nat) : Int) := by rw [shl_one (by omega) (by omega), Int.toNat_natCast]
  have ho : OrbOk (2 ^ l.length) [s] := ⟨by simp, fun x hx => by rw [List.mem_singleton.1 hx]; exact hs⟩
  have hm : (List.replicate (2 ^ l.length) false).set s true = marksOf (2 ^ l.length) [s] := by
    have h1 : List.replicate (2 ^ l.length) false = marksOf (2 ^ l.length) [] := by
      apply List.ext_getElem
      · simp [marksOf]
      · intro i h1 h2; simp [marksOf]
    rw [h1, marksOf_set _ _ _ hs]
    rfl
  have main := spec_liReach.outer l own r hG hn (orbL (moveOf l r) l.length s) (fun out e => by
    subst e
    have := spec_liReach.tail (2 ^ l.length) hp (orbL (moveOf l r) l.length s) (2 ^ l.length) 0 [] (by omega) (by simp)
    rw [marksOf_length]
    rw [List.nil_append, ← List.range_eq_range'] at this
    exact this) (2 ^ l.length) 0 [s] (by omega) ho rfl
  obtain ⟨K, hK⟩ := main
  refine ⟨K, fun k hk => ?_⟩
  have h1 := hK k hk
  show spec_liReach.f k l own (s : Int) r = _
  unfold spec_liReach.f
  rw [e0, if_pos (by omega), if_pos (by rw [Int.toNat_natCast]; omega), Option.bind_some, if_pos (by omega), if_pos (by rw [List.length_replicate, Int.toNat_natCast]; omega), Int.toNat_natCast, Int.toNat_natCast, hm]
  exact h1
end Go.Proofs.Ytjkijnggjjoheaa.Pure
