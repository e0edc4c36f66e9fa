/- What the functions of FnExactGridTable compute, in plain words. -/
import Derived.Test.YtijccendobcndaaPFnExactGridTablex4
import Derived.Test.YtijccendobcndaaM1
import Derived.Test.YtijccendobcndaaM2
import Derived.Test.YtijccendobcndaaM4
namespace Go.Proofs.Ytijccendobcndaa.Pure
open Go.RowKit Go.Proofs.Ytijccendobcndaa.PFnExactGridTable Go.Proofs.YtijccendobcndaaW.PrintWords Go.Proofs.YtijccendobcndaaW.PrintLast Go.Proofs.YtijccendobcndaaW.PrintMore Go.Proofs.YtijccendobcndaaM
set_option linter.unusedVariables false
set_option linter.unusedSimpArgs false
/-! laws_eqIntS -/
theorem laws_eqIntS.loop (a b : List Int) (hl : a.length = b.length) (h : a.length < 4611686018427387904) (d : Nat) : ∀ i : Nat, a.length - i = d → i ≤ a.length → Ev (fun k => laws_eqIntS.l0 k a b (i : Int)) (decide (a.drop i = b.drop i)) := by
  induction d with
  | zero =>
    intro i hd hi
    refine now fun k => ?_
    simp only [laws_eqIntS.l0]
    rw [if_neg (by omega), List.drop_eq_nil_of_le (by omega), List.drop_eq_nil_of_le (by omega)]
    rfl
  | succ d ih =>
    intro i hd hi
    have hlt : i < a.length := by omega
    have hltb : i < b.length := by omega
    rw [drop_cons a i hlt, drop_cons b i hltb]
    by_cases e : a[i] = b[i]
    · have := ih (i + 1) (by omega) (by omega)
      refine Ev.step (f := fun k => laws_eqIntS.l0 k a b ((i + 1 : Nat) : Int)) (fun k => ?_) (by rw [show decide (a[i] :: a.drop (i + 1) = b[i] :: b.drop (i + 1)) = decide (a.drop (i + 1) = b.drop (i + 1)) by simp only [List.cons.injEq, e, true_and]]; exact this)
      simp only [laws_eqIntS.l0]
      rw [if_pos (by omega), if_pos (by omega), if_pos (by omega), rd_get a i hlt, rd_get b i hltb, if_pos e, wrap_succ i (by omega)]
    · refine now fun k => ?_
      simp only [laws_eqIntS.l0]
      rw [if_pos (by omega), if_pos (by omega), if_pos (by omega), rd_get a i hlt, rd_get b i hltb, if_neg e, show decide (a[i] :: a.drop (i + 1) = b[i] :: b.drop (i + 1)) = false by simp only [List.cons.injEq, e, false_and, decide_false]]
theorem laws_eqIntS.ev (a b : List Int) (h : a.length < 4611686018427387904) : Ev (fun k => laws_eqIntS.f k a b) (decide (a = b)) := by
  by_cases hl : a.length = b.length
  · have := laws_eqIntS.loop a b hl h a.length 0 (by omega) (by omega)
    refine Ev.congr (f := fun k => laws_eqIntS.l0 k a b ((0 : Nat) : Int)) (fun k => ?_) (by simpa using this)
    unfold laws_eqIntS.f
    rw [if_pos (by omega)]
    rfl
  · refine always fun k => ?_
    unfold laws_eqIntS.f
    rw [if_neg (by omega)]
    have : ¬ a = b := fun e => hl (by rw [e])
    simp [this]

/-! laws_markIntS -/
theorem laws_markIntS.loop (n : Nat) (a : Int) (h0 : 0 ≤ a) (h1 : a + n < 4611686018427387904) (d : Nat) : ∀ (i : Nat) (o : List Int), o.length = n → n - i = d → i ≤ n → o.take i = (List.range i).map (fun (j : Nat) => a + (j : Int)) → Ev (fun k => laws_markIntS.l0 k o (a + i) (i : Int)) (a + n, marks n a) := by
  induction d with
  | zero =>
    intro i o ho hd hi ht
    refine now fun k => ?_
    have e : i = n := by omega
    subst e
    simp only [laws_markIntS.l0]
    rw [if_neg (by omega)]
    rw [List.take_of_length_le (by omega)] at ht
    rw [ht]
    rfl
  | succ d ih =>
    intro i o ho hd hi ht
    refine Ev.step (f := fun k => laws_markIntS.l0 k (o.set i (a + i)) (a + ((i + 1 : Nat) : Int)) ((i + 1 : Nat) : Int)) (fun k => ?_) (ih (i + 1) (o.set i (a + i)) (by simp [ho]) (by omega) (by omega) ?_)
    · simp only [laws_markIntS.l0]
      rw [if_pos (by omega), if_pos (by omega), wrap_succ i (by omega), wrap_id (by omega) (by omega), show a + (i : Int) + 1 = a + ((i + 1 : Nat) : Int) by omega]
      rfl
    · rw [List.take_succ_eq_append_getElem (by simp; omega), List.range_succ, List.map_append]
      simp [List.take_set_of_le, ht]
theorem laws_markIntS.ev (l : List Int) (a : Int) (h0 : 0 ≤ a) (h1 : a + l.length < 4611686018427387904) : Ev (fun k => laws_markIntS.f k l a) (a + l.length, marks l.length a) := by
  refine Ev.congr (f := fun k => laws_markIntS.l0 k l (a + ((0 : Nat) : Int)) ((0 : Nat) : Int)) (fun k => ?_) (laws_markIntS.loop l.length a h0 h1 l.length 0 l rfl (by omega) (by omega) (by simp))
  unfold laws_markIntS.f
  congr 1
  omega

/-! laws_heldIntS -/
theorem laws_heldIntS.loop (n : Nat) (a : Int) (h0 : 0 ≤ a) (h1 : a + n < 4611686018427387904) (d : Nat) : ∀ i : Nat, n - i = d → i ≤ n → Ev (fun k => laws_heldIntS.l0 k (marks n a) (a + i) (i : Int)) (a + n) := by
  have hl : (marks n a).length = n := by simp [marks]
  induction d with
  | zero =>
    intro i hd hi
    refine now fun k => ?_
    simp only [laws_heldIntS.l0]
    rw [if_neg (by omega), show i = n by omega]
  | succ d ih =>
    intro i hd hi
    refine Ev.step (f := fun k => laws_heldIntS.l0 k (marks n a) (a + ((i + 1 : Nat) : Int)) ((i + 1 : Nat) : Int)) (fun k => ?_) (ih (i + 1) (by omega) (by omega))
    simp only [laws_heldIntS.l0]
    rw [if_pos (by omega), if_pos (by omega), rd_get _ i (by omega), if_pos (by simp [marks]), wrap_succ i (by omega), wrap_id (by omega) (by omega), show a + (i : Int) + 1 = a + ((i + 1 : Nat) : Int) by omega]
theorem laws_heldIntS.ev (n : Nat) (a : Int) (h0 : 0 ≤ a) (h1 : a + n < 4611686018427387904) : Ev (fun k => laws_heldIntS.f k (marks n a) a) (a + n) := by
  refine Ev.congr (f := fun k => laws_heldIntS.l0 k (marks n a) (a + ((0 : Nat) : Int)) ((0 : Nat) : Int)) (fun k => ?_) (laws_heldIntS.loop n a h0 h1 n 0 (by omega) (by omega))
  unfold laws_heldIntS.f
  congr 1
  omega

/-! spec_l1In -/
theorem spec_l1In.eq (x a b : Int) : spec_l1In.f x a b = some (decide (a ≤ x) && decide (x ≤ b)) := by
  unfold spec_l1In.f
  by_cases h : a ≤ x
  · rw [if_pos (by omega)]; simp [h]
  · rw [if_neg (by omega)]; simp [h]

/-! spec_prSide -/
theorem spec_prSide.eq (a : Int) : spec_prSide.f a = some (isSide a) := by
  unfold spec_prSide.f
  rw [spec_l1In.eq]
  rfl

/-! spec_poFibonacci -/
theorem spec_poFibonacci.loop : ∀ (d i : Nat), i + d ≤ 60 → Ev (fun k => spec_poFibonacci.l0 k (d : Int) ((fibp i : Nat) : Int) ((fibp (i + 1) : Nat) : Int)) ((fibp (i + 1 + d) : Nat) : Int)
  | 0, i, h => by
    refine now fun k => ?_
    simp only [spec_poFibonacci.l0]
    rw [if_neg (by decide)]
  | d + 1, i, h => by
    have ih := spec_poFibonacci.loop d (i + 1) (by omega)
    have p1 : (2 : Nat) ^ (i + 1) ≤ 2 ^ 61 := Nat.pow_le_pow_right (by decide) (by omega)
    have p0 : (2 : Nat) ^ i ≤ 2 ^ 61 := Nat.pow_le_pow_right (by decide) (by omega)
    rw [show (2 : Nat) ^ 61 = 2305843009213693952 from rfl] at p0 p1
    have f0 := fibp_lt i
    have f1 := fibp_lt (i + 1)
    rw [show i + 1 + 1 + d = i + 1 + (d + 1) by omega] at ih
    refine Ev.step (f := fun k => spec_poFibonacci.l0 k (d : Int) ((fibp (i + 1) : Nat) : Int) ((fibp (i + 1 + 1) : Nat) : Int)) (fun k => ?_) ih
    simp only [spec_poFibonacci.l0]
    rw [if_pos (by omega), wrap_id (by omega) (by omega), show ((d + 1 : Nat) : Int) - 1 = (d : Int) by omega, wrap_id (by omega) (by omega), show ((fibp (i + 1) : Nat) : Int) * 2 = ((fibp (i + 1) * 2 : Nat) : Int) by omega, xor_nat _ _ (by omega) (by omega)]
    rfl
theorem spec_poFibonacci.ev (n : Nat) (h : n ≤ 50) : Ev (fun k => spec_poFibonacci.f k (n : Int)) ((fibp n : Nat) : Int) := by
  cases n with
  | zero =>
    refine ⟨1, fun k hk => ?_⟩
    obtain ⟨m, rfl⟩ : ∃ m, k = m + 1 := ⟨k - 1, by omega⟩
    rfl
  | succ n =>
    have ih := spec_poFibonacci.loop n 0 (by omega)
    rw [show 0 + 1 + n = n + 1 by omega] at ih
    refine Ev.step (f := fun k => spec_poFibonacci.l0 k (n : Int) ((fibp 0 : Nat) : Int) ((fibp (0 + 1) : Nat) : Int)) (fun k => ?_) ih
    show spec_poFibonacci.l0 (k + 1) ((n + 1 : Nat) : Int) 1 0 = _
    simp only [spec_poFibonacci.l0]
    rw [if_pos (by omega), wrap_id (by omega) (by omega), show ((n + 1 : Nat) : Int) - 1 = (n : Int) by omega, wrap_id (by omega) (by omega), show Go.bits .xor .i64 ((0 : Int) * 2) 1 = ((fibp (0 + 1) : Nat) : Int) from xor_nat 0 1 (by decide) (by decide)]
    rfl

/-! spec_grIn -/
theorem spec_grIn.eq (x i : Int) (hx : 0 ≤ x) (hx1 : x < 2 ^ 63) (hi : 0 ≤ i) : spec_grIn.f x i = some (bit x i) := by unfold spec_grIn.f; rw [if_pos hi, in_bit hx hx1 hi]

/-! spec_soTop -/
theorem spec_soTop.loop : ∀ (n : Nat) (x : Nat) (o : Int), blen x = n → n ≤ 63 → -1 ≤ o → o + n ≤ 100 → Ev (fun k => spec_soTop.l0 k (x : Int) o) (o + n)
  | 0, x, o, hn, _, h0, h1 => by
    have : x = 0 := by
      by_cases e : x = 0
      · exact e
      · rw [blen_pos e] at hn; omega
    subst this
    refine now fun k => ?_
    simp only [spec_soTop.l0]
    rw [if_neg (by decide)]
    simp
  | n + 1, x, o, hn, h63, h0, h1 => by
    have hb : x < 2 ^ 63 := lt_of_blen (by omega)
    have hx : x ≠ 0 := fun e => by rw [e, blen_zero] at hn; omega
    rw [blen_pos hx] at hn
    have ih := spec_soTop.loop n (x / 2) (o + 1) (by omega) (by omega) (by omega) (by omega)
    rw [show o + 1 + (n : Int) = o + ((n + 1 : Nat) : Int) by omega] at ih
    refine Ev.step (f := fun k => spec_soTop.l0 k ((x / 2 : Nat) : Int) (o + 1)) (fun k => ?_) ih
    simp only [spec_soTop.l0]
    rw [if_pos (by omega), Int.tdiv_eq_ediv_of_nonneg (by omega), wrap_id (by omega) (by omega), wrap_id (by omega) (by omega), show (x : Int) / 2 = ((x / 2 : Nat) : Int) by omega]
theorem spec_soTop.ev (x : Nat) (hx : x < 2 ^ 63) : Ev (fun k => spec_soTop.f k (x : Int)) (pdeg x) := by
  have hb : blen x ≤ 63 := blen_le hx
  have := spec_soTop.loop (blen x) x (-1) rfl hb (by omega) (by omega)
  rw [show (-1 : Int) + (blen x : Int) = pdeg x by unfold pdeg; omega] at this
  exact this

/-! spec_poDegree -/
theorem spec_poDegree.ev (x : Nat) (hx : x < 2 ^ 63) : Ev (fun k => spec_poDegree.f k (x : Int)) (pdeg x) := by
  obtain ⟨K, hK⟩ := spec_soTop.ev x hx
  refine ⟨K, fun k hk => ?_⟩
  have h1 : spec_soTop.f k (x : Int) = _ := hK k hk
  show spec_poDegree.f k (x : Int) = _
  unfold spec_poDegree.f
  rw [h1]
  rfl

/-! spec_poTimes -/
theorem spec_poTimes.three (o : Nat) (h : o < 2 ^ 60) : Ev (fun k => spec_poTimes.f k (o : Int) 3) ((o ^^^ (o * 2) : Nat) : Int) := by
  refine ⟨3, fun k hk => ?_⟩
  obtain ⟨m, rfl⟩ : ∃ m, k = m + 1 + 1 + 1 := ⟨k - 3, by omega⟩
  show spec_poTimes.l0 (m + 1 + 1 + 1) (o : Int) 3 0 = _
  have hx : o < 2 ^ 63 := by omega
  have e0 : Go.bits .xor .i64 0 (o : Int) = (o : Int) := by
    have := xor_nat 0 o (by decide) hx
    rwa [Nat.zero_xor] at this
  simp only [spec_poTimes.l0]
  rw [if_pos (by decide), if_pos (by decide), show wrap64 (Int.tdiv 3 2) = 1 by rw [show Int.tdiv 3 2 = 1 from rfl]; exact wrap_id (by decide) (by decide), if_pos (by decide), if_pos (by decide), show wrap64 (Int.tdiv 1 2) = 0 by rw [show Int.tdiv 1 2 = 0 from rfl]; exact wrap_id (by decide) (by decide), if_neg (by decide), e0, wrap_id (by omega) (by omega), show (o : Int) * 2 = ((o * 2 : Nat) : Int) by omega, xor_nat _ _ hx (by omega)]

/-! spec_poShift -/
theorem spec_poShift.loop (p : Nat) (hp : p < 2 ^ 62) : ∀ (k o d : Nat), o < 2 ^ d → d + k ≤ 60 → Ev (fun n => spec_poShift.l0 n (p : Int) (o : Int) ((k : Int) - 1)) ((pshiftm p k o : Nat) : Int)
  | 0, o, d, ho, hd => by
    refine now fun n => ?_
    simp only [spec_poShift.l0]
    rw [if_neg (by omega)]
    rfl
  | k + 1, o, d, ho, hd => by
    have hs := shiftstep_lt ho (p.testBit k)
    have p0 : (2 : Nat) ^ d ≤ 2 ^ 60 := Nat.pow_le_pow_right (by decide) (by omega)
    rw [show (2 : Nat) ^ 60 = 1152921504606846976 from rfl] at p0
    have hh := spec_grIn.eq (p : Int) (k : Int) (by omega) (by omega) (by omega)
    rw [show bit (p : Int) (k : Int) = p.testBit k from rfl] at hh
    have hx : o ^^^ (o * 2) < 2 ^ 63 := Nat.xor_lt_two_pow (by omega) (by omega)
    obtain ⟨K, hK⟩ := ev_and (spec_poTimes.three o (by omega)) (spec_poShift.loop p hp k _ (d + 1) hs (by omega))
    refine ⟨K + 1, fun n hn => ?_⟩
    obtain ⟨m, rfl⟩ : ∃ m, n = m + 1 := ⟨n - 1, by omega⟩
    obtain ⟨k1, k2⟩ := hK m (by omega)
    simp only [spec_poShift.l0, pshiftm]
    rw [if_pos (by omega), show ((k + 1 : Nat) : Int) - 1 = (k : Int) by omega, hh, k1, Option.bind_some, Option.bind_some, wrap_id (by omega) (by omega)]
    cases e : p.testBit k
    · rw [e, if_neg (by decide), Nat.xor_zero] at k2
      rw [if_neg (by decide), if_neg (by decide), Nat.xor_zero]
      exact k2
    · rw [e, if_pos rfl] at k2
      rw [if_pos rfl, if_pos rfl, show (1 : Int) = ((1 : Nat) : Int) from rfl, xor_nat _ _ hx (by decide)]
      exact k2
theorem spec_poShift.ev (p : Nat) (hp : p < 2 ^ 60) : Ev (fun k => spec_poShift.f k (p : Int)) ((pshift p : Nat) : Int) := by
  have hb : blen p ≤ 60 := blen_le hp
  obtain ⟨K, hK⟩ := ev_and (spec_poDegree.ev p (by omega)) (spec_poShift.loop p (by omega) (blen p) 0 0 (by decide) (by omega))
  refine ⟨K, fun k hk => ?_⟩
  obtain ⟨k1, k2⟩ := hK k hk
  show spec_poShift.f k (p : Int) = _
  unfold spec_poShift.f
  rw [k1, Option.bind_some]
  exact k2

/-! spec_poDivide -/
theorem spec_poDivide.loop (q dq : Nat) (hq : blen q = dq + 1) (hq63 : q < 2 ^ 62) : ∀ (k o p : Nat), p < 2 ^ 62 → k + dq ≤ 62 → o < 2 ^ 62 → Ev (fun n => spec_poDivide.l0 n (p : Int) (q : Int) (o : Int) ((k : Int) - 1)) (((pdivm q dq k o p).1 : Int), ((pdivm q dq k o p).2 : Int))
  | 0, o, p, hp, hk, ho => by
    refine now fun n => ?_
    simp only [spec_poDivide.l0]
    rw [if_neg (by omega)]
    rfl
  | k + 1, o, p, hp, hk, ho => by
    have hd : pdeg q = (dq : Int) := by unfold pdeg; omega
    have hh := spec_grIn.eq (p : Int) ((k + dq : Nat) : Int) (by omega) (by omega) (by omega)
    rw [show bit (p : Int) ((k + dq : Nat) : Int) = p.testBit (k + dq) from rfl] at hh
    have hs : q * 2 ^ k < 2 ^ 62 := Nat.lt_of_lt_of_le (shift_lt (k := k) (lt_of_blen (k := dq + 1) (by omega))) (Nat.pow_le_pow_right (by decide) (by omega))
    have h2 : 2 ^ k < 2 ^ 62 := Nat.pow_lt_pow_right (by decide) (by omega)
    cases e : p.testBit (k + dq)
    · obtain ⟨K, hK⟩ := ev_and (spec_poDegree.ev q (by omega)) (spec_poDivide.loop q dq hq hq63 k o p hp (by omega) ho)
      refine ⟨K + 1, fun n hn => ?_⟩
      obtain ⟨m, rfl⟩ : ∃ m, n = m + 1 := ⟨n - 1, by omega⟩
      obtain ⟨k1, k2⟩ := hK m (by omega)
      simp only [spec_poDivide.l0, pdivm]
      rw [if_pos (by omega), k1, Option.bind_some, show ((k + 1 : Nat) : Int) - 1 = (k : Int) by omega, hd, wrap_id (by omega) (by omega), show (k : Int) + (dq : Int) = ((k + dq : Nat) : Int) by omega, hh, Option.bind_some, e, if_neg (by decide), if_neg (by decide), wrap_id (by omega) (by omega)]
      exact k2
    · obtain ⟨K, hK⟩ := ev_and (spec_poDegree.ev q (by omega)) (spec_poDivide.loop q dq hq hq63 k (o ||| 2 ^ k) (p ^^^ (q * 2 ^ k)) (Nat.xor_lt_two_pow hp hs) (by omega) (Nat.or_lt_two_pow ho h2))
      refine ⟨K + 1, fun n hn => ?_⟩
      obtain ⟨m, rfl⟩ : ∃ m, n = m + 1 := ⟨n - 1, by omega⟩
      obtain ⟨k1, k2⟩ := hK m (by omega)
      have e1 : shl .i64 (q : Int) (k : Int) = ((q * 2 ^ k : Nat) : Int) := by
        have := shl_eq (x := (q : Int)) (i := (k : Int)) (by omega) (by omega) (by omega) (by rw [Int.toNat_natCast, Int.toNat_natCast]; omega)
        rwa [Int.toNat_natCast, Int.toNat_natCast] at this
      have e2 : shl .i64 1 (k : Int) = ((2 ^ k : Nat) : Int) := by rw [shl_one (by omega) (by omega), Int.toNat_natCast]
      simp only [spec_poDivide.l0, pdivm]
      rw [if_pos (by omega), k1, Option.bind_some, show ((k + 1 : Nat) : Int) - 1 = (k : Int) by omega, hd, wrap_id (by omega) (by omega), show (k : Int) + (dq : Int) = ((k + dq : Nat) : Int) by omega, hh, Option.bind_some, e, if_pos rfl, if_pos rfl, if_pos (by omega), e1, e2, xor_nat _ _ (by omega) (by omega), or_nat _ _ (by omega) (by omega), wrap_id (by omega) (by omega)]
      exact k2
theorem spec_poDivide.short (p q : Nat) (o : Int) (z : Int) (hz : z < 0) : Ev (fun n => spec_poDivide.l0 n (p : Int) (q : Int) o z) (o, (p : Int)) := by
  refine now fun n => ?_
  simp only [spec_poDivide.l0]
  rw [if_neg (by omega)]
theorem spec_poDivide.ev (p q : Nat) (hq : q ≠ 0) (hp : p < 2 ^ 62) (hq63 : q < 2 ^ 62) : Ev (fun n => spec_poDivide.f n (p : Int) (q : Int)) (((pdiv p q).1 : Int), ((pdiv p q).2 : Int)) := by
  have b1 := blen_le hp
  have b2 := blen_le hq63
  have b3 := blen_pos hq
  have hl : Ev (fun n => spec_poDivide.l0 n (p : Int) (q : Int) 0 (pdeg p - pdeg q)) (((pdiv p q).1 : Int), ((pdiv p q).2 : Int)) := by
    unfold pdiv
    by_cases e : blen q ≤ blen p
    · have := spec_poDivide.loop q (blen q - 1) (by omega) hq63 (blen p + 1 - blen q) 0 p hp (by omega) (by decide)
      rw [show ((blen p + 1 - blen q : Nat) : Int) - 1 = pdeg p - pdeg q by unfold pdeg; omega] at this
      exact this
    · rw [show blen p + 1 - blen q = 0 by omega]
      exact spec_poDivide.short p q 0 _ (by unfold pdeg; omega)
  obtain ⟨K1, hK1⟩ := ev_and (spec_poDegree.ev p (by omega)) (spec_poDegree.ev q (by omega))
  obtain ⟨K2, hK2⟩ := hl
  refine ⟨K1 + K2, fun n hn => ?_⟩
  obtain ⟨k1, k2⟩ := hK1 n (by omega)
  have k3 : spec_poDivide.l0 n (p : Int) (q : Int) 0 (pdeg p - pdeg q) = _ := hK2 n (by omega)
  show spec_poDivide.f n (p : Int) (q : Int) = _
  unfold spec_poDivide.f
  rw [k1, Option.bind_some, k2, Option.bind_some, wrap_id (by unfold pdeg; omega) (by unfold pdeg; omega)]
  exact k3

/-! spec_poGcd -/
theorem spec_poGcd.loop : ∀ (b p q : Nat), blen q = b → p < 2 ^ 62 → q < 2 ^ 62 → Ev (fun n => spec_poGcd.l0 n (p : Int) (q : Int)) ((pgcd p q : Nat) : Int) := by
  intro b
  induction b using Nat.strongRecOn with
  | _ b ih =>
    intro p q hb hp hq
    by_cases e : q = 0
    · subst e
      refine now fun n => ?_
      simp only [spec_poGcd.l0]
      rw [if_neg (by decide), pgcd_zero]
    · have hr := pdiv_rest_blen (p := p) e
      have hr2 : (pdiv p q).2 < 2 ^ 62 := Nat.lt_of_lt_of_le (pdiv_rest_lt (p := p) e) (Nat.pow_le_pow_right (by decide) (by have := blen_le hq; omega))
      obtain ⟨K, hK⟩ := ev_and (spec_poDivide.ev p q e hp hq) (ih (blen (pdiv p q).2) (by omega) q (pdiv p q).2 rfl hq hr2)
      refine ⟨K + 1, fun n hn => ?_⟩
      obtain ⟨m, rfl⟩ : ∃ m, n = m + 1 := ⟨n - 1, by omega⟩
      obtain ⟨k1, k2⟩ := hK m (by omega)
      simp only [spec_poGcd.l0]
      rw [if_pos (by omega), k1, Option.bind_some, pgcd_step e]
      exact k2
theorem spec_poGcd.ev (p q : Nat) (hp : p < 2 ^ 62) (hq : q < 2 ^ 62) : Ev (fun n => spec_poGcd.f n (p : Int) (q : Int)) ((pgcd p q : Nat) : Int) := spec_poGcd.loop (blen q) p q rfl hp hq

/-! spec_prGrid -/
theorem spec_prGrid.ev (a b : Nat) (own : Bool) (ha : a ≤ 40) (hb : b ≤ 40) : Ev (fun k => spec_prGrid.f k (a : Int) (b : Int) own) (gridNul a b own) := by
  have f1 := fibp_lt41 ha
  have f2 := fibp_lt41 hb
  have f3 := pshift_lt41 f1
  unfold gridNul
  obtain ⟨K1, hK1⟩ := ev_and (spec_poFibonacci.ev (a + 1) (by omega)) (spec_poFibonacci.ev (b + 1) (by omega))
  obtain ⟨K2, hK2⟩ := spec_poShift.ev (fibp (a + 1)) (by omega)
  have main : ∀ q : Nat, q < 2 ^ 41 → ∃ K, ∀ k, K ≤ k → spec_poGcd.f k ((fibp (b + 1) : Nat) : Int) (q : Int) = some ((pgcd (fibp (b + 1)) q : Nat) : Int) ∧ spec_poDegree.f k ((pgcd (fibp (b + 1)) q : Nat) : Int) = some (pdeg (pgcd (fibp (b + 1)) q)) := by
    intro q hq
    have hg := pgcd_lt (blen q) (fibp (b + 1)) q 41 rfl f2 hq
    obtain ⟨K4, hK4⟩ := spec_poGcd.ev (fibp (b + 1)) q (by omega) (by omega)
    obtain ⟨K5, hK5⟩ := spec_poDegree.ev (pgcd (fibp (b + 1)) q) (by omega)
    exact ⟨K4 + K5, fun k hk => ⟨hK4 k (by omega), hK5 k (by omega)⟩⟩
  cases own
  · obtain ⟨K3, hK3⟩ := main (fibp (a + 1)) f1
    refine ⟨K1 + K2 + K3, fun k hk => ?_⟩
    obtain ⟨h1, h2⟩ := hK1 k (by omega)
    obtain ⟨h3, h4⟩ := hK3 k (by omega)
    show spec_prGrid.f k (a : Int) (b : Int) false = _
    unfold spec_prGrid.f
    rw [wrap_succ a (by omega), wrap_succ b (by omega), h1, Option.bind_some, if_neg (by decide), if_neg (by decide), h2, Option.bind_some, h3, Option.bind_some, h4, Option.bind_some]
  · obtain ⟨K3, hK3⟩ := main (pshift (fibp (a + 1))) f3
    refine ⟨K1 + K2 + K3, fun k hk => ?_⟩
    obtain ⟨h1, h2⟩ := hK1 k (by omega)
    obtain ⟨h3, h4⟩ := hK3 k (by omega)
    have h5 : spec_poShift.f k ((fibp (a + 1) : Nat) : Int) = _ := hK2 k (by omega)
    show spec_prGrid.f k (a : Int) (b : Int) true = _
    unfold spec_prGrid.f
    rw [wrap_succ a (by omega), wrap_succ b (by omega), h1, Option.bind_some, if_pos rfl, if_pos rfl, h5, Option.bind_some, h2, Option.bind_some, h3, Option.bind_some, h4, Option.bind_some]

/-! spec_GridTable -/
theorem spec_GridTable.loop (n : Nat) (own : Bool) (hn : n ≤ 40) : ∀ (d i : Nat) (o : List Int), i + d = n + 1 → 1 ≤ i → o.length ≤ i → Ev (fun k => spec_GridTable.l0 k (n : Int) own o (i : Int)) (o ++ (List.range' i d).map (fun j => gridNul j n own), true)
  | 0, i, o, h, h1, h2 => by
    refine now fun k => ?_
    simp only [spec_GridTable.l0]
    rw [if_neg (by omega)]
    simp
  | d + 1, i, o, h, h1, h2 => by
    obtain ⟨K, hK⟩ := ev_and (spec_prGrid.ev i n own (by omega) hn) (spec_GridTable.loop n own hn d (i + 1) (o ++ [gridNul i n own]) (by omega) (by omega) (by simp; omega))
    refine ⟨K + 1, fun k hk => ?_⟩
    obtain ⟨m, rfl⟩ : ∃ m, k = m + 1 := ⟨k - 1, by omega⟩
    obtain ⟨k1, k2⟩ := hK m (by omega)
    simp only [spec_GridTable.l0]
    rw [if_pos (by omega), k1, Option.bind_some, if_pos (by omega), wrap_succ i (by omega), k2, List.range'_succ, List.map_cons, List.append_assoc]
    rfl
theorem spec_GridTable.ev (a : Int) (own : Bool) : Ev (fun k => spec_GridTable.f k a own) (gridTable a own) := by
  unfold gridTable
  cases e1 : isSide a
  · refine always fun k => ?_
    unfold spec_GridTable.f
    rw [spec_prSide.eq, Option.bind_some, e1]
    rfl
  · have h1 : 1 ≤ a ∧ a ≤ 40 := by simpa [isSide] using e1
    obtain ⟨K, hK⟩ := spec_GridTable.loop a.toNat own (by omega) a.toNat 1 [] (by omega) (by omega) (by simp)
    refine ⟨K, fun k hk => ?_⟩
    have h3 : spec_GridTable.l0 k (a.toNat : Int) own [] 1 = _ := hK k hk
    rw [Int.toNat_of_nonneg (by omega)] at h3
    show spec_GridTable.f k a own = _
    unfold spec_GridTable.f
    rw [spec_prSide.eq, Option.bind_some, e1, if_pos rfl, h3, List.nil_append]
    rfl

/-! impl_in -/
theorem impl_in.eq (x a b : Int) : impl_in.f x a b = some (decide (a ≤ x) && decide (x ≤ b)) := by
  unfold impl_in.f
  by_cases h : a ≤ x
  · rw [if_pos h]; simp [h]
  · rw [if_neg h]; simp [h]

/-! impl_isSide -/
theorem impl_isSide.eq (a : Int) : impl_isSide.f a 1 = some (isSide a) := by
  unfold impl_isSide.f
  rw [impl_in.eq]
  rfl

/-! impl_fibonacci -/
theorem impl_fibonacci.loop (n : Nat) (hn : n ≤ 60) : ∀ (d i : Nat), i + d = n → Ev (fun k => impl_fibonacci.l0 k ((fibp i : Nat) : Int) ((fibp (i + 1) : Nat) : Int) (n : Int) (i : Int)) ((fibp n : Nat) : Int)
  | 0, i, h => by
    refine now fun k => ?_
    simp only [impl_fibonacci.l0]
    rw [if_neg (by omega), show i = n by omega]
  | d + 1, i, h => by
    have ih := impl_fibonacci.loop n hn d (i + 1) (by omega)
    have p1 : (2 : Nat) ^ (i + 1) ≤ 2 ^ 61 := Nat.pow_le_pow_right (by decide) (by omega)
    have p0 : (2 : Nat) ^ i ≤ 2 ^ 61 := Nat.pow_le_pow_right (by decide) (by omega)
    rw [show (2 : Nat) ^ 61 = 2305843009213693952 from rfl] at p0 p1
    have f0 := fibp_lt i
    have f1 := fibp_lt (i + 1)
    refine Ev.step (f := fun k => impl_fibonacci.l0 k ((fibp (i + 1) : Nat) : Int) ((fibp (i + 1 + 1) : Nat) : Int) (n : Int) ((i + 1 : Nat) : Int)) (fun k => ?_) ih
    simp only [impl_fibonacci.l0]
    rw [if_pos (by omega), wrap_succ i (by omega), wrap_id (by omega) (by omega), show ((fibp (i + 1) : Nat) : Int) * 2 = ((fibp (i + 1) * 2 : Nat) : Int) by omega, xor_nat _ _ (by omega) (by omega)]
    rfl
theorem impl_fibonacci.ev (n : Nat) (h : n ≤ 50) : Ev (fun k => impl_fibonacci.f k (n : Int)) ((fibp n : Nat) : Int) := impl_fibonacci.loop n (by omega) n 0 (by omega)

/-! impl_has -/
theorem impl_has.eq (x i : Int) (hx : 0 ≤ x) (hx1 : x < 2 ^ 63) (hi : 0 ≤ i) : impl_has.f x i = some (bit x i) := by unfold impl_has.f; rw [if_pos hi, has_bit hx hx1 hi]

/-! bits_Len64 -/
theorem bits_Len64.tab_rows : ∀ i, i < 256 → bt (⟨#[0, 1, 2, 2, 3, 3, 3, 3, 4, 4, 4, 4, 4, 4, 4, 4, 5, 5, 5, 5, 5, 5, 5, 5, 5, 5, 5, 5, 5, 5, 5, 5, 6, 6, 6, 6, 6, 6, 6, 6, 6, 6, 6, 6, 6, 6, 6, 6, 6, 6, 6, 6, 6, 6, 6, 6, 6, 6, 6, 6, 6, 6, 6, 6, 7, 7, 7, 7, 7, 7, 7, 7, 7, 7, 7, 7, 7, 7, 7, 7, 7, 7, 7, 7, 7, 7, 7, 7, 7, 7, 7, 7, 7, 7, 7, 7, 7, 7, 7, 7, 7, 7, 7, 7, 7, 7, 7, 7, 7, 7, 7, 7, 7, 7, 7, 7, 7, 7, 7, 7, 7, 7, 7, 7, 7, 7, 7, 7, 8, 8, 8, 8, 8, 8, 8, 8, 8, 8, 8, 8, 8, 8, 8, 8, 8, 8, 8, 8, 8, 8, 8, 8, 8, 8, 8, 8, 8, 8, 8, 8, 8, 8, 8, 8, 8, 8, 8, 8, 8, 8, 8, 8, 8, 8, 8, 8, 8, 8, 8, 8, 8, 8, 8, 8, 8, 8, 8, 8, 8, 8, 8, 8, 8, 8, 8, 8, 8, 8, 8, 8, 8, 8, 8, 8, 8, 8, 8, 8, 8, 8, 8, 8, 8, 8, 8, 8, 8, 8, 8, 8, 8, 8, 8, 8, 8, 8, 8, 8, 8, 8, 8, 8, 8, 8, 8, 8, 8, 8, 8, 8, 8, 8, 8, 8, 8, 8, 8, 8, 8, 8, 8, 8, 8, 8, 8, 8]⟩ : ByteArray) ((i : Nat) : Int) = ((blk 8 i : Nat) : Int) := by decide +kernel
theorem bits_Len64.tab (i : Nat) (h : i < 256) : bt (⟨#[0, 1, 2, 2, 3, 3, 3, 3, 4, 4, 4, 4, 4, 4, 4, 4, 5, 5, 5, 5, 5, 5, 5, 5, 5, 5, 5, 5, 5, 5, 5, 5, 6, 6, 6, 6, 6, 6, 6, 6, 6, 6, 6, 6, 6, 6, 6, 6, 6, 6, 6, 6, 6, 6, 6, 6, 6, 6, 6, 6, 6, 6, 6, 6, 7, 7, 7, 7, 7, 7, 7, 7, 7, 7, 7, 7, 7, 7, 7, 7, 7, 7, 7, 7, 7, 7, 7, 7, 7, 7, 7, 7, 7, 7, 7, 7, 7, 7, 7, 7, 7, 7, 7, 7, 7, 7, 7, 7, 7, 7, 7, 7, 7, 7, 7, 7, 7, 7, 7, 7, 7, 7, 7, 7, 7, 7, 7, 7, 8, 8, 8, 8, 8, 8, 8, 8, 8, 8, 8, 8, 8, 8, 8, 8, 8, 8, 8, 8, 8, 8, 8, 8, 8, 8, 8, 8, 8, 8, 8, 8, 8, 8, 8, 8, 8, 8, 8, 8, 8, 8, 8, 8, 8, 8, 8, 8, 8, 8, 8, 8, 8, 8, 8, 8, 8, 8, 8, 8, 8, 8, 8, 8, 8, 8, 8, 8, 8, 8, 8, 8, 8, 8, 8, 8, 8, 8, 8, 8, 8, 8, 8, 8, 8, 8, 8, 8, 8, 8, 8, 8, 8, 8, 8, 8, 8, 8, 8, 8, 8, 8, 8, 8, 8, 8, 8, 8, 8, 8, 8, 8, 8, 8, 8, 8, 8, 8, 8, 8, 8, 8, 8, 8, 8, 8, 8, 8]⟩ : ByteArray) (i : Int) = ((blen i : Nat) : Int) := by rw [bits_Len64.tab_rows i h, blen_blk 8 i h]
/-- The steps behind the first test, with a table. -/
def bits_Len64.body (T : ByteArray) (x0 x2 : Int) : Option Int := if x0 ≥ 65536 then (if (x0 / 65536) ≥ 256 then (if 0 ≤ (((x0 / 65536) / 256) % 256) then (if (((x0 / 65536) / 256) % 256) < 256 then (some (wrap64 ((wrap64 ((wrap64 (x2 + 16)) + 8)) + (wrap64 (bt T (((x0 / 65536) / 256) % 256)))))) else (none)) else (none)) else (if 0 ≤ ((x0 / 65536) % 256) then (if ((x0 / 65536) % 256) < 256 then (some (wrap64 ((wrap64 (x2 + 16)) + (wrap64 (bt T ((x0 / 65536) % 256)))))) else (none)) else (none))) else (if x0 ≥ 256 then (if 0 ≤ ((x0 / 256) % 256) then (if ((x0 / 256) % 256) < 256 then (some (wrap64 ((wrap64 (x2 + 8)) + (wrap64 (bt T ((x0 / 256) % 256)))))) else (none)) else (none)) else (if 0 ≤ ((x0) % 256) then (if ((x0) % 256) < 256 then (some (wrap64 (x2 + (wrap64 (bt T ((x0) % 256)))))) else (none)) else (none)))
theorem bits_Len64.steps (T : ByteArray) (tab : ∀ i : Nat, i < 256 → bt T (i : Int) = ((blen i : Nat) : Int)) (n : Nat) (x : Nat) (hn : n ≤ 32) (hx : x < 4294967296) : bits_Len64.body T (x : Int) (n : Int) = some (((n + blen x : Nat) : Int)) := by
  have tb : ∀ (y : Nat), y < 256 → ((y : Int) % 256) = ((y : Nat) : Int) := fun y h => by omega
  have bl : ∀ (y : Nat), y < 256 → blen y ≤ 8 := fun y h => blen_le h
  unfold bits_Len64.body
  by_cases e1 : x ≥ 65536
  · rw [if_pos (by omega)]
    by_cases e2 : x / 65536 ≥ 256
    · have hb := blen_shift 24 x (by rw [show (2 : Nat) ^ 24 = 16777216 from rfl]; omega)
      rw [show (2 : Nat) ^ 24 = 16777216 from rfl] at hb
      have hl := bl (x / 16777216) (by omega)
      have he : ((x : Int) / 65536) / 256 % 256 = ((x / 16777216 : Nat) : Int) := by omega
      rw [if_pos (by omega), if_pos (by omega), if_pos (by omega), he, tab _ (by omega), wrap_id (x := (n : Int) + 16) (by omega) (by omega), wrap_id (x := (n : Int) + 16 + 8) (by omega) (by omega), wrap_id (x := ((blen (x / 16777216) : Nat) : Int)) (by omega) (by omega), wrap_id (by omega) (by omega), hb]
      congr 1
      omega
    · have hb := blen_shift 16 x (by rw [show (2 : Nat) ^ 16 = 65536 from rfl]; omega)
      rw [show (2 : Nat) ^ 16 = 65536 from rfl] at hb
      have hl := bl (x / 65536) (by omega)
      have he : ((x : Int) / 65536) % 256 = ((x / 65536 : Nat) : Int) := by omega
      rw [if_neg (by omega), if_pos (by omega), if_pos (by omega), he, tab _ (by omega), wrap_id (x := (n : Int) + 16) (by omega) (by omega), wrap_id (x := ((blen (x / 65536) : Nat) : Int)) (by omega) (by omega), wrap_id (by omega) (by omega), hb]
      congr 1
      omega
  · rw [if_neg (by omega)]
    by_cases e2 : x ≥ 256
    · have hb := blen_shift 8 x (by rw [show (2 : Nat) ^ 8 = 256 from rfl]; omega)
      rw [show (2 : Nat) ^ 8 = 256 from rfl] at hb
      have hl := bl (x / 256) (by omega)
      have he : ((x : Int) / 256) % 256 = ((x / 256 : Nat) : Int) := by omega
      rw [if_pos (by omega), if_pos (by omega), if_pos (by omega), he, tab _ (by omega), wrap_id (x := (n : Int) + 8) (by omega) (by omega), wrap_id (x := ((blen (x / 256) : Nat) : Int)) (by omega) (by omega), wrap_id (by omega) (by omega), hb]
      congr 1
      omega
    · have hl := bl x (by omega)
      have he : (x : Int) % 256 = (x : Int) := by omega
      rw [if_neg (by omega), if_pos (by omega), if_pos (by omega), he, tab _ (by omega), wrap_id (x := ((blen x : Nat) : Int)) (by omega) (by omega), wrap_id (by omega) (by omega)]
      congr 1
theorem bits_Len64.tail (k n : Nat) (x : Nat) (hn : n ≤ 32) (hx : x < 4294967296) : bits_Len64.j0 (k + 1) (x : Int) (n : Int) = some (((n + blen x : Nat) : Int)) :=
  bits_Len64.steps (⟨#[0, 1, 2, 2, 3, 3, 3, 3, 4, 4, 4, 4, 4, 4, 4, 4, 5, 5, 5, 5, 5, 5, 5, 5, 5, 5, 5, 5, 5, 5, 5, 5, 6, 6, 6, 6, 6, 6, 6, 6, 6, 6, 6, 6, 6, 6, 6, 6, 6, 6, 6, 6, 6, 6, 6, 6, 6, 6, 6, 6, 6, 6, 6, 6, 7, 7, 7, 7, 7, 7, 7, 7, 7, 7, 7, 7, 7, 7, 7, 7, 7, 7, 7, 7, 7, 7, 7, 7, 7, 7, 7, 7, 7, 7, 7, 7, 7, 7, 7, 7, 7, 7, 7, 7, 7, 7, 7, 7, 7, 7, 7, 7, 7, 7, 7, 7, 7, 7, 7, 7, 7, 7, 7, 7, 7, 7, 7, 7, 8, 8, 8, 8, 8, 8, 8, 8, 8, 8, 8, 8, 8, 8, 8, 8, 8, 8, 8, 8, 8, 8, 8, 8, 8, 8, 8, 8, 8, 8, 8, 8, 8, 8, 8, 8, 8, 8, 8, 8, 8, 8, 8, 8, 8, 8, 8, 8, 8, 8, 8, 8, 8, 8, 8, 8, 8, 8, 8, 8, 8, 8, 8, 8, 8, 8, 8, 8, 8, 8, 8, 8, 8, 8, 8, 8, 8, 8, 8, 8, 8, 8, 8, 8, 8, 8, 8, 8, 8, 8, 8, 8, 8, 8, 8, 8, 8, 8, 8, 8, 8, 8, 8, 8, 8, 8, 8, 8, 8, 8, 8, 8, 8, 8, 8, 8, 8, 8, 8, 8, 8, 8, 8, 8, 8, 8, 8, 8]⟩ : ByteArray) bits_Len64.tab n x hn hx
theorem bits_Len64.eq (k : Nat) (x : Nat) (hx : x < 2 ^ 64) : bits_Len64.f (k + 1) (x : Int) = some ((blen x : Nat) : Int) := by
  unfold bits_Len64.f
  by_cases e : x ≥ 4294967296
  · have hb := blen_shift 32 x (by rw [show (2 : Nat) ^ 32 = 4294967296 from rfl]; omega)
    rw [show (2 : Nat) ^ 32 = 4294967296 from rfl] at hb
    have := bits_Len64.tail k 32 (x / 4294967296) (by omega) (by omega)
    rw [if_pos (by omega), show (x : Int) / 4294967296 = ((x / 4294967296 : Nat) : Int) by omega]
    refine this.trans ?_
    rw [hb, Nat.add_comm]
  · have := bits_Len64.tail k 0 x (by omega) (by omega)
    rw [if_neg (by omega)]
    refine this.trans ?_
    rw [Nat.zero_add]

/-! bits_Len -/
theorem bits_Len.eq (k : Nat) (x : Nat) (hx : x < 2 ^ 64) : bits_Len.f (k + 1) (x : Int) = some ((blen x : Nat) : Int) := by
  unfold bits_Len.f
  rw [bits_Len64.eq k x hx]
  rfl

/-! impl_top -/
theorem impl_top.eq (k : Nat) (x : Nat) (hx : x < 2 ^ 63) : impl_top.f (k + 1) (x : Int) = some (pdeg x) := by
  have e : IntKind.u64.wrap (x : Int) = (x : Int) := by
    show (x : Int) % _ = _
    exact Int.emod_eq_of_lt (by omega) (by show (x : Int) < 18446744073709551616; omega)
  have hb : blen x ≤ 63 := blen_le hx
  unfold impl_top.f
  rw [e, bits_Len.eq k x (by omega), Option.bind_some, wrap_id (by omega) (by omega)]
  rfl

/-! impl_degree -/
theorem impl_degree.eq (k : Nat) (x : Nat) (hx : x < 2 ^ 63) : impl_degree.f (k + 1) (x : Int) = some (pdeg x) := by
  unfold impl_degree.f
  rw [impl_top.eq k x hx]
  rfl

/-! impl_shift -/
theorem impl_shift.loop (p : Nat) (hp : p < 2 ^ 62) : ∀ (k o d : Nat), o < 2 ^ d → d + k ≤ 60 → Ev (fun n => impl_shift.l0 n (p : Int) (o : Int) ((k : Int) - 1)) ((pshiftm p k o : Nat) : Int)
  | 0, o, d, ho, hd => by
    refine now fun n => ?_
    simp only [impl_shift.l0]
    rw [if_neg (by omega)]
    rfl
  | k + 1, o, d, ho, hd => by
    have hs := shiftstep_lt ho (p.testBit k)
    have ih := impl_shift.loop p hp k _ (d + 1) hs (by omega)
    have p0 : (2 : Nat) ^ d ≤ 2 ^ 60 := Nat.pow_le_pow_right (by decide) (by omega)
    rw [show (2 : Nat) ^ 60 = 1152921504606846976 from rfl] at p0
    have hh := impl_has.eq (p : Int) (k : Int) (by omega) (by omega) (by omega)
    rw [show bit (p : Int) (k : Int) = p.testBit k from rfl] at hh
    have hx : o ^^^ (o * 2) < 2 ^ 63 := Nat.xor_lt_two_pow (by omega) (by omega)
    refine Ev.step (f := fun n => impl_shift.l0 n (p : Int) (((o ^^^ (o * 2)) ^^^ (if p.testBit k = true then 1 else 0) : Nat) : Int) ((k : Int) - 1)) (fun n => ?_) ih
    simp only [impl_shift.l0]
    rw [if_pos (by omega), show ((k + 1 : Nat) : Int) - 1 = (k : Int) by omega, hh, Option.bind_some, wrap_id (by omega) (by omega), wrap_id (by omega) (by omega), show (o : Int) * 2 = ((o * 2 : Nat) : Int) by omega, xor_nat _ _ (by omega) (by omega)]
    cases e : p.testBit k
    · rw [if_neg (by decide), if_neg (by decide), Nat.xor_zero]
    · rw [if_pos rfl, if_pos rfl, show (1 : Int) = ((1 : Nat) : Int) from rfl, xor_nat _ _ hx (by decide)]
theorem impl_shift.ev (p : Nat) (hp : p < 2 ^ 60) : Ev (fun k => impl_shift.f k (p : Int)) ((pshift p : Nat) : Int) := by
  have hb : blen p ≤ 60 := blen_le hp
  obtain ⟨K, hK⟩ := impl_shift.loop p (by omega) (blen p) 0 0 (by decide) (by omega)
  refine ⟨K + 1, fun k hk => ?_⟩
  obtain ⟨m, rfl⟩ : ∃ m, k = m + 1 := ⟨k - 1, by omega⟩
  have h1 : impl_shift.l0 (m + 1) (p : Int) 0 ((blen p : Int) - 1) = _ := hK (m + 1) (by omega)
  show impl_shift.f (m + 1) (p : Int) = _
  unfold impl_shift.f
  rw [impl_degree.eq m p (by omega), Option.bind_some]
  exact h1

/-! impl_divide -/
theorem impl_divide.loop (q dq : Nat) (hq : blen q = dq + 1) (hq63 : q < 2 ^ 62) : ∀ (k o p : Nat), p < 2 ^ (k + dq) → k + dq ≤ 62 → o < 2 ^ 62 → Ev (fun n => impl_divide.l0 n (p : Int) (q : Int) (o : Int)) (((pdivm q dq k o p).1 : Int), ((pdivm q dq k o p).2 : Int))
  | 0, o, p, hp, hk, ho => by
    have hp2 : p < 2 ^ 62 := Nat.lt_of_lt_of_le hp (Nat.pow_le_pow_right (by decide) hk)
    have hb := blen_le hp
    refine ⟨2, fun n hn => ?_⟩
    obtain ⟨m, rfl⟩ : ∃ m, n = m + 1 + 1 := ⟨n - 2, by omega⟩
    show impl_divide.l0 (m + 1 + 1) (p : Int) (q : Int) (o : Int) = _
    rw [show impl_divide.l0 (m + 1 + 1) (p : Int) (q : Int) (o : Int) = (impl_degree.f (m + 1) (p : Int)).bind _ from rfl, impl_degree.eq m p (by omega), Option.bind_some, impl_degree.eq m q (by omega), Option.bind_some, if_neg (by unfold pdeg; omega)]
    rfl
  | k + 1, o, p, hp, hk, ho => by
    rw [show k + 1 + dq = k + dq + 1 by omega] at hp
    cases e : p.testBit (k + dq)
    · have := impl_divide.loop q dq hq hq63 k o p (low_top hp e) (by omega) ho
      unfold pdivm
      rw [e, if_neg (by decide)]
      exact this
    · have hp2 : p < 2 ^ 62 := Nat.lt_of_lt_of_le hp (Nat.pow_le_pow_right (by decide) (by omega))
      have hb : blen p = k + dq + 1 := by
        apply Nat.le_antisymm (blen_le hp)
        apply Nat.lt_of_not_le
        intro h
        have := Nat.testBit_lt_two_pow (lt_of_blen h)
        rw [e] at this
        exact absurd this (by decide)
      have hs : q * 2 ^ k < 2 ^ 62 := Nat.lt_of_lt_of_le (shift_lt (k := k) (lt_of_blen (k := dq + 1) (by omega))) (Nat.pow_le_pow_right (by decide) (by omega))
      have h2 : 2 ^ k < 2 ^ 62 := Nat.pow_lt_pow_right (by decide) (by omega)
      obtain ⟨K, hK⟩ := impl_divide.loop q dq hq hq63 k (o ||| 2 ^ k) (p ^^^ (q * 2 ^ k)) (drop_top hp hq e) (by omega) (Nat.or_lt_two_pow ho h2)
      refine ⟨K + 2, fun n hn => ?_⟩
      obtain ⟨m, rfl⟩ : ∃ m, n = m + 1 + 1 := ⟨n - 2, by omega⟩
      have k2 : impl_divide.l0 (m + 1) ((p ^^^ (q * 2 ^ k) : Nat) : Int) (q : Int) ((o ||| 2 ^ k : Nat) : Int) = _ := hK (m + 1) (by omega)
      have e1 : shl .i64 (q : Int) (k : Int) = ((q * 2 ^ k : Nat) : Int) := by
        have := shl_eq (x := (q : Int)) (i := (k : Int)) (by omega) (by omega) (by omega) (by rw [Int.toNat_natCast, Int.toNat_natCast]; omega)
        rwa [Int.toNat_natCast, Int.toNat_natCast] at this
      have e2 : shl .i64 1 (k : Int) = ((2 ^ k : Nat) : Int) := by rw [shl_one (by omega) (by omega), Int.toNat_natCast]
      have e3 : wrap64 (pdeg p - pdeg q) = (k : Int) := by
        rw [wrap_id (by unfold pdeg; omega) (by unfold pdeg; omega)]
        unfold pdeg
        omega
      have d1 := impl_degree.eq m p (by omega)
      have d2 := impl_degree.eq m q (by omega)
      show impl_divide.l0 (m + 1 + 1) (p : Int) (q : Int) (o : Int) = _
      rw [show impl_divide.l0 (m + 1 + 1) (p : Int) (q : Int) (o : Int) = (impl_degree.f (m + 1) (p : Int)).bind _ from rfl, d1, Option.bind_some, d2, Option.bind_some, if_pos (by unfold pdeg; omega), Option.bind_some, Option.bind_some, e3, if_pos (by omega), e1, e2, xor_nat _ _ (by omega) (by omega), or_nat _ _ (by omega) (by omega), k2]
      rw [show pdivm q dq (k + 1) o p = if p.testBit (k + dq) = true then pdivm q dq k (o ||| 2 ^ k) (p ^^^ (q * 2 ^ k)) else pdivm q dq k o p from rfl, if_pos e]
theorem impl_divide.ev (p q : Nat) (hq : q ≠ 0) (hp : p < 2 ^ 62) (hq63 : q < 2 ^ 62) : Ev (fun n => impl_divide.f n (p : Int) (q : Int)) (((pdiv p q).1 : Int), ((pdiv p q).2 : Int)) := by
  have b1 := blen_le hp
  have b2 := blen_le hq63
  have b3 := blen_pos hq
  unfold pdiv
  exact impl_divide.loop q (blen q - 1) (by omega) hq63 (blen p + 1 - blen q) 0 p (lt_of_blen (by omega)) (by omega) (by decide)

/-! impl_modulo -/
theorem impl_modulo.ev (p q : Nat) (hq : q ≠ 0) (hp : p < 2 ^ 62) (hq63 : q < 2 ^ 62) : Ev (fun n => impl_modulo.f n (p : Int) (q : Int)) ((pdiv p q).2 : Int) := by
  obtain ⟨K, hK⟩ := impl_divide.ev p q hq hp hq63
  refine ⟨K, fun n hn => ?_⟩
  have h1 : impl_divide.f n (p : Int) (q : Int) = _ := hK n hn
  show impl_modulo.f n (p : Int) (q : Int) = _
  unfold impl_modulo.f
  rw [h1]
  rfl

/-! impl_gcd -/
theorem impl_gcd.loop : ∀ (b p q : Nat), blen q = b → p < 2 ^ 62 → q < 2 ^ 62 → Ev (fun n => impl_gcd.l0 n (p : Int) (q : Int)) ((pgcd p q : Nat) : Int) := by
  intro b
  induction b using Nat.strongRecOn with
  | _ b ih =>
    intro p q hb hp hq
    by_cases e : q = 0
    · subst e
      refine now fun n => ?_
      simp only [impl_gcd.l0]
      rw [if_pos (by omega), pgcd_zero]
    · have hr := pdiv_rest_blen (p := p) e
      have hr2 : (pdiv p q).2 < 2 ^ 62 := Nat.lt_of_lt_of_le (pdiv_rest_lt (p := p) e) (Nat.pow_le_pow_right (by decide) (by have := blen_le hq; omega))
      obtain ⟨K, hK⟩ := ev_and (impl_modulo.ev p q e hp hq) (ih (blen (pdiv p q).2) (by omega) q (pdiv p q).2 rfl hq hr2)
      refine ⟨K + 1, fun n hn => ?_⟩
      obtain ⟨m, rfl⟩ : ∃ m, n = m + 1 := ⟨n - 1, by omega⟩
      obtain ⟨k1, k2⟩ := hK m (by omega)
      simp only [impl_gcd.l0]
      rw [if_neg (by omega), k1, Option.bind_some, pgcd_step e]
      exact k2
theorem impl_gcd.ev (p q : Nat) (hp : p < 2 ^ 62) (hq : q < 2 ^ 62) : Ev (fun n => impl_gcd.f n (p : Int) (q : Int)) ((pgcd p q : Nat) : Int) := impl_gcd.loop (blen q) p q rfl hp hq

/-! impl_gridNullity -/
theorem impl_gridNullity.ev (a b : Nat) (own : Bool) (ha : a ≤ 40) (hb : b ≤ 40) : Ev (fun k => impl_gridNullity.f k (a : Int) (b : Int) own) (gridNul a b own) := by
  have f1 := fibp_lt41 ha
  have f2 := fibp_lt41 hb
  have f3 := pshift_lt41 f1
  unfold gridNul
  obtain ⟨K1, hK1⟩ := ev_and (impl_fibonacci.ev (a + 1) (by omega)) (impl_fibonacci.ev (b + 1) (by omega))
  obtain ⟨K2, hK2⟩ := impl_shift.ev (fibp (a + 1)) (by omega)
  have main : ∀ q : Nat, q < 2 ^ 41 → ∃ K, ∀ k, K ≤ k → impl_gcd.f k ((fibp (b + 1) : Nat) : Int) (q : Int) = some ((pgcd (fibp (b + 1)) q : Nat) : Int) ∧ impl_degree.f k ((pgcd (fibp (b + 1)) q : Nat) : Int) = some (pdeg (pgcd (fibp (b + 1)) q)) := by
    intro q hq
    have hg := pgcd_lt (blen q) (fibp (b + 1)) q 41 rfl f2 hq
    obtain ⟨K4, hK4⟩ := impl_gcd.ev (fibp (b + 1)) q (by omega) (by omega)
    refine ⟨K4 + 1, fun k hk => ⟨hK4 k (by omega), ?_⟩⟩
    obtain ⟨m, rfl⟩ : ∃ m, k = m + 1 := ⟨k - 1, by omega⟩
    exact impl_degree.eq m (pgcd (fibp (b + 1)) q) (by omega)
  cases own
  · obtain ⟨K3, hK3⟩ := main (fibp (a + 1)) f1
    refine ⟨K1 + K2 + K3, fun k hk => ?_⟩
    obtain ⟨h1, h2⟩ := hK1 k (by omega)
    obtain ⟨h3, h4⟩ := hK3 k (by omega)
    show impl_gridNullity.f k (a : Int) (b : Int) false = _
    unfold impl_gridNullity.f
    rw [wrap_succ a (by omega), wrap_succ b (by omega), h1, Option.bind_some, if_neg (by decide), if_neg (by decide), h2, Option.bind_some, h3, Option.bind_some, h4, Option.bind_some]
  · obtain ⟨K3, hK3⟩ := main (pshift (fibp (a + 1))) f3
    refine ⟨K1 + K2 + K3, fun k hk => ?_⟩
    obtain ⟨h1, h2⟩ := hK1 k (by omega)
    obtain ⟨h3, h4⟩ := hK3 k (by omega)
    have h5 : impl_shift.f k ((fibp (a + 1) : Nat) : Int) = _ := hK2 k (by omega)
    show impl_gridNullity.f k (a : Int) (b : Int) true = _
    unfold impl_gridNullity.f
    rw [wrap_succ a (by omega), wrap_succ b (by omega), h1, Option.bind_some, if_pos rfl, if_pos rfl, h5, Option.bind_some, h2, Option.bind_some, h3, Option.bind_some, h4, Option.bind_some]

/-! impl_GridTable -/
theorem impl_GridTable.loop (n : Nat) (own : Bool) (hn : n ≤ 40) : ∀ (d i : Nat) (o : List Int), i + d = n + 1 → 1 ≤ i → o.length ≤ i → Ev (fun k => impl_GridTable.l0 k (n : Int) own o (i : Int)) (o ++ (List.range' i d).map (fun j => gridNul j n own), true)
  | 0, i, o, h, h1, h2 => by
    refine now fun k => ?_
    simp only [impl_GridTable.l0]
    rw [if_neg (by omega)]
    simp
  | d + 1, i, o, h, h1, h2 => by
    obtain ⟨K, hK⟩ := ev_and (impl_gridNullity.ev i n own (by omega) hn) (impl_GridTable.loop n own hn d (i + 1) (o ++ [gridNul i n own]) (by omega) (by omega) (by simp; omega))
    refine ⟨K + 1, fun k hk => ?_⟩
    obtain ⟨m, rfl⟩ : ∃ m, k = m + 1 := ⟨k - 1, by omega⟩
    obtain ⟨k1, k2⟩ := hK m (by omega)
    simp only [impl_GridTable.l0]
    rw [if_pos (by omega), k1, Option.bind_some, if_pos (by omega), wrap_succ i (by omega), k2, List.range'_succ, List.map_cons, List.append_assoc]
    rfl
theorem impl_GridTable.ev (a : Int) (own : Bool) : Ev (fun k => impl_GridTable.f k a own) (gridTable a own) := by
  unfold gridTable
  cases e1 : isSide a
  · refine always fun k => ?_
    unfold impl_GridTable.f
    rw [impl_isSide.eq, Option.bind_some, e1]
    rfl
  · have h1 : 1 ≤ a ∧ a ≤ 40 := by simpa [isSide] using e1
    obtain ⟨K, hK⟩ := impl_GridTable.loop a.toNat own (by omega) a.toNat 1 [] (by omega) (by omega) (by simp)
    refine ⟨K, fun k hk => ?_⟩
    have h3 : impl_GridTable.l0 k (a.toNat : Int) own [] 1 = _ := hK k hk
    rw [Int.toNat_of_nonneg (by omega)] at h3
    show impl_GridTable.f k a own = _
    unfold impl_GridTable.f
    rw [impl_isSide.eq, Option.bind_some, e1, if_pos rfl, h3, List.nil_append]
    rfl
end Go.Proofs.Ytijccendobcndaa.Pure
