/- What the functions of FnExactFirstDesk compute, in plain words. -/
import Derived.Test.YtijccendobcndaaPFnExactFirstDeskx2
import Derived.Test.YtijccendobcndaaM1
import Derived.Test.YtijccendobcndaaM2
namespace Go.Proofs.Ytijccendobcndaa.Pure
open Go.RowKit Go.Proofs.Ytijccendobcndaa.PFnExactFirstDesk Go.Proofs.YtijccendobcndaaW.PrintWords Go.Proofs.YtijccendobcndaaW.PrintLast Go.Proofs.YtijccendobcndaaW.PrintMore Go.Proofs.YtijccendobcndaaM
set_option linter.unusedVariables false
set_option linter.unusedSimpArgs false
/-! laws_eqIntS -/
theorem laws_eqIntS.loop (a b : List Int) (hl : a.length = b.length) (h : a.length < 4611686018427387904) (d : Nat) : ∀ i : Nat, a.length - i = d → i ≤ a.length → Ev (fun k => laws_eqIntS.l0 k a b (i : Int)) (decide (a.drop i = b.drop i)) := by
  induction d with
  | zero =>
    intro i hd hi
    refine now fun k => ?_
    simp only [laws_eqIntS.l0]
    rw [if_neg (by omega), List.drop_eq_nil_of_le (by omega), List.drop_eq_nil_of_le (by omega)]
    rfl
  | succ d ih =>
    intro i hd hi
    have hlt : i < a.length := by omega
    have hltb : i < b.length := by omega
    rw [drop_cons a i hlt, drop_cons b i hltb]
    by_cases e : a[i] = b[i]
    · have := ih (i + 1) (by omega) (by omega)
      refine Ev.step (f := fun k => laws_eqIntS.l0 k a b ((i + 1 : Nat) : Int)) (fun k => ?_) (by rw [show decide (a[i] :: a.drop (i + 1) = b[i] :: b.drop (i + 1)) = decide (a.drop (i + 1) = b.drop (i + 1)) by simp only [List.cons.injEq, e, true_and]]; exact this)
      simp only [laws_eqIntS.l0]
      rw [if_pos (by omega), if_pos (by omega), if_pos (by omega), rd_get a i hlt, rd_get b i hltb, if_pos e, wrap_succ i (by omega)]
    · refine now fun k => ?_
      simp only [laws_eqIntS.l0]
      rw [if_pos (by omega), if_pos (by omega), if_pos (by omega), rd_get a i hlt, rd_get b i hltb, if_neg e, show decide (a[i] :: a.drop (i + 1) = b[i] :: b.drop (i + 1)) = false by simp only [List.cons.injEq, e, false_and, decide_false]]
theorem laws_eqIntS.ev (a b : List Int) (h : a.length < 4611686018427387904) : Ev (fun k => laws_eqIntS.f k a b) (decide (a = b)) := by
  by_cases hl : a.length = b.length
  · have := laws_eqIntS.loop a b hl h a.length 0 (by omega) (by omega)
    refine Ev.congr (f := fun k => laws_eqIntS.l0 k a b ((0 : Nat) : Int)) (fun k => ?_) (by simpa using this)
    unfold laws_eqIntS.f
    rw [if_pos (by omega)]
    rfl
  · refine always fun k => ?_
    unfold laws_eqIntS.f
    rw [if_neg (by omega)]
    have : ¬ a = b := fun e => hl (by rw [e])
    simp [this]

/-! laws_eqGraph -/
theorem laws_eqGraph.ev (a : List Int) (x : Bool) (b : List Int) (y : Bool) (h : a.length < 4611686018427387904) : Ev (fun k => laws_eqGraph.f k a x b y) (decide (a = b) && (x == y)) := by
  obtain ⟨K, hK⟩ := laws_eqIntS.ev a b h
  refine ⟨K, fun k hk => ?_⟩
  have h1 : laws_eqIntS.f k a b = _ := hK k hk
  simp only [laws_eqGraph.f, h1, Option.bind_some]
  cases x <;> cases y <;> by_cases e : a = b <;> simp [e]

/-! laws_eqDesk -/
theorem laws_eqDesk.ev (a : List Int) (x : Bool) (s : Int) (b : List Int) (y : Bool) (t : Int) (h : a.length < 4611686018427387904) : Ev (fun k => laws_eqDesk.f k a x s b y t) (decide (a = b) && (x == y) && decide (s = t)) := by
  obtain ⟨K, hK⟩ := laws_eqGraph.ev a x b y h
  refine ⟨K, fun k hk => ?_⟩
  have h1 : laws_eqGraph.f k a x b y = _ := hK k hk
  show laws_eqDesk.f k a x s b y t = _
  unfold laws_eqDesk.f
  rw [h1, Option.bind_some]
  cases (decide (a = b) && (x == y)) <;> by_cases e : s = t <;> simp [e]

/-! laws_markIntS -/
theorem laws_markIntS.loop (n : Nat) (a : Int) (h0 : 0 ≤ a) (h1 : a + n < 4611686018427387904) (d : Nat) : ∀ (i : Nat) (o : List Int), o.length = n → n - i = d → i ≤ n → o.take i = (List.range i).map (fun (j : Nat) => a + (j : Int)) → Ev (fun k => laws_markIntS.l0 k o (a + i) (i : Int)) (a + n, marks n a) := by
  induction d with
  | zero =>
    intro i o ho hd hi ht
    refine now fun k => ?_
    have e : i = n := by omega
    subst e
    simp only [laws_markIntS.l0]
    rw [if_neg (by omega)]
    rw [List.take_of_length_le (by omega)] at ht
    rw [ht]
    rfl
  | succ d ih =>
    intro i o ho hd hi ht
    refine Ev.step (f := fun k => laws_markIntS.l0 k (o.set i (a + i)) (a + ((i + 1 : Nat) : Int)) ((i + 1 : Nat) : Int)) (fun k => ?_) (ih (i + 1) (o.set i (a + i)) (by simp [ho]) (by omega) (by omega) ?_)
    · simp only [laws_markIntS.l0]
      rw [if_pos (by omega), if_pos (by omega), wrap_succ i (by omega), wrap_id (by omega) (by omega), show a + (i : Int) + 1 = a + ((i + 1 : Nat) : Int) by omega]
      rfl
    · rw [List.take_succ_eq_append_getElem (by simp; omega), List.range_succ, List.map_append]
      simp [List.take_set_of_le, ht]
theorem laws_markIntS.ev (l : List Int) (a : Int) (h0 : 0 ≤ a) (h1 : a + l.length < 4611686018427387904) : Ev (fun k => laws_markIntS.f k l a) (a + l.length, marks l.length a) := by
  refine Ev.congr (f := fun k => laws_markIntS.l0 k l (a + ((0 : Nat) : Int)) ((0 : Nat) : Int)) (fun k => ?_) (laws_markIntS.loop l.length a h0 h1 l.length 0 l rfl (by omega) (by omega) (by simp))
  unfold laws_markIntS.f
  congr 1
  omega

/-! laws_markGraph -/
theorem laws_markGraph.ev (l : List Int) (b : Bool) (a : Int) (h0 : 0 ≤ a) (h1 : a + l.length < 4611686018427387904) : Ev (fun k => laws_markGraph.f k l b a) (a + l.length, marks l.length a) :=
  Ev.congr (f := fun k => (laws_markIntS.f k l a).bind fun t => some (t.1, t.2)) (fun k => rfl) (Ev.bind (laws_markIntS.ev l a h0 h1) (Ev.now _))

/-! laws_heldIntS -/
theorem laws_heldIntS.loop (n : Nat) (a : Int) (h0 : 0 ≤ a) (h1 : a + n < 4611686018427387904) (d : Nat) : ∀ i : Nat, n - i = d → i ≤ n → Ev (fun k => laws_heldIntS.l0 k (marks n a) (a + i) (i : Int)) (a + n) := by
  have hl : (marks n a).length = n := by simp [marks]
  induction d with
  | zero =>
    intro i hd hi
    refine now fun k => ?_
    simp only [laws_heldIntS.l0]
    rw [if_neg (by omega), show i = n by omega]
  | succ d ih =>
    intro i hd hi
    refine Ev.step (f := fun k => laws_heldIntS.l0 k (marks n a) (a + ((i + 1 : Nat) : Int)) ((i + 1 : Nat) : Int)) (fun k => ?_) (ih (i + 1) (by omega) (by omega))
    simp only [laws_heldIntS.l0]
    rw [if_pos (by omega), if_pos (by omega), rd_get _ i (by omega), if_pos (by simp [marks]), wrap_succ i (by omega), wrap_id (by omega) (by omega), show a + (i : Int) + 1 = a + ((i + 1 : Nat) : Int) by omega]
theorem laws_heldIntS.ev (n : Nat) (a : Int) (h0 : 0 ≤ a) (h1 : a + n < 4611686018427387904) : Ev (fun k => laws_heldIntS.f k (marks n a) a) (a + n) := by
  refine Ev.congr (f := fun k => laws_heldIntS.l0 k (marks n a) (a + ((0 : Nat) : Int)) ((0 : Nat) : Int)) (fun k => ?_) (laws_heldIntS.loop n a h0 h1 n 0 (by omega) (by omega))
  unfold laws_heldIntS.f
  congr 1
  omega
end Go.Proofs.Ytijccendobcndaa.Pure
