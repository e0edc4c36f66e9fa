/- Plain laws on lists of edges: which are lists of edges without repetition, in order of the tests. No program in sight. -/
import Derived.Test.YtlohlngmagpepaaM39
import Derived.Test.YtlohlngmagpepaaM41
import Derived.Test.YtlohlngmagpepaaM32
namespace Go.Proofs.YtlohlngmagpepaaM
open Go.RowKit Go.Proofs.YtlohlngmagpepaaW.PrintWords Go.Proofs.YtlohlngmagpepaaW.PrintLast Go.Proofs.YtlohlngmagpepaaW.PrintMore
set_option linter.unusedVariables false
set_option linter.unusedSimpArgs false
def endsP (P : Nat → Nat → Bool) (e : List Int) : Bool := P (rd e 0).toNat (rd e 1).toNat
theorem ends_pair (P : Nat → Nat → Bool) (x y : Nat) : endsP P [(x : Int), (y : Int)] = P x y := rfl
theorem row_count (l : List Int) (P : Nat → Nat → Bool) (i : Nat) : ∀ (d j : Nat), (rowEdges l i j d).countP (endsP P) = sumFrom (fun y => one ((nb l i).testBit y && P i y)) j d
  | 0, j => rfl
  | d + 1, j => by
    have ih := row_count l P i d (j + 1)
    unfold rowEdges
    simp only [sumFrom]
    rw [← ih]
    have hb : bit (rd l (i : Int)) (j : Int) = (nb l i).testBit j := by unfold bit nb; rw [Int.toNat_natCast]
    rw [hb]
    cases e : (nb l i).testBit j
    · simp [one]
    · rw [if_pos rfl, List.countP_cons, ends_pair, Bool.true_and]
      unfold one
      cases P i j <;> simp <;> omega
theorem from_count (l : List Int) (P : Nat → Nat → Bool) : ∀ (d i : Nat), (edgesFrom l i d).countP (endsP P) = sumFrom (fun x => sumFrom (fun y => one ((nb l x).testBit y && P x y)) (x + 1) (i + d - x - 1)) i d
  | 0, i => rfl
  | d + 1, i => by
    have ih := from_count l P d (i + 1)
    unfold edgesFrom
    rw [List.countP_append, row_count, ih]
    simp only [sumFrom]
    rw [show i + (d + 1) - i - 1 = d by omega]
    congr 1
    refine sumFrom_congr _ _ d (i + 1) (fun x h1 h2 => ?_)
    rw [show i + (d + 1) - x - 1 = i + 1 + d - x - 1 by omega]
theorem edges_twice {l : List Int} (hG : GoodG l) (P : Nat → Nat → Bool) (hP : ∀ x y, P x y = P y x) : sumFrom (fun x => sumFrom (fun y => one ((nb l x).testBit y && P x y)) 0 l.length) 0 l.length = 2 * (edgesOf l).countP (endsP P) := by
  unfold edgesOf
  rw [from_count, ← pairs_twice]
  · intro x y _ hx _ hy
    rw [nb_sym hG (by omega) (by omega), hP]
  · intro x _ hx
    rw [nb_irr hG (by omega)]
    rfl
theorem sum_swap (a : Nat → Nat → Nat) (i d : Nat) : ∀ (e j : Nat), sumFrom (fun x => sumFrom (a x) i d) j e = sumFrom (fun y => sumFrom (fun x => a x y) j e) i d
  | 0, j => by
    simp only [sumFrom]
    have z : ∀ (d i : Nat), sumFrom (fun _ => 0) i d = 0 := by
      intro d
      induction d with
      | zero => intro i; rfl
      | succ d ih => intro i; simp only [sumFrom]; rw [ih]
    rw [z]
  | e + 1, j => by
    simp only [sumFrom]
    rw [sum_swap a i d e (j + 1), ← sumFrom_add]
theorem sum_zero : ∀ (d i : Nat), sumFrom (fun _ => 0) i d = 0
  | 0, i => rfl
  | d + 1, i => by simp only [sumFrom]; rw [sum_zero d (i + 1)]
theorem sum_when (b : Bool) (f : Nat → Bool) (d i : Nat) : sumFrom (fun y => one (b && f y)) i d = if b = true then sumFrom (fun y => one (f y)) i d else 0 := by
  cases b
  · rw [if_neg (by decide)]
    exact sum_zero d i
  · rfl
def cutP (s : Nat) : Nat → Nat → Bool := fun x y => s.testBit x != s.testBit y
def cutOf (l : List Int) (s : Nat) : List (List Int) := (edgesOf l).filter (endsP (cutP s))
theorem cut_len (l : List Int) (s : Nat) : (cutOf l s).length = (edgesOf l).countP (endsP (cutP s)) := by unfold cutOf; rw [List.countP_eq_length_filter]
theorem cut_others {l : List Int} (hG : GoodG l) (s : Nat) : cutOf l (othersP l s) = cutOf l s := by
  unfold cutOf
  refine List.filter_congr fun e he => ?_
  obtain ⟨x, y, rfl, _, hxy, hy, _⟩ := edgesFrom_pairs l l.length 0 e he
  rw [ends_pair, ends_pair]
  unfold cutP
  rw [others_bit l s (by omega), others_bit l s (by omega)]
  cases s.testBit x <;> cases s.testBit y <;> rfl
theorem cut_out {l : List Int} (hG : GoodG l) (s : Nat) : sumFrom (fun x => sumFrom (fun y => one (s.testBit x && ((nb l x).testBit y && !s.testBit y))) 0 l.length) 0 l.length = (cutOf l s).length := by
  have h1 := edges_twice hG (cutP s) (fun x y => by unfold cutP; cases s.testBit x <;> cases s.testBit y <;> rfl)
  have h2 : sumFrom (fun x => sumFrom (fun y => one ((nb l x).testBit y && cutP s x y)) 0 l.length) 0 l.length = sumFrom (fun x => sumFrom (fun y => one (s.testBit x && ((nb l x).testBit y && !s.testBit y))) 0 l.length) 0 l.length + sumFrom (fun x => sumFrom (fun y => one (!s.testBit x && ((nb l x).testBit y && s.testBit y))) 0 l.length) 0 l.length := by
    rw [← sumFrom_add]
    refine sumFrom_congr _ _ _ _ fun x _ _ => ?_
    rw [← sumFrom_add]
    refine sumFrom_congr _ _ _ _ fun y _ _ => ?_
    unfold cutP one
    cases s.testBit x <;> cases s.testBit y <;> cases (nb l x).testBit y <;> rfl
  have h3 : sumFrom (fun x => sumFrom (fun y => one (!s.testBit x && ((nb l x).testBit y && s.testBit y))) 0 l.length) 0 l.length = sumFrom (fun x => sumFrom (fun y => one (s.testBit x && ((nb l x).testBit y && !s.testBit y))) 0 l.length) 0 l.length := by
    rw [sum_swap]
    refine sumFrom_congr _ _ _ _ fun x _ hx => ?_
    refine sumFrom_congr _ _ _ _ fun y _ hy => ?_
    rw [nb_sym hG (i := y) (j := x) (by omega) (by omega)]
    congr 1
    cases s.testBit x <;> cases s.testBit y <;> cases (nb l x).testBit y <;> rfl
  rw [h2, h3] at h1
  rw [cut_len]
  omega
theorem cut_degrees {l : List Int} (hG : GoodG l) {s : Nat} (hs : s < 2 ^ l.length) : sumFrom (fun x => if s.testBit x = true then pop (nb l x) else 0) 0 l.length = (degP l s l.length).sum + (cutOf l s).length := by
  have hn : l.length ≤ 63 := by have := hG.top; omega
  rw [← cut_out hG s, degP_sum, ← sumFrom_add]
  refine sumFrom_congr _ _ _ _ fun x _ hx => ?_
  rw [sum_when (s.testBit x)]
  cases s.testBit x
  · rfl
  · rw [if_pos rfl, if_pos rfl, if_pos rfl]
    unfold meet
    rw [pop_sum hn (nb_lt hG (by omega)), pop_sum hn (and_low hs), ← sumFrom_add]
    refine sumFrom_congr _ _ _ _ fun y _ _ => ?_
    rw [Nat.testBit_and]
    unfold one
    cases (nb l x).testBit y <;> cases s.testBit y <;> rfl
def endsX (E : List (List Int)) : Nat := E.foldl (fun a e => a ^^^ (2 ^ (rd e 0).toNat ||| 2 ^ (rd e 1).toNat)) 0
theorem endsX_snoc (E : List (List Int)) (e : List Int) : endsX (E ++ [e]) = endsX E ^^^ (2 ^ (rd e 0).toNat ||| 2 ^ (rd e 1).toNat) := by unfold endsX; rw [List.foldl_append]; rfl
theorem endsX_bit (k : Nat) (E : List (List Int)) : (endsX E).testBit k = decide (E.countP (endsP fun x y => decide (x = k) || decide (y = k)) % 2 = 1) := by
  have key : ∀ (E : List (List Int)) (a : Nat), (E.foldl (fun a e => a ^^^ (2 ^ (rd e 0).toNat ||| 2 ^ (rd e 1).toNat)) a).testBit k = (a.testBit k ^^ decide (E.countP (endsP fun x y => decide (x = k) || decide (y = k)) % 2 = 1)) := by
    intro E
    induction E with
    | nil => intro a; simp
    | cons e E ih =>
      intro a
      rw [List.foldl_cons, ih, Nat.testBit_xor, Nat.testBit_or, Nat.testBit_two_pow, Nat.testBit_two_pow, List.countP_cons]
      have he : endsP (fun x y => decide (x = k) || decide (y = k)) e = (decide ((rd e 0).toNat = k) || decide ((rd e 1).toNat = k)) := rfl
      rw [he, Bool.xor_assoc]
      congr 1
      cases (decide ((rd e 0).toNat = k) || decide ((rd e 1).toNat = k))
      · simp
      · rw [if_pos rfl, Bool.true_xor]
        by_cases h : E.countP (endsP fun x y => decide (x = k) || decide (y = k)) % 2 = 1
        · rw [decide_eq_true h, decide_eq_false (by omega)]
          rfl
        · rw [decide_eq_false h, decide_eq_true (by omega)]
          rfl
  have h := key E 0
  rw [Nat.zero_testBit, Bool.false_xor] at h
  exact h
theorem sum_pick (k : Nat) (G : Nat) : ∀ (d i : Nat), i ≤ k → k < i + d → sumFrom (fun x => if x = k then G else 0) i d = G
  | 0, i, h1, h2 => by omega
  | d + 1, i, h1, h2 => by
    simp only [sumFrom]
    by_cases e : i = k
    · subst e
      rw [if_pos rfl, sumFrom_congr _ (fun _ => 0) d (i + 1) (fun x hx _ => if_neg (by omega)), sum_zero]
      rfl
    · rw [if_neg e, sum_pick k G d (i + 1) (by omega) (by omega), Nat.zero_add]
theorem cut_at {l : List Int} (hG : GoodG l) (s : Nat) {k : Nat} (hk : k < l.length) : (cutOf l s).countP (endsP fun x y => decide (x = k) || decide (y = k)) = sumFrom (fun y => one ((nb l k).testBit y && (s.testBit k != s.testBit y))) 0 l.length := by
  unfold cutOf
  rw [List.countP_filter]
  have h1 := edges_twice hG (fun x y => (decide (x = k) || decide (y = k)) && cutP s x y) (fun x y => by
    unfold cutP
    cases s.testBit x <;> cases s.testBit y <;> cases decide (x = k) <;> cases decide (y = k) <;> rfl)
  have h2 : sumFrom (fun x => sumFrom (fun y => one ((nb l x).testBit y && ((decide (x = k) || decide (y = k)) && cutP s x y))) 0 l.length) 0 l.length = sumFrom (fun x => if x = k then sumFrom (fun y => one ((nb l k).testBit y && cutP s k y)) 0 l.length else 0) 0 l.length + sumFrom (fun x => sumFrom (fun y => if y = k then one ((nb l x).testBit k && cutP s x k) else 0) 0 l.length) 0 l.length := by
    rw [← sumFrom_add]
    refine sumFrom_congr _ _ _ _ fun x _ hx => ?_
    by_cases ex : x = k
    · subst ex
      rw [if_pos rfl, ← sumFrom_add]
      refine sumFrom_congr _ _ _ _ fun y _ hy => ?_
      rw [decide_eq_true rfl, Bool.true_or, Bool.true_and]
      by_cases ey : y = x
      · subst ey
        rw [if_pos rfl, nb_irr hG hk]
        rfl
      · rw [if_neg ey, Nat.add_zero]
    · rw [if_neg ex, Nat.zero_add]
      refine sumFrom_congr _ _ _ _ fun y _ hy => ?_
      rw [decide_eq_false ex, Bool.false_or]
      by_cases ey : y = k
      · subst ey
        rw [if_pos rfl, decide_eq_true rfl, Bool.true_and]
      · rw [if_neg ey, decide_eq_false ey, Bool.false_and, Bool.and_false]
        rfl
  have h3 : sumFrom (fun x => sumFrom (fun y => if y = k then one ((nb l x).testBit k && cutP s x k) else 0) 0 l.length) 0 l.length = sumFrom (fun y => one ((nb l k).testBit y && cutP s k y)) 0 l.length := by
    refine sumFrom_congr _ _ _ _ fun x _ hx => ?_
    rw [sum_pick k _ l.length 0 (Nat.zero_le _) (by omega), nb_sym hG (i := x) (j := k) (by omega) hk]
    congr 2
    unfold cutP
    cases s.testBit x <;> cases s.testBit k <;> rfl
  rw [h2, h3, sum_pick k _ l.length 0 (Nat.zero_le _) (by omega)] at h1
  have h4 : (edgesOf l).countP (fun e => endsP (fun x y => decide (x = k) || decide (y = k)) e && endsP (cutP s) e) = (edgesOf l).countP (endsP (fun x y => (decide (x = k) || decide (y = k)) && cutP s x y)) := rfl
  rw [h4]
  show _ = sumFrom (fun y => one ((nb l k).testBit y && cutP s k y)) 0 l.length
  omega
theorem endsX_lt {n : Nat} : ∀ (E : List (List Int)), (∀ e ∈ E, (rd e 0).toNat < n ∧ (rd e 1).toNat < n) → endsX E < 2 ^ n := by
  have key : ∀ (E : List (List Int)) (a : Nat), a < 2 ^ n → (∀ e ∈ E, (rd e 0).toNat < n ∧ (rd e 1).toNat < n) → E.foldl (fun a e => a ^^^ (2 ^ (rd e 0).toNat ||| 2 ^ (rd e 1).toNat)) a < 2 ^ n := by
    intro E
    induction E with
    | nil => intro a ha _; exact ha
    | cons e E ih =>
      intro a ha h
      obtain ⟨h1, h2⟩ := h e List.mem_cons_self
      exact ih _ (Nat.xor_lt_two_pow ha (Nat.or_lt_two_pow (Nat.pow_lt_pow_right (by decide) h1) (Nat.pow_lt_pow_right (by decide) h2))) (fun x hx => h x (List.mem_cons_of_mem _ hx))
  exact fun E h => key E 0 (Nat.two_pow_pos n) h
theorem edge_ends {l : List Int} : ∀ e ∈ edgesOf l, (rd e 0).toNat < l.length ∧ (rd e 1).toNat < l.length := fun e he => by
  obtain ⟨x, y, rfl, _, hxy, hy, _⟩ := edgesFrom_pairs l l.length 0 e he
  exact ⟨by show x < _; omega, by show y < _; omega⟩
theorem cut_ends {l : List Int} (hG : GoodG l) {s : Nat} (hs : s < 2 ^ l.length) : endsX (cutOf l s) = sumX (rowP l 0) s l.length := by
  have hn : l.length ≤ 63 := by have := hG.top; omega
  have hlt : endsX (cutOf l s) < 2 ^ l.length := endsX_lt _ fun e he => edge_ends e (List.mem_filter.1 he).1
  apply Nat.eq_of_testBit_eq
  intro k
  by_cases hk : k < l.length
  · rw [endsX_bit, cut_at hG s hk, sumX_par (rowP_sym hG 0) hn s hk, rowP_odd hG 0 hk hs, odd_dec, pop_sum hn (and_low hs)]
    have hp := pop_sum hn (nb_lt hG hk)
    unfold duP
    rw [Nat.add_zero, hp]
    have h1 : sumFrom (fun y => one ((nb l k &&& s).testBit y)) 0 l.length = sumFrom (fun y => one ((nb l k).testBit y && s.testBit y)) 0 l.length := sumFrom_congr _ _ _ _ fun y _ _ => by rw [Nat.testBit_and]
    rw [h1]
    cases s.testBit k
    · rw [Bool.and_false, Bool.xor_false]
      have h2 : sumFrom (fun y => one ((nb l k).testBit y && (false != s.testBit y))) 0 l.length = sumFrom (fun y => one ((nb l k).testBit y && s.testBit y)) 0 l.length := sumFrom_congr _ _ _ _ fun y _ _ => by cases s.testBit y <;> rfl
      rw [h2]
    · rw [Bool.and_true]
      have h2 : sumFrom (fun y => one ((nb l k).testBit y)) 0 l.length = sumFrom (fun y => one ((nb l k).testBit y && s.testBit y)) 0 l.length + sumFrom (fun y => one ((nb l k).testBit y && (true != s.testBit y))) 0 l.length := by
        rw [← sumFrom_add]
        refine sumFrom_congr _ _ _ _ fun y _ _ => ?_
        cases (nb l k).testBit y <;> cases s.testBit y <;> rfl
      rw [h2]
      generalize sumFrom (fun y => one ((nb l k).testBit y && s.testBit y)) 0 l.length = p
      generalize sumFrom (fun y => one ((nb l k).testBit y && (true != s.testBit y))) 0 l.length = q
      by_cases e1 : p % 2 = 1 <;> by_cases e2 : q % 2 = 1
      · rw [decide_eq_true e1, decide_eq_true e2, decide_eq_false (by omega)]; rfl
      · rw [decide_eq_true e1, decide_eq_false e2, decide_eq_true (by omega)]; rfl
      · rw [decide_eq_false e1, decide_eq_true e2, decide_eq_true (by omega)]; rfl
      · rw [decide_eq_false e1, decide_eq_false e2, decide_eq_false (by omega)]; rfl
  · have hle : (2 : Nat) ^ l.length ≤ 2 ^ k := Nat.pow_le_pow_right (by decide) (by omega)
    rw [Nat.testBit_lt_two_pow (Nat.lt_of_lt_of_le hlt hle), Nat.testBit_lt_two_pow (Nat.lt_of_lt_of_le (sumX_lt _ s _ _ (rowP_sym hG 0).lt) hle)]
def evenCuts (l : List Int) : List Nat := (List.range (2 ^ l.length)).filter fun x => endsX (cutOf l x) == 0
theorem evenCuts_sums {l : List Int} (hG : GoodG l) : evenCuts l = sums (svP l 0).quiet := by
  have hI := inv_P l 0
  refine up_ext ((range_up _).filter _) (sums_all hI.qb).up fun x => ?_
  unfold evenCuts
  rw [List.mem_filter, List.mem_range, beq_iff_eq, sums_mem hI.qb, hI.qs]
  constructor
  · rintro ⟨h1, h2⟩
    exact ⟨h1, by rw [← cut_ends hG h1]; exact h2⟩
  · rintro ⟨h1, h2⟩
    exact ⟨h1, by rw [cut_ends hG h1]; exact h2⟩
theorem evenCuts_len {l : List Int} (hG : GoodG l) : (evenCuts l).length = 2 ^ (svP l 0).quiet.length := by rw [evenCuts_sums hG, (sums_all (inv_P l 0).qb).len]
theorem shut_quiet {l : List Int} (hG : GoodG l) {x : Nat} (hx : x < 2 ^ l.length) (hc : ClosedS (nbs l) l.length x) : sumX (rowP l 0) x l.length = 0 := by
  rw [← cut_ends hG hx]
  have h : cutOf l x = [] := by
    unfold cutOf
    rw [List.filter_eq_nil_iff]
    intro e he
    obtain ⟨k, hk, rfl⟩ := List.mem_iff_getElem.1 he
    obtain ⟨a, b, ha, hb, h1, h2⟩ := cut_none hG hc k hk
    rw [h1, ends_pair]
    unfold cutP
    rw [h2]
    simp
  rw [h]
  rfl
theorem sub_len {l m : List Nat} (hl : Basis l) (hm : Basis m) (h : ∀ b ∈ l, Sp m b) : l.length ≤ m.length := by
  have hin : ∀ b ∈ l, blen b ∈ m.map blen := fun b hb => by
    obtain ⟨c, hc, hcb⟩ := sp_top hm (h b hb) (hl.pos b hb)
    exact List.mem_map.2 ⟨c, hc, hcb⟩
  have h1 : (l.map fun b => (m.map blen).idxOf (blen b)).Nodup := by
    refine List.pairwise_map.2 (List.Pairwise.imp_of_mem (fun {a b} ha hb hab e => ?_) hl.up)
    have g1 := List.getElem_idxOf (List.idxOf_lt_length_of_mem (hin a ha))
    have g2 := List.getElem_idxOf (List.idxOf_lt_length_of_mem (hin b hb))
    have g3 : blen a = blen b := by
      rw [← g1, ← g2]
      congr 1
    omega
  have h2 := length_low m.length _ h1 fun x hx => by
    obtain ⟨b, hb, rfl⟩ := List.mem_map.1 hx
    have := List.idxOf_lt_length_of_mem (hin b hb)
    rwa [List.length_map] at this
  rwa [List.length_map] at h2
theorem Sub.xor {x y z : Nat} (h : Sub x z) (h2 : Sub y z) : Sub (x ^^^ y) z := fun k hk => by
  rw [Nat.testBit_xor] at hk
  cases hx : x.testBit k
  · rw [hx, Bool.false_xor] at hk
    exact h2 k hk
  · exact h k hx
theorem parts_le {l : List Int} (hG : GoodG l) : (partsUp (nbs l) l.length l.length).1.length ≤ (svP l 0).quiet.length := by
  have hp := parts_inv (nbs_lt hG) (nbs_sym hG) l.length (Nat.le_refl _)
  have hI := inv_P l 0
  generalize (partsUp (nbs l) l.length l.length) = r at hp ⊢
  have key : ∀ i, i ≤ r.1.length → Basis (puts [] (r.1.take i)) ∧ (puts [] (r.1.take i)).length = i ∧ (∀ x, Sp (puts [] (r.1.take i)) x → Sub x (orAll (r.1.take i)) ∧ Sp (svP l 0).quiet x) := by
    intro i
    induction i with
    | zero =>
      intro _
      rw [List.take_zero]
      refine ⟨basis_nil, rfl, ?_⟩
      rintro x ⟨c, hc, rfl⟩
      have hc0 : c = [] := List.eq_nil_iff_forall_not_mem.2 fun b hb => by have := hc b hb; cases this
      subst hc0
      refine ⟨fun k hk => ?_, Sp.zero _⟩
      rw [show xs [] = 0 from rfl, Nat.zero_testBit] at hk
      cases hk
    | succ i ih =>
      intro hi
      have hlt : i < r.1.length := by omega
      obtain ⟨h1, h2, h3⟩ := ih (by omega)
      obtain ⟨e1, e2, e3, e4⟩ := hp.each i hlt
      have hq : Sp (svP l 0).quiet r.1[i] := (hI.qs _).2 ⟨e3, shut_quiet hG e3 e4⟩
      have hns : ¬ Sp (puts [] (r.1.take i)) r.1[i] := fun h => e2 (Nat.eq_of_testBit_eq fun k => by
        rw [Nat.zero_testBit]
        cases hb : r.1[i].testBit k
        · rfl
        · have h5 := (h3 _ h).1 k hb
          have h6 : (orAll (r.1.take i) &&& r.1[i]).testBit k = true := by rw [Nat.testBit_and, h5, hb]; rfl
          rw [e1, Nat.zero_testBit] at h6
          cases h6)
      have et : puts [] (r.1.take (i + 1)) = put (puts [] (r.1.take i)) r.1[i] := by
        unfold puts
        rw [List.take_succ_eq_append_getElem hlt, List.foldl_append]
        rfl
      have eo := orAll_take hlt
      rw [et]
      refine ⟨?_, by rw [put_more h1 hns, h2], fun x hx => ?_⟩
      · rw [← et]
        exact puts_basis _ basis_nil
      · rw [eo]
        rcases (put_sp h1 r.1[i] x).1 hx with hx | hx
        · exact ⟨(h3 x hx).1.trans (sub_or_left _ _), (h3 x hx).2⟩
        · have e : x = (x ^^^ r.1[i]) ^^^ r.1[i] := by rw [Nat.xor_assoc, Nat.xor_self, Nat.xor_zero]
          rw [e]
          exact ⟨Sub.xor ((h3 _ hx).1.trans (sub_or_left _ _)) (sub_or_right _ _), (h3 _ hx).2.add hq⟩
  obtain ⟨h1, h2, h3⟩ := key r.1.length (Nat.le_refl _)
  have h4 := sub_len h1 hI.qb fun b hb => (h3 b (Sp.one hb)).2
  omega
theorem cuts_shift {l : List Int} (hG : GoodG l) : ((evenCuts l).length >>> (partsUp (nbs l) l.length l.length).1.length) <<< (partsUp (nbs l) l.length l.length).1.length = 2 ^ (svP l 0).quiet.length := by
  have h := parts_le hG
  rw [evenCuts_len hG, Nat.shiftRight_eq_div_pow, Nat.shiftLeft_eq]
  exact Nat.div_mul_cancel (Nat.pow_dvd_pow 2 h)
def cutR (l : List Int) (s : Int) : List (List Int) × Bool := if boardOk l s = true then (cutOf l s.toNat, true) else ([], false)
def edgesR (l : List Int) : List (List Int) × Bool := if good l = true then (edgesOf l, true) else ([], false)
def degreesR (l : List Int) : List Int × Bool := if good l = true then (ints ((List.range l.length).map fun i => pop (nb l i)), true) else ([], false)
def evenCutsR (l : List Int) : Int × Bool := if good l = true ∧ l.length ≤ 10 then ((((evenCuts l).length >>> (partsUp (nbs l) l.length l.length).1.length : Nat) : Int), true) else (0, false)
end Go.Proofs.YtlohlngmagpepaaM
namespace Go.Proofs.YtlohlngmagpepaaM
open Go.RowKit Go.Proofs.YtlohlngmagpepaaW.PrintWords Go.Proofs.YtlohlngmagpepaaW.PrintLast Go.Proofs.YtlohlngmagpepaaW.PrintMore
set_option linter.unusedVariables false
set_option linter.unusedSimpArgs false
theorem parts_cl {N : Nat → Nat} {n : Nat} (hN : ∀ j, j < n → N j < 2 ^ n) : ∀ t, t ≤ n → ∀ p ∈ (partsUp N n t).1, ∃ i, i < n ∧ IsCl N n i p
  | 0, _, p, h => by cases h
  | t + 1, ht, p, h => by
    rw [partsUp] at h
    split at h
    · exact parts_cl hN t (by omega) p h
    · rcases List.mem_append.1 h with h | h
      · exact parts_cl hN t (by omega) p h
      · rw [List.mem_singleton.1 h]
        exact ⟨t, by omega, clo_is hN (by omega)⟩
theorem part_whole {l : List Int} (hG : GoodG l) {x p i : Nat} (hx : x < 2 ^ l.length) (hp : p < 2 ^ l.length) (hc : ClosedS (nbs l) l.length x) (hi : i < l.length) (h : IsCl (nbs l) l.length i p) : x &&& p = p ∨ x &&& p = 0 := by
  have hbits : ∀ k, p.testBit k = true → k < l.length := fun k hk => Nat.lt_of_not_le fun hle => by
    rw [Nat.testBit_lt_two_pow (Nat.lt_of_lt_of_le hp (Nat.pow_le_pow_right (by decide) hle))] at hk
    cases hk
  cases hb : x.testBit i
  · right
    have hs := h.least (x ^^^ (2 ^ l.length - 1)) (by rw [Nat.testBit_xor, Nat.testBit_two_pow_sub_one, decide_eq_true hi, hb]; rfl) (rest_shut (nbs_lt hG) (nbs_sym hG) hc)
    apply Nat.eq_of_testBit_eq
    intro k
    rw [Nat.testBit_and, Nat.zero_testBit]
    cases hk : p.testBit k
    · rw [Bool.and_false]
    · have h1 := hs k hk
      rw [Nat.testBit_xor, Nat.testBit_two_pow_sub_one, decide_eq_true (hbits k hk), Bool.xor_true, Bool.not_eq_true'] at h1
      rw [h1]
      rfl
  · left
    have hs := h.least x hb hc
    apply Nat.eq_of_testBit_eq
    intro k
    rw [Nat.testBit_and]
    cases hk : p.testBit k
    · rw [Bool.and_false]
    · rw [hs k hk]
      rfl
theorem shut_parts {l : List Int} (hG : GoodG l) {x : Nat} (hx : x < 2 ^ l.length) (hc : ClosedS (nbs l) l.length x) : Sp (puts [] (partsUp (nbs l) l.length l.length).1) x := by
  have hp := parts_inv (nbs_lt hG) (nbs_sym hG) l.length (Nat.le_refl _)
  have hcl := parts_cl (nbs_lt hG) l.length (Nat.le_refl _)
  have hall := parts_all (nbs_lt hG) (nbs_sym hG)
  generalize (partsUp (nbs l) l.length l.length) = r at hp hcl hall ⊢
  have key : ∀ i, i ≤ r.1.length → Sp (puts [] (r.1.take i)) (x &&& orAll (r.1.take i)) := by
    intro i
    induction i with
    | zero =>
      intro _
      rw [List.take_zero, show orAll [] = 0 from rfl, Nat.and_zero]
      exact Sp.zero _
    | succ i ih =>
      intro hi
      have hlt : i < r.1.length := by omega
      have h1 := ih (by omega)
      obtain ⟨e1, e2, e3, e4⟩ := hp.each i hlt
      obtain ⟨j, hj, hjc⟩ := hcl _ (List.getElem_mem hlt)
      have et : puts [] (r.1.take (i + 1)) = put (puts [] (r.1.take i)) r.1[i] := by
        unfold puts
        rw [List.take_succ_eq_append_getElem hlt, List.foldl_append]
        rfl
      have hB : Basis (puts [] (r.1.take i)) := puts_basis _ basis_nil
      rw [et, orAll_take hlt, put_sp hB]
      have hor : x &&& (orAll (r.1.take i) ||| r.1[i]) = (x &&& orAll (r.1.take i)) ^^^ (x &&& r.1[i]) := by
        apply Nat.eq_of_testBit_eq
        intro k
        have h6 : (orAll (r.1.take i) &&& r.1[i]).testBit k = false := by rw [e1, Nat.zero_testBit]
        rw [Nat.testBit_and] at h6
        rw [Nat.testBit_and, Nat.testBit_or, Nat.testBit_xor, Nat.testBit_and, Nat.testBit_and]
        cases x.testBit k
        · rfl
        · cases ha : (orAll (r.1.take i)).testBit k
          · simp
          · rw [ha, Bool.true_and] at h6
            rw [h6]
            rfl
      rw [hor]
      rcases part_whole hG hx e3 hc hj hjc with h2 | h2
      · right
        rw [h2, Nat.xor_assoc, Nat.xor_self, Nat.xor_zero]
        exact h1
      · left
        rw [h2, Nat.xor_zero]
        exact h1
  have h := key r.1.length (Nat.le_refl _)
  rw [List.take_length, hall] at h
  have e : x &&& (2 ^ l.length - 1) = x := by
    apply Nat.eq_of_testBit_eq
    intro k
    rw [Nat.testBit_and, Nat.testBit_two_pow_sub_one]
    by_cases hk : k < l.length
    · rw [decide_eq_true hk, Bool.and_true]
    · rw [Nat.testBit_lt_two_pow (Nat.lt_of_lt_of_le hx (Nat.pow_le_pow_right (by decide) (by omega))), Bool.false_and]
  rwa [e] at h
def incE (E : List (List Int)) (i : Nat) : Nat → Nat
  | 0 => 0
  | t + 1 => if endsP (fun x y => decide (x = i) || decide (y = i)) (E.getD t []) = true then incE E i t ||| 2 ^ t else incE E i t
theorem incE_bit (E : List (List Int)) (i k : Nat) : ∀ t, (incE E i t).testBit k = (decide (k < t) && endsP (fun x y => decide (x = i) || decide (y = i)) (E.getD k []))
  | 0 => by simp [incE]
  | t + 1 => by
    have ih := incE_bit E i k t
    rw [incE]
    by_cases h : k = t
    · subst h
      cases e : endsP (fun x y => decide (x = i) || decide (y = i)) (E.getD k [])
      · rw [if_neg (by decide), ih]
        simp
      · rw [if_pos rfl, Nat.testBit_or, ih, Nat.testBit_two_pow]
        simp
    · have h1 : decide (k < t + 1) = decide (k < t) := by
        by_cases h2 : k < t
        · rw [decide_eq_true h2, decide_eq_true (by omega)]
        · rw [decide_eq_false h2, decide_eq_false (by omega)]
      rw [h1]
      split
      · rw [Nat.testBit_or, ih, Nat.testBit_two_pow, decide_eq_false (show ¬ t = k from fun e => h e.symm), Bool.or_false]
      · exact ih
theorem incE_lt (E : List (List Int)) (i : Nat) : ∀ t, incE E i t < 2 ^ t
  | 0 => by rw [incE]; decide
  | t + 1 => by
    have ih := incE_lt E i t
    rw [incE]
    split
    · exact Nat.or_lt_two_pow (Nat.lt_of_lt_of_le ih (Nat.pow_le_pow_right (by decide) (by omega))) (Nat.pow_lt_pow_right (by decide) (by omega))
    · exact Nat.lt_of_lt_of_le ih (Nat.pow_le_pow_right (by decide) (by omega))
theorem row_has (l : List Int) (i : Nat) {y : Nat} (hb : (nb l i).testBit y = true) : ∀ (d j : Nat), j ≤ y → y < j + d → [(i : Int), (y : Int)] ∈ rowEdges l i j d
  | 0, j, h1, h2 => by omega
  | d + 1, j, h1, h2 => by
    rw [rowEdges]
    by_cases e : j = y
    · subst e
      rw [if_pos (by unfold bit; rw [Int.toNat_natCast]; exact hb)]
      exact List.mem_cons_self
    · have ih := row_has l i hb d (j + 1) (by omega) (by omega)
      split
      · exact List.mem_cons_of_mem _ ih
      · exact ih
theorem from_has (l : List Int) {x y : Nat} (hb : (nb l x).testBit y = true) : ∀ (d i : Nat), i ≤ x → x < y → y < i + d → [(x : Int), (y : Int)] ∈ edgesFrom l i d
  | 0, i, h1, h2, h3 => by omega
  | d + 1, i, h1, h2, h3 => by
    rw [edgesFrom]
    by_cases e : i = x
    · subst e
      exact List.mem_append_left _ (row_has l i hb d (i + 1) (by omega) (by omega))
    · exact List.mem_append_right _ (from_has l hb d (i + 1) (by omega) h2 (by omega))
theorem sum_ends (s n : Nat) {a b : Nat} (ha : a < n) (hb : b < n) (hab : a ≠ b) : sumFrom (fun i => one (s.testBit i && (decide (a = i) || decide (b = i)))) 0 n = one (s.testBit a) + one (s.testBit b) := by
  have h : sumFrom (fun i => one (s.testBit i && (decide (a = i) || decide (b = i)))) 0 n = sumFrom (fun i => if i = a then one (s.testBit a) else 0) 0 n + sumFrom (fun i => if i = b then one (s.testBit b) else 0) 0 n := by
    rw [← sumFrom_add]
    refine sumFrom_congr _ _ _ _ fun i _ _ => ?_
    by_cases e1 : i = a
    · subst e1
      rw [if_pos rfl, if_neg hab, decide_eq_true rfl, Bool.true_or, Bool.and_true, Nat.add_zero]
    · by_cases e2 : i = b
      · subst e2
        rw [if_neg e1, if_pos rfl, decide_eq_true rfl, Bool.or_true, Bool.and_true, Nat.zero_add]
      · rw [if_neg e1, if_neg e2, decide_eq_false (fun e => e1 e.symm), decide_eq_false (fun e => e2 e.symm), Bool.or_false, Bool.and_false]
        rfl
  rw [h, sum_pick a _ n 0 (Nat.zero_le _) (by omega), sum_pick b _ n 0 (Nat.zero_le _) (by omega)]
theorem inc_shut {l : List Int} (hG : GoodG l) {x : Nat} (h0 : sumX (fun i => incE (edgesOf l) i (edgesOf l).length) x l.length = 0) : ClosedS (nbs l) l.length x := by
  have key : ∀ a b, a < b → b < l.length → (nb l a).testBit b = true → x.testBit a = x.testBit b := fun a b hab hb hn => by
    obtain ⟨k, hk, he⟩ := List.mem_iff_getElem.1 (from_has l hn l.length 0 (Nat.zero_le _) hab (by omega))
    have hk : k < (edgesOf l).length := hk
    have h1 := sumX_bit (fun i => incE (edgesOf l) i (edgesOf l).length) x k l.length
    rw [h0, Nat.zero_testBit] at h1
    have h2 : sumFrom (fun i => one (x.testBit i && (incE (edgesOf l) i (edgesOf l).length).testBit k)) 0 l.length = one (x.testBit a) + one (x.testBit b) := by
      rw [← sum_ends x l.length (by omega) hb (by omega)]
      refine sumFrom_congr _ _ _ _ fun i _ _ => ?_
      rw [incE_bit, decide_eq_true hk, Bool.true_and, List.getD_eq_getElem?_getD, List.getElem?_eq_getElem hk, Option.getD_some, show (edgesOf l)[k] = [(a : Int), (b : Int)] from he, ends_pair]
    rw [h2] at h1
    cases e1 : x.testBit a <;> cases e2 : x.testBit b <;> rw [e1, e2] at h1 <;> first | rfl | (revert h1; decide)
  intro j hj hb k hk
  have hk2 : k < l.length := Nat.lt_of_not_le fun hle => by
    rw [Nat.testBit_lt_two_pow (Nat.lt_of_lt_of_le (nbs_lt hG j hj) (Nat.pow_le_pow_right (by decide) hle))] at hk
    cases hk
  have hk3 : (nb l j).testBit k = true := hk
  rcases Nat.lt_trichotomy j k with h | h | h
  · rw [← key j k h hk2 hk3]
    exact hb
  · rw [← h]
    exact hb
  · rw [key k j h hj (by rw [nb_sym hG hk2 hj]; exact hk3)]
    exact hb
theorem edges_parts {l : List Int} (hG : GoodG l) : l.length ≤ (edgesOf l).length + (partsUp (nbs l) l.length l.length).1.length := by
  have hget : ∀ i (h : i < ((List.range l.length).map fun i => incE (edgesOf l) i (edgesOf l).length).length), ((List.range l.length).map fun i => incE (edgesOf l) i (edgesOf l).length)[i] = (fun i => incE (edgesOf l) i (edgesOf l).length) i := fun i h => by simp only [List.getElem_map, List.getElem_range]
  have hI := inv_of hget
  rw [List.length_map, List.length_range] at hI
  generalize svOf ((List.range l.length).map fun i => incE (edgesOf l) i (edgesOf l).length) = s at hI
  have h1 := hI.rq
  have h2 := hI.ri
  have h3 : s.image.length ≤ (edgesOf l).length := basis_len hI.ib fun b hb => by
    obtain ⟨x, hx, he⟩ := (hI.is b).1 (Sp.one hb)
    rw [← he]
    exact sumX_lt _ x _ _ fun i _ => incE_lt _ i _
  have h4 : s.quiet.length ≤ (puts [] (partsUp (nbs l) l.length l.length).1).length := sub_len hI.qb (puts_basis _ basis_nil) fun b hb => by
    obtain ⟨hx, he⟩ := (hI.qs b).1 (Sp.one hb)
    exact shut_parts hG hx (inc_shut hG he)
  have h5 := puts_length_le (partsUp (nbs l) l.length l.length).1 []
  rw [List.length_nil] at h5
  omega
def evEdges (l : List Int) : Nat := (edgesOf l).length + (partsUp (nbs l) l.length l.length).1.length - l.length
def evenEdgesR (l : List Int) : Int × Bool := if good l = true ∧ evEdges l ≤ 60 then (((2 ^ evEdges l : Nat) : Int), true) else (0, false)
theorem evEdges_wrap {l : List Int} (hG : GoodG l) : wrap64 (wrap64 (((edgesOf l).length : Int) - (l.length : Int)) + ((partsUp (nbs l) l.length l.length).1.length : Int)) = (evEdges l : Int) := by
  have h1 := edges_parts hG
  have h2 := edges_len hG
  have h3 := (parts_inv (nbs_lt hG) (nbs_sym hG) l.length (Nat.le_refl _)).len
  have h4 := hG.top
  unfold evEdges
  generalize (partsUp (nbs l) l.length l.length).1.length = p at *
  generalize (edgesOf l).length = e at *
  rw [wrap_id (x := (e : Int) - (l.length : Int)) (by omega) (by omega), wrap_id (by omega) (by omega)]
  omega
end Go.Proofs.YtlohlngmagpepaaM
namespace Go.Proofs.YtlohlngmagpepaaM
open Go.RowKit Go.Proofs.YtlohlngmagpepaaW.PrintWords Go.Proofs.YtlohlngmagpepaaW.PrintLast Go.Proofs.YtlohlngmagpepaaW.PrintMore
set_option linter.unusedVariables false
set_option linter.unusedSimpArgs false
def edgeOk (l : List Int) (e : List Int) : Bool := decide (e.length = 2) && (e.all (isBtn l.length) && (decide (rd e 0 < rd e 1) && bit (rd l (rd e 0)) (rd e 1)))
def evTo (l : List Int) (E : List (List Int)) (k : Nat) : Bool := (List.range k).all fun j => edgeOk l (E.getD j []) && !((E.take j).contains (E.getD j []))
def evListR (l : List Int) (E : List (List Int)) : Bool × Bool := if (good l && evTo l E E.length) = true then (endsX E == 0, true) else (false, false)
theorem evTo_succ (l : List Int) (E : List (List Int)) (k : Nat) : evTo l E (k + 1) = (evTo l E k && (edgeOk l (E.getD k []) && !((E.take k).contains (E.getD k [])))) := by
  unfold evTo
  rw [List.range_succ, List.all_append, List.all_cons, List.all_nil, Bool.and_true]
theorem evTo_bad {l : List Int} {E : List (List Int)} : ∀ (d k : Nat), evTo l E k = false → evTo l E (k + d) = false
  | 0, k, h => h
  | d + 1, k, h => by
    rw [show k + (d + 1) = (k + d) + 1 by omega, evTo_succ, evTo_bad d k h]
    rfl
theorem evList_bad {l : List Int} {E : List (List Int)} {k : Nat} (hk : k ≤ E.length) (h : evTo l E k = false) : evListR l E = (false, false) := by
  have h2 := evTo_bad (l := l) (E := E) (E.length - k) k h
  rw [show k + (E.length - k) = E.length by omega] at h2
  unfold evListR
  rw [h2, Bool.and_false]
  rfl
theorem evList_good {l : List Int} {E : List (List Int)} (hg : good l = true) (h : evTo l E E.length = true) : evListR l E = (endsX E == 0, true) := by
  unfold evListR
  rw [hg, h]
  rfl
theorem evList_none {l : List Int} {E : List (List Int)} (hg : good l = false) : evListR l E = (false, false) := by
  unfold evListR
  rw [hg]
  rfl
theorem two_of {e : List Int} (h : e.length = 2) : ∃ a b, e = [a, b] := by
  match e, h with
  | [a, b], _ => exact ⟨a, b, rfl⟩
theorem btn_nat {n : Nat} {a : Int} (h : isBtn n a = true) : ∃ x : Nat, a = (x : Int) ∧ x < n := by
  unfold isBtn at h
  rw [Bool.and_eq_true, decide_eq_true_eq, decide_eq_true_eq] at h
  obtain ⟨x, rfl⟩ := Int.eq_ofNat_of_zero_le h.1
  exact ⟨x, rfl, by omega⟩
theorem edgeOk_pair {l : List Int} {e : List Int} (h : edgeOk l e = true) : ∃ x y : Nat, e = [(x : Int), (y : Int)] ∧ x < y ∧ y < l.length ∧ (nb l x).testBit y = true := by
  unfold edgeOk at h
  rw [Bool.and_eq_true, Bool.and_eq_true, Bool.and_eq_true, decide_eq_true_eq, decide_eq_true_eq] at h
  obtain ⟨h1, h2, h3, h4⟩ := h
  obtain ⟨a, b, rfl⟩ := two_of h1
  rw [List.all_cons, List.all_cons, List.all_nil, Bool.and_true, Bool.and_eq_true] at h2
  obtain ⟨x, rfl, hx⟩ := btn_nat h2.1
  obtain ⟨y, rfl, hy⟩ := btn_nat h2.2
  have h3 : (x : Int) < (y : Int) := h3
  refine ⟨x, y, rfl, by omega, hy, ?_⟩
  have h4 : bit (rd l (x : Int)) (y : Int) = true := h4
  unfold bit at h4
  rw [Int.toNat_natCast] at h4
  exact h4
theorem edge_why {l : List Int} {e : List Int} (h : edgeOk l e = false) :
    e.length ≠ 2 ∨ (∃ a b : Int, e = [a, b] ∧ (isBtn l.length a && isBtn l.length b) = false) ∨ (∃ x y : Nat, e = [(x : Int), (y : Int)] ∧ x < l.length ∧ y < l.length ∧ y ≤ x) ∨ ∃ x y : Nat, e = [(x : Int), (y : Int)] ∧ x < y ∧ y < l.length ∧ (nb l x).testBit y = false := by
  by_cases h1 : e.length = 2
  · obtain ⟨a, b, rfl⟩ := two_of h1
    right
    cases h2 : (isBtn l.length a && isBtn l.length b)
    · exact .inl ⟨a, b, rfl, h2⟩
    · right
      rw [Bool.and_eq_true] at h2
      obtain ⟨x, rfl, hx⟩ := btn_nat h2.1
      obtain ⟨y, rfl, hy⟩ := btn_nat h2.2
      by_cases h3 : y ≤ x
      · exact .inl ⟨x, y, rfl, hx, hy, h3⟩
      · refine .inr ⟨x, y, rfl, by omega, hy, ?_⟩
        cases h4 : (nb l x).testBit y
        · rfl
        · have : edgeOk l [(x : Int), (y : Int)] = true := by
            unfold edgeOk
            rw [List.all_cons, List.all_cons, List.all_nil, h2.1, h2.2, decide_eq_true (show (rd [(x : Int), (y : Int)] 0 < rd [(x : Int), (y : Int)] 1) from (by show (x : Int) < (y : Int); omega))]
            have h5 : bit (rd l (rd [(x : Int), (y : Int)] 0)) (rd [(x : Int), (y : Int)] 1) = (nb l x).testBit y := by
              show bit (rd l (x : Int)) (y : Int) = _
              unfold bit nb
              rw [Int.toNat_natCast]
            rw [h5, h4]
            rfl
          rw [this] at h
          cases h
  · exact .inl h1
theorem ends_take {E : List (List Int)} {k x y : Nat} (hk : k < E.length) (h : E.getD k [] = [(x : Int), (y : Int)]) : endsX (E.take (k + 1)) = endsX (E.take k) ^^^ (2 ^ x ||| 2 ^ y) := by
  rw [List.take_succ_eq_append_getElem hk, endsX_snoc]
  rw [List.getD_eq_getElem?_getD, List.getElem?_eq_getElem hk, Option.getD_some] at h
  rw [h]
  rfl
theorem evTo_edge {l : List Int} {E : List (List Int)} {k : Nat} (h : evTo l E k = true) {j : Nat} (hj : j < k) : edgeOk l (E.getD j []) = true := by
  unfold evTo at h
  rw [List.all_eq_true] at h
  have := h j (List.mem_range.2 hj)
  rw [Bool.and_eq_true] at this
  exact this.1
theorem ends_small {l : List Int} (hl : l.length ≤ 16) {E : List (List Int)} {k : Nat} (hk : k ≤ E.length) (h : evTo l E k = true) : endsX (E.take k) < 65536 := by
  refine endsX_lt (n := 16) _ fun e he => ?_
  obtain ⟨j, hj, rfl⟩ := List.mem_iff_getElem.1 he
  rw [List.length_take] at hj
  have h2 := evTo_edge h (j := j) (by omega)
  obtain ⟨x, y, hxy, h3, h4, _⟩ := edgeOk_pair h2
  rw [List.getD_eq_getElem?_getD, List.getElem?_eq_getElem (by omega), Option.getD_some] at hxy
  rw [List.getElem_take, hxy]
  exact ⟨by show x < 16; omega, by show y < 16; omega⟩
end Go.Proofs.YtlohlngmagpepaaM
