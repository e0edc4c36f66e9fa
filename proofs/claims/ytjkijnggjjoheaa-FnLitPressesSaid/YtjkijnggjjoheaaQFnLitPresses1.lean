/- What the functions of FnLitPresses compute, in plain words. -/
import Derived.Test.YtjkijnggjjoheaaPFnLitPressesx
import Derived.Test.YtjkijnggjjoheaaM1
import Derived.Test.YtjkijnggjjoheaaM2
import Derived.Test.YtjkijnggjjoheaaM3
import Derived.Test.YtjkijnggjjoheaaM4
import Derived.Test.YtjkijnggjjoheaaM5
import Derived.Test.YtjkijnggjjoheaaM6
import Derived.Test.YtjkijnggjjoheaaM7
import Derived.Test.YtjkijnggjjoheaaM8
import Derived.Test.YtjkijnggjjoheaaM9
import Derived.Test.YtjkijnggjjoheaaM10
import Derived.Test.YtjkijnggjjoheaaM11
import Derived.Test.YtjkijnggjjoheaaM12
import Derived.Test.YtjkijnggjjoheaaM13
import Derived.Test.YtjkijnggjjoheaaM14
import Derived.Test.YtjkijnggjjoheaaM17
import Derived.Test.YtjkijnggjjoheaaM18
import Derived.Test.YtjkijnggjjoheaaM19
import Derived.Test.YtjkijnggjjoheaaQFnLitPresses0
namespace Go.Proofs.Ytjkijnggjjoheaa.Pure
open Go.RowKit Go.Proofs.Ytjkijnggjjoheaa.PFnLitPresses Go.Proofs.YtjkijnggjjoheaaW.PrintWords Go.Proofs.YtjkijnggjjoheaaW.PrintLast Go.Proofs.YtjkijnggjjoheaaW.PrintMore Go.Proofs.YtjkijnggjjoheaaM
set_option linter.unusedVariables false
set_option linter.unusedSimpArgs false
/-! impl_WayTo -/
theorem look_pairs : ∀ (m : List (Nat × Nat)) (x : Nat), PFnLitPresses.look (pairs m) (x : Int) = (far m x).map (fun v : Nat => (v : Int))
  | [], x => rfl
  | (a, b) :: m, x => by
    have ih := look_pairs m x
    rw [far_cons]
    unfold PFnLitPresses.look at ih ⊢
    show (List.find? (fun p => p.1 == (x : Int)) (((a : Int), (b : Int)) :: pairs m)).map Prod.snd = _
    rw [List.find?_cons]
    by_cases e : a = x
    · subst e
      simp
    · have h : ((a : Int) == (x : Int)) = false := by simp; omega
      rw [if_neg e]
      simp only [h]
      exact ih
theorem pairs_append (m r : List (Nat × Nat)) : pairs (m ++ r) = pairs m ++ pairs r := by unfold pairs; rw [List.map_append]
theorem impl_WayTo.inn_eq (l : List Int) (own : Bool) (hG : GoodG l) (hn : l.length ≤ 9) (gg kk s v : Nat) :
    ∀ (d i : Nat) (m : List (Nat × Nat)), i + d = l.length → kk ≤ m.length → FarOk (moveOf l false) (2 ^ l.length) l.length gg m → far m s = some v →
      impl_WayTo.inn l own (s : Int) d i (ints ((m.map Prod.fst).drop kk)) (pairs m) = some (ints (((farIn (moveOf l false) s (v + 1) d i m).map Prod.fst).drop kk), pairs (farIn (moveOf l false) s (v + 1) d i m))
  | 0, i, m, hd, hk, ho, hf => rfl
  | d + 1, i, m, hd, hk, ho, hf => by
    have hp := pow9 hn
    have hl := ho.length
    have hsN := ho.lt hf
    have hv := ho.small s v hf
    have ht := moveOf_lt l hG false s i hsN (by omega)
    have ih := impl_WayTo.inn_eq l own hG hn gg kk s v d (i + 1) (meetF m (moveOf l false s i) (v + 1)) (by omega) (by
      obtain ⟨r, hr⟩ := meetF_list (m := m) (moveOf l false s i) (v + 1)
      rw [hr, List.length_append]; omega) (ho.meet (moves_lit l hG) hf (by omega)) (meetF_keep hf)
    unfold impl_WayTo.inn farIn
    rw [impl_Graph_litMove.eq l own hG s i hsN (by omega), Option.bind_some, if_pos (wf_small (by omega) (by omega)), look_pairs]
    cases q : far m (moveOf l false s i) with
    | some w =>
      have e2 : meetF m (moveOf l false s i) (v + 1) = m := by unfold meetF; rw [q]; rfl
      rw [e2] at ih ⊢
      simp only [Option.map_some, Option.isSome_some, if_true]
      exact ih
    | none =>
      have e2 : meetF m (moveOf l false s i) (v + 1) = m ++ [(moveOf l false s i, v + 1)] := by unfold meetF; rw [q, if_neg (by decide)]
      rw [e2] at ih ⊢
      have hpl : (pairs m).length = m.length := by unfold pairs; rw [List.length_map]
      rw [if_neg (by simp), if_pos ⟨by rw [ints_length, List.length_drop, List.length_map]; omega, by omega⟩, look_pairs, hf]
      rw [List.map_append, List.drop_append_of_le_length (by rw [List.length_map]; exact hk), ints_append, pairs_append] at ih
      show impl_WayTo.inn l own (s : Int) d (i + 1) (ints ((m.map Prod.fst).drop kk) ++ [(moveOf l false s i : Int)]) (pairs m ++ [((moveOf l false s i : Int), wrap64 ((v : Int) + 1))]) = _
      rw [wrap_succ v (by omega)]
      exact ih
theorem impl_WayTo.bfs_eq (l : List Int) (own : Bool) (hG : GoodG l) (hn : l.length ≤ 9) (gg : Nat) :
    ∀ (f kk : Nat) (m : List (Nat × Nat)), kk + f = 2 ^ l.length → FarOk (moveOf l false) (2 ^ l.length) l.length gg m → impl_WayTo.bfs l own (f + 1) (ints ((m.map Prod.fst).drop kk)) (pairs m) = some (pairs (farGo (moveOf l false) l.length f kk m))
  | 0, kk, m, hk, ho => by
    have hl := ho.length
    rw [List.drop_eq_nil_of_le (by rw [List.length_map]; omega)]
    rfl
  | f + 1, kk, m, hk, ho => by
    unfold farGo
    by_cases h : kk < m.length
    · have hp := pow9 hn
      have hg := far_get ho.ok.apart kk h
      have hsN := ho.lt hg
      have e1 : (m.map Prod.fst).drop kk = m[kk].1 :: (m.map Prod.fst).drop (kk + 1) := by
        rw [List.drop_eq_getElem_cons (by rw [List.length_map]; exact h), List.getElem_map]
      have hi := impl_WayTo.inn_eq l own hG hn gg kk m[kk].1 m[kk].2 l.length 0 m (by omega) (by omega) ho hg
      have ih := impl_WayTo.bfs_eq l own hG hn gg f (kk + 1) _ (by omega) (farIn_ok (moves_lit l hG) l.length 0 m (by omega) ho hg)
      rw [dif_pos h]
      rw [e1] at hi ⊢
      show (if (Lit.int .i64 (m[kk].1 : Int)).wf = true then (impl_WayTo.inn l own (m[kk].1 : Int) l.length 0 ((m[kk].1 : Int) :: ints ((m.map Prod.fst).drop (kk + 1))) (pairs m)).bind fun p => impl_WayTo.bfs l own (f + 1) p.1.tail p.2 else none) = _
      rw [if_pos (wf_small (by omega) (by omega))]
      have hi2 : impl_WayTo.inn l own (m[kk].1 : Int) l.length 0 ((m[kk].1 : Int) :: ints ((m.map Prod.fst).drop (kk + 1))) (pairs m) = _ := hi
      rw [hi2, Option.bind_some]
      have e2 : ∀ q : List Nat, (ints (q.drop kk)).tail = ints (q.drop (kk + 1)) := fun q => by
        unfold ints
        rw [← List.map_tail, List.tail_drop]
      rw [e2]
      exact ih
    · rw [dif_neg h, List.drop_eq_nil_of_le (by rw [List.length_map]; omega)]
      rfl
theorem impl_WayTo.step_eq (l : List Int) (own : Bool) (hG : GoodG l) (hn : l.length ≤ 9) (gg : Nat) (m : List (Nat × Nat)) (ho : FarOk (moveOf l false) (2 ^ l.length) l.length gg m) (s v j : Nat) (out : List Nat) (hol : out.length ≤ 600) (hf : far m s = some (v + 1)) :
    ∀ (d i : Nat), i + d = l.length → stepTo (moveOf l false) m v s d i = some j → impl_WayTo.step l own (pairs m) v d i (s : Int) (ints out) = some (ints (out ++ [j]), (moveOf l false s j : Int))
  | 0, i, hd, h => by cases h
  | d + 1, i, hd, h => by
    have hp := pow9 hn
    have hl := ho.length
    have hsN := ho.lt hf
    have ht := moveOf_lt l hG false s i hsN (by omega)
    unfold stepTo at h
    unfold impl_WayTo.step
    rw [impl_Graph_litMove.eq l own hG s i hsN (by omega), Option.bind_some, if_pos (wf_small (by omega) (by omega)), look_pairs]
    cases q : far m (moveOf l false s i) with
    | none =>
      rw [if_neg (by rw [q]; simp)] at h
      rw [if_neg (by simp)]
      exact impl_WayTo.step_eq l own hG hn gg m ho s v j out hol hf d (i + 1) (by omega) h
    | some w =>
      simp only [Option.map_some, Option.isSome_some, Option.getD_some, if_true]
      by_cases e : w = v
      · subst e
        rw [if_pos q] at h
        obtain rfl : i = j := Option.some.inj h
        rw [if_pos rfl, if_pos (by rw [ints_length]; omega), ints_append]
        rfl
      · rw [if_neg (by rw [q]; simpa using e)] at h
        rw [if_neg (by show ¬ ((w : Int) = (v : Int)); omega)]
        exact impl_WayTo.step_eq l own hG hn gg m ho s v j out hol hf d (i + 1) (by omega) h
theorem impl_WayTo.back_eq (l : List Int) (own : Bool) (hG : GoodG l) (hn : l.length ≤ 9) (gg : Nat) (m : List (Nat × Nat)) (ho : FarOk (moveOf l false) (2 ^ l.length) l.length gg m) :
    ∀ (v s : Nat) (out : List Nat), far m s = some v → out.length + v ≤ 600 → impl_WayTo.back l own (pairs m) v (s : Int) (ints out) = some (ints (wayBack (moveOf l false) m l.length v s out))
  | 0, s, out, hf, hol => rfl
  | v + 1, s, out, hf, hol => by
    obtain ⟨j, h1, h2, h3⟩ := ho.stepTo hf
    have ih := impl_WayTo.back_eq l own hG hn gg m ho v (moveOf l false s j) (out ++ [j]) h3 (by rw [List.length_append, List.length_singleton]; omega)
    have e2 : wayBack (moveOf l false) m l.length (v + 1) s out = wayBack (moveOf l false) m l.length v (moveOf l false s j) (out ++ [j]) := by
      show (match stepTo (moveOf l false) m v s l.length 0 with | some j => _ | none => _) = _
      rw [h1]
    unfold impl_WayTo.back
    rw [impl_WayTo.step_eq l own hG hn gg m ho s v j out (by omega) hf l.length 0 (by omega) h1, Option.bind_some, e2]
    exact ih
theorem impl_WayTo.ev (l : List Int) (own : Bool) (a g : Int) : Ev (fun k => impl_WayTo.f k l own a g) (if (good l && decide (l.length ≤ 9) && inSet l.length a && inSet l.length g) = true then wayOf l a.toNat g.toNat else ([], false)) := by
  obtain ⟨K, hK⟩ := impl_isLit.ev l own [a, g]
  have ea : (good l && [a, g].all (inSet l.length) && decide (l.length ≤ 9)) = (good l && decide (l.length ≤ 9) && inSet l.length a && inSet l.length g) := by
    simp only [List.all_cons, List.all_nil, Bool.and_true]
    cases good l <;> cases inSet l.length a <;> cases inSet l.length g <;> cases decide (l.length ≤ 9) <;> rfl
  rw [ea] at hK
  cases e1 : (good l && decide (l.length ≤ 9) && inSet l.length a && inSet l.length g)
  · refine ⟨K, fun k hk => ?_⟩
    have h1 : impl_isLit.f k l own [a, g] = _ := hK k hk
    show impl_WayTo.f k l own a g = _
    unfold impl_WayTo.f
    rw [h1, Option.bind_some, e1]
    rfl
  · have e1' := e1
    simp only [Bool.and_eq_true, decide_eq_true_eq] at e1'
    have hG : GoodG l := (good_iff l).1 e1'.1.1.1
    have hn := e1'.1.1.2
    have ha : 0 ≤ a ∧ a < 2 ^ l.length := by simpa [inSet] using e1'.1.2
    have hg : 0 ≤ g ∧ g < 2 ^ l.length := by simpa [inSet] using e1'.2
    obtain ⟨a, rfl⟩ := Int.eq_ofNat_of_zero_le ha.1
    obtain ⟨g, rfl⟩ := Int.eq_ofNat_of_zero_le hg.1
    have hc := pow_cast l.length
    have hp := pow9 hn
    have hst : FarOk (moveOf l false) (2 ^ l.length) l.length g [(g, 0)] := FarOk.start (by omega)
    have hok := farGo_ok (moves_lit l hG) (2 ^ l.length) 0 [(g, 0)] hst
    have hb := impl_WayTo.bfs_eq l own hG hn g (2 ^ l.length) 0 [(g, 0)] (by omega) hst
    refine ⟨K + 2 ^ l.length + 1, fun k hk => ?_⟩
    have h1 : impl_isLit.f k l own [(a : Int), (g : Int)] = _ := hK k (by omega)
    have h2 : impl_WayTo.bfs l own k [(g : Int)] [((g : Int), 0)] = some (pairs (farGo (moveOf l false) l.length (2 ^ l.length) 0 [(g, 0)])) :=
      at_rounds (g := fun k => impl_WayTo.bfs l own k [(g : Int)] [((g : Int), 0)]) (fun k => impl_WayTo.bfs_mono l own k _ _) (show 2 ^ l.length + 1 ≤ k by omega) hb
    show impl_WayTo.f k l own (a : Int) (g : Int) = _
    unfold impl_WayTo.f
    rw [h1, Option.bind_some, e1, if_pos rfl, if_pos ⟨wf_small (by omega) (by omega), wf_small (by omega) (by omega)⟩, h2, Option.bind_some, if_pos rfl]
    show _ = some (wayOf l a g)
    unfold wayOf
    generalize farGo (moveOf l false) l.length (2 ^ l.length) 0 [(g, 0)] = M at hok ⊢
    rw [look_pairs]
    cases q : far M a with
    | none => rfl
    | some v =>
      have hv := hok.small a v q
      have hl := hok.length
      have hw := impl_WayTo.back_eq l own hG hn g M hok v a [] q (by simp; omega)
      show (if true = true then (if 0 ≤ (v : Int) ∧ (v : Int) < 4611686018427387904 then ((impl_WayTo.back l own (pairs M) ((v : Int)).toNat (a : Int) []).bind fun o => some (o, true)) else none) else some ([], false)) = _
      rw [if_pos rfl, if_pos ⟨by omega, by omega⟩, Int.toNat_natCast]
      have hw2 : impl_WayTo.back l own (pairs M) v (a : Int) [] = _ := hw
      rw [hw2]
      rfl

/-! spec_WayTo -/
theorem spec_WayTo.fill (l : List Int) (own : Bool) (a g : Int) (N : Nat) (hN : N ≤ 512) (R : List Int × Bool) (h : Ev (fun k => spec_WayTo.l0 k a g (List.replicate N (-1)) (N : Int) (N : Int) l own) R) : ∀ d i : Nat, i + d = N → Ev (fun k => spec_WayTo.l0 k a g (List.replicate i (-1) ++ List.replicate d 0) (N : Int) (i : Int) l own) R
  | 0, i, hd => by
    obtain rfl : i = N := by omega
    rw [List.replicate_zero, List.append_nil]
    exact h
  | d + 1, i, hd => by
    have e : (List.replicate i (-1 : Int) ++ List.replicate (d + 1) 0).set i (-1) = List.replicate (i + 1) (-1) ++ List.replicate d 0 := by
      rw [List.set_append_right _ _ (by simp), List.length_replicate, Nat.sub_self, List.replicate_succ, List.set_cons_zero, List.replicate_succ' (n := i), List.append_assoc]
      rfl
    refine Ev.step (f := fun k => spec_WayTo.l0 k a g (List.replicate (i + 1) (-1) ++ List.replicate d 0) (N : Int) ((i + 1 : Nat) : Int) l own) (fun k => ?_) (spec_WayTo.fill l own a g N hN R h d (i + 1) (by omega))
    simp only [spec_WayTo.l0]
    rw [if_pos (by omega), if_pos (by omega), if_pos (by rw [List.length_append, List.length_replicate, List.length_replicate]; omega), Int.toNat_natCast, e, wrap_succ i (by omega)]
theorem spec_WayTo.step (l : List Int) (own : Bool) (hG : GoodG l) (hn : l.length ≤ 9) (a g : Int) (gg : Nat) (m : List (Nat × Nat)) (ho : FarOk (moveOf l false) (2 ^ l.length) l.length gg m) (kk i s v : Nat) (hk : ∃ h : kk < m.length, m[kk] = (s, v)) (hi : i < l.length) (k : Nat) :
    spec_WayTo.l2 (k + 1) a g (farRow (2 ^ l.length) m) (ints (m.map Prod.fst)) (kk : Int) l (l.length : Int) (i : Int) l own = spec_WayTo.l2 k a g (farRow (2 ^ l.length) (meetF m (moveOf l false s i) (v + 1))) (ints ((meetF m (moveOf l false s i) (v + 1)).map Prod.fst)) (kk : Int) l (l.length : Int) ((i + 1 : Nat) : Int) l own := by
  obtain ⟨hk, hs⟩ := hk
  have hp := pow9 hn
  have hc := pow_cast l.length
  have hl := ho.length
  have hf : far m s = some v := by have := far_get ho.ok.apart kk hk; rwa [hs] at this
  have hsN := ho.lt hf
  have hv := ho.small s v hf
  have hx := hG.sets (rd l (i : Int)) (rd_mem l _ (by omega) (by omega))
  have e1 : rd (ints (m.map Prod.fst)) (kk : Int) = (s : Int) := by
    rw [ints_get _ kk (by rw [List.length_map]; exact hk), List.getElem_map, hs]
  have em : moveOf l false s i = if s.testBit i = true then s ^^^ (rd l (i : Int)).toNat else s := rfl
  simp only [spec_WayTo.l2]
  rw [if_pos (by omega), if_pos (by omega), if_pos (by omega), if_pos (by omega), if_pos (by rw [ints_length, List.length_map]; omega), e1, spec_grIn.eq (s : Int) (i : Int) (by omega) (by omega) (by omega), Option.bind_some, show bit (s : Int) (i : Int) = s.testBit i from rfl, wrap_succ i (by omega)]
  cases hb : s.testBit i
  · rw [if_neg (by decide), em, hb, if_neg (by decide)]
    unfold meetF
    rw [hf]
    rfl
  · have ht : s ^^^ (rd l (i : Int)).toNat < 2 ^ l.length := by have := moveOf_lt l hG false s i hsN hi; rwa [em, hb, if_pos rfl] at this
    rw [if_pos rfl, em, hb, if_pos rfl, xor_eq (by omega) (by omega) hx.1 (by omega), Int.toNat_natCast]
    generalize s ^^^ (rd l (i : Int)).toNat = t at ht ⊢
    rw [if_pos (by omega), if_pos (by rw [farRow_length]; omega), farRow_get _ _ _ ht]
    cases q : far m t with
    | some w =>
      have e2 : meetF m t (v + 1) = m := by unfold meetF; rw [q]; rfl
      rw [e2, if_neg (by simp only []; omega)]
    | none =>
      have e2 : meetF m t (v + 1) = m ++ [(t, v + 1)] := by unfold meetF; rw [q, if_neg (by decide)]
      rw [e2, if_pos (by simp only []; omega), if_pos (by omega), if_pos (by rw [farRow_length]; omega), if_pos (by rw [ints_length, List.length_map]; omega), farRow_get _ _ _ hsN, hf, Int.toNat_natCast]
      simp only []
      rw [wrap_succ v (by omega), farRow_set q ht, List.map_append, ints_append]
      rfl
theorem spec_WayTo.inner (l : List Int) (own : Bool) (hG : GoodG l) (hn : l.length ≤ 9) (a g : Int) (gg kk : Nat) (R : List Int × Bool) (s v : Nat) (fin : List (Nat × Nat)) (hfin : Ev (fun k => spec_WayTo.l1 k a g (farRow (2 ^ l.length) fin) (ints (fin.map Prod.fst)) ((kk + 1 : Nat) : Int) l own) R) :
    ∀ (d i : Nat) (m : List (Nat × Nat)), i + d = l.length → FarOk (moveOf l false) (2 ^ l.length) l.length gg m → (∃ h : kk < m.length, m[kk] = (s, v)) → farIn (moveOf l false) s (v + 1) d i m = fin →
      Ev (fun k => spec_WayTo.l2 k a g (farRow (2 ^ l.length) m) (ints (m.map Prod.fst)) (kk : Int) l (l.length : Int) (i : Int) l own) R
  | 0, i, m, hd, ho, hk, hf => by
    obtain ⟨hk, hs⟩ := hk
    have hp := pow9 hn
    have hl := ho.length
    have : m = fin := hf
    subst this
    refine Ev.step (f := fun k => spec_WayTo.l1 k a g (farRow (2 ^ l.length) m) (ints (m.map Prod.fst)) ((kk + 1 : Nat) : Int) l own) (fun k => ?_) hfin
    simp only [spec_WayTo.l2]
    rw [if_neg (by omega), wrap_succ kk (by omega)]
  | d + 1, i, m, hd, ho, hk, hf => by
    have hk2 := hk
    obtain ⟨hkl, hs⟩ := hk2
    have hfs : far m s = some v := by have := far_get ho.ok.apart kk hkl; rwa [hs] at this
    obtain ⟨r, hr⟩ := meetF_list (m := m) (moveOf l false s i) (v + 1)
    refine Ev.step (f := fun k => spec_WayTo.l2 k a g (farRow (2 ^ l.length) (meetF m (moveOf l false s i) (v + 1))) (ints ((meetF m (moveOf l false s i) (v + 1)).map Prod.fst)) (kk : Int) l (l.length : Int) ((i + 1 : Nat) : Int) l own) (fun k => spec_WayTo.step l own hG hn a g gg m ho kk i s v hk (by omega) k)
      (spec_WayTo.inner l own hG hn a g gg kk R s v fin hfin d (i + 1) _ (by omega) (ho.meet (moves_lit l hG) hfs (by omega)) ?_ hf)
    simp only [hr]
    exact ⟨by rw [List.length_append]; omega, by rw [List.getElem_append_left hkl]; exact hs⟩
theorem spec_WayTo.outer (l : List Int) (own : Bool) (hG : GoodG l) (hn : l.length ≤ 9) (a g : Int) (gg : Nat) (R : List Int × Bool) (M : List (Nat × Nat))
    (hR : Ev (fun k => if 0 ≤ a then (if a < ((farRow (2 ^ l.length) M).length : Int) then (if rd (farRow (2 ^ l.length) M) a < 0 then some (([] : List Int), false) else spec_WayTo.l3 k a g (farRow (2 ^ l.length) M) ([] : List Int) l own) else none) else none) R) :
    ∀ (f kk : Nat) (m : List (Nat × Nat)), kk + f = 2 ^ l.length → FarOk (moveOf l false) (2 ^ l.length) l.length gg m → farGo (moveOf l false) l.length f kk m = M → Ev (fun k => spec_WayTo.l1 k a g (farRow (2 ^ l.length) m) (ints (m.map Prod.fst)) (kk : Int) l own) R
  | 0, kk, m, hf, ho, hM => by
    have hl := ho.length
    have : m = M := hM
    subst this
    refine Ev.step (fun k => ?_) hR
    simp only [spec_WayTo.l1]
    rw [if_neg (by rw [ints_length, List.length_map]; omega)]
  | f + 1, kk, m, hf, ho, hM => by
    unfold farGo at hM
    by_cases h : kk < m.length
    · rw [dif_pos h] at hM
      have hg := far_get ho.ok.apart kk h
      have ho2 := farIn_ok (moves_lit l hG) l.length 0 m (by omega) ho hg
      have ih := spec_WayTo.outer l own hG hn a g gg R M hR f (kk + 1) _ (by omega) ho2 hM
      have hi := spec_WayTo.inner l own hG hn a g gg kk R m[kk].1 m[kk].2 _ ih l.length 0 m (by omega) ho ⟨h, rfl⟩ rfl
      refine Ev.step (f := fun k => spec_WayTo.l2 k a g (farRow (2 ^ l.length) m) (ints (m.map Prod.fst)) (kk : Int) l (l.length : Int) ((0 : Nat) : Int) l own) (fun k => ?_) hi
      simp only [spec_WayTo.l1]
      rw [if_pos (by rw [ints_length, List.length_map]; omega)]
      rfl
    · rw [dif_neg h] at hM
      subst hM
      refine Ev.step (fun k => ?_) hR
      simp only [spec_WayTo.l1]
      rw [if_neg (by rw [ints_length, List.length_map]; omega)]
theorem spec_WayTo.seek (l : List Int) (own : Bool) (hG : GoodG l) (hn : l.length ≤ 9) (g : Int) (gg : Nat) (m : List (Nat × Nat)) (ho : FarOk (moveOf l false) (2 ^ l.length) l.length gg m) (R : List Int × Bool) (s v j : Nat) (out : List Nat) (hol : out.length ≤ 600) (hf : far m s = some (v + 1)) (hR : Ev (fun k => spec_WayTo.l3 k (moveOf l false s j : Int) g (farRow (2 ^ l.length) m) (ints (out ++ [j])) l own) R) :
    ∀ (d i : Nat), i + d = l.length → stepTo (moveOf l false) m v s d i = some j → Ev (fun k => spec_WayTo.l4 k (s : Int) g (farRow (2 ^ l.length) m) (ints out) l (l.length : Int) (i : Int) l own) R
  | 0, i, hd, h => by cases h
  | d + 1, i, hd, h => by
    have hp := pow9 hn
    have hc := pow_cast l.length
    have hl := ho.length
    have hsN := ho.lt hf
    have hv := ho.small s _ hf
    have hx := hG.sets (rd l (i : Int)) (rd_mem l _ (by omega) (by omega))
    have em : moveOf l false s i = if s.testBit i = true then s ^^^ (rd l (i : Int)).toNat else s := rfl
    unfold stepTo at h
    have pre : ∀ k, spec_WayTo.l4 (k + 1) (s : Int) g (farRow (2 ^ l.length) m) (ints out) l (l.length : Int) (i : Int) l own = if far m (moveOf l false s i) = some v then spec_WayTo.l3 k (moveOf l false s i : Int) g (farRow (2 ^ l.length) m) (ints (out ++ [i])) l own else spec_WayTo.l4 k (s : Int) g (farRow (2 ^ l.length) m) (ints out) l (l.length : Int) ((i + 1 : Nat) : Int) l own := by
      intro k
      simp only [spec_WayTo.l4]
      rw [if_pos (by omega), if_pos (by omega), if_pos (by omega), spec_grIn.eq (s : Int) (i : Int) (by omega) (by omega) (by omega), Option.bind_some, show bit (s : Int) (i : Int) = s.testBit i from rfl, wrap_succ i (by omega)]
      cases hb : s.testBit i
      · simp only [em, hb, Bool.false_eq_true, if_false]
        rw [if_neg (by rw [hf]; simp)]
      · have ht : s ^^^ (rd l (i : Int)).toNat < 2 ^ l.length := by have := moveOf_lt l hG false s i hsN (by omega); rwa [em, hb, if_pos rfl] at this
        rw [if_pos rfl, em, hb, if_pos rfl, xor_eq (by omega) (by omega) hx.1 (by omega), Int.toNat_natCast]
        generalize s ^^^ (rd l (i : Int)).toNat = t at ht ⊢
        rw [if_pos (by omega), if_pos (by rw [farRow_length]; omega), if_pos (by omega), if_pos (by rw [farRow_length]; omega), farRow_get _ _ _ ht, farRow_get _ _ _ hsN, hf]
        simp only []
        rw [wrap_id (by omega) (by omega)]
        cases q : far m t with
        | none =>
          simp only []
          rw [if_neg (by omega), if_neg (by simp)]
        | some w =>
          simp only []
          by_cases e : w = v
          · subst e
            rw [if_pos (by omega), if_pos rfl, if_pos (by rw [ints_length]; omega), ints_append]
            rfl
          · rw [if_neg (by omega), if_neg (by simpa using e)]
    by_cases e : far m (moveOf l false s i) = some v
    · rw [if_pos e] at h
      obtain rfl : i = j := Option.some.inj h
      exact Ev.step (fun k => by show spec_WayTo.l4 (k + 1) _ _ _ _ _ _ _ _ _ = _; rw [pre k, if_pos e]) hR
    · rw [if_neg e] at h
      exact Ev.step (fun k => by show spec_WayTo.l4 (k + 1) _ _ _ _ _ _ _ _ _ = _; rw [pre k, if_neg e]) (spec_WayTo.seek l own hG hn g gg m ho R s v j out hol hf hR d (i + 1) (by omega) h)
theorem spec_WayTo.way (l : List Int) (own : Bool) (hG : GoodG l) (hn : l.length ≤ 9) (gg : Nat) (m : List (Nat × Nat)) (ho : FarOk (moveOf l false) (2 ^ l.length) l.length gg m) :
    ∀ (v s : Nat) (out : List Nat), far m s = some v → out.length + v ≤ 600 → Ev (fun k => spec_WayTo.l3 k (s : Int) (gg : Int) (farRow (2 ^ l.length) m) (ints out) l own) (ints (wayBack (moveOf l false) m l.length v s out), true)
  | 0, s, out, hf, hol => by
    have e : s = gg := by
      rcases ho.dist s 0 hf with ⟨_, h⟩ | ⟨u, h, _⟩
      · exact h
      · omega
    refine now fun k => ?_
    simp only [spec_WayTo.l3]
    rw [if_pos (by rw [e])]
    rfl
  | v + 1, s, out, hf, hol => by
    obtain ⟨j, h1, h2, h3⟩ := ho.stepTo hf
    have e : s ≠ gg := fun e => by rw [e, ho.goal] at hf; simp at hf
    have ih := spec_WayTo.way l own hG hn gg m ho v (moveOf l false s j) (out ++ [j]) h3 (by rw [List.length_append, List.length_singleton]; omega)
    have e2 : wayBack (moveOf l false) m l.length (v + 1) s out = wayBack (moveOf l false) m l.length v (moveOf l false s j) (out ++ [j]) := by
      show (match stepTo (moveOf l false) m v s l.length 0 with | some j => _ | none => _) = _
      rw [h1]
    rw [e2]
    refine Ev.step (f := fun k => spec_WayTo.l4 k (s : Int) (gg : Int) (farRow (2 ^ l.length) m) (ints out) l (l.length : Int) ((0 : Nat) : Int) l own) (fun k => ?_) (spec_WayTo.seek l own hG hn (gg : Int) gg m ho _ s v j out (by omega) hf ih l.length 0 (by omega) h1)
    simp only [spec_WayTo.l3]
    rw [if_neg (by omega)]
    rfl
theorem spec_WayTo.main (l : List Int) (own : Bool) (hG : GoodG l) (hn : l.length ≤ 9) (a g : Nat) (ha : a < 2 ^ l.length) (hg : g < 2 ^ l.length) : Ev (fun k => spec_WayTo.j0 k (a : Int) (g : Int) false l own) (wayOf l a g) := by
  have hp := pow9 hn
  have e0 : shl .i64 1 (l.length : Int) = ((2 ^ l.length : Nat) : Int) := by rw [shl_one (by omega) (by omega), Int.toNat_natCast]
  have hst : FarOk (moveOf l false) (2 ^ l.length) l.length g [(g, 0)] := FarOk.start hg
  have hok := farGo_ok (moves_lit l hG) (2 ^ l.length) 0 [(g, 0)] hst
  have hend : Ev (fun k => if 0 ≤ (a : Int) then (if (a : Int) < ((farRow (2 ^ l.length) (farGo (moveOf l false) l.length (2 ^ l.length) 0 [(g, 0)])).length : Int) then (if rd (farRow (2 ^ l.length) (farGo (moveOf l false) l.length (2 ^ l.length) 0 [(g, 0)])) (a : Int) < 0 then some (([] : List Int), false) else spec_WayTo.l3 k (a : Int) (g : Int) (farRow (2 ^ l.length) (farGo (moveOf l false) l.length (2 ^ l.length) 0 [(g, 0)])) ([] : List Int) l own) else none) else none) (wayOf l a g) := by
    unfold wayOf
    generalize farGo (moveOf l false) l.length (2 ^ l.length) 0 [(g, 0)] = M at hok ⊢
    cases q : far M a with
    | none =>
      refine always fun k => ?_
      rw [if_pos (by omega), if_pos (by rw [farRow_length]; omega), farRow_get _ _ _ ha, q]
      rfl
    | some v =>
      have hv := hok.small a v q
      have hl := hok.length
      obtain ⟨K, hK⟩ := spec_WayTo.way l own hG hn g M hok v a [] q (by simp; omega)
      refine ⟨K, fun k hk => ?_⟩
      show (if 0 ≤ (a : Int) then _ else none) = _
      rw [if_pos (by omega), if_pos (by rw [farRow_length]; omega), farRow_get _ _ _ ha, q]
      simp only []
      rw [if_neg (by omega)]
      exact hK k hk
  have h1 := spec_WayTo.outer l own hG hn (a : Int) (g : Int) g _ _ hend (2 ^ l.length) 0 [(g, 0)] (by omega) hst rfl
  have h2 : Ev (fun k => spec_WayTo.l0 k (a : Int) (g : Int) (List.replicate (2 ^ l.length) (-1)) ((2 ^ l.length : Nat) : Int) ((2 ^ l.length : Nat) : Int) l own) (wayOf l a g) := by
    refine Ev.step (fun k => ?_) h1
    simp only [spec_WayTo.l0]
    have er : (List.replicate (2 ^ l.length) (-1 : Int)).set g 0 = farRow (2 ^ l.length) [(g, 0)] := by
      rw [← farRow_nil]
      exact farRow_set (m := []) (t := g) (e := 0) rfl hg
    rw [if_neg (by omega), if_pos (by omega), if_pos (by rw [List.length_replicate]; omega), Int.toNat_natCast, er]
    rfl
  have h3 := spec_WayTo.fill l own (a : Int) (g : Int) (2 ^ l.length) hp _ h2 (2 ^ l.length) 0 (by omega)
  refine Ev.step (fun k => ?_) h3
  simp only [spec_WayTo.j0]
  rw [if_neg (by decide), e0, if_pos (by omega), if_pos (by rw [Int.toNat_natCast]; omega), Option.bind_some, Int.toNat_natCast, List.length_replicate]
  rfl
theorem spec_WayTo.ev (l : List Int) (own : Bool) (a g : Int) (h : l.length < 4611686018427387904) : Ev (fun k => spec_WayTo.f k l own a g) (if (good l && decide (l.length ≤ 9) && inSet l.length a && inSet l.length g) = true then wayOf l a.toNat g.toNat else ([], false)) := by
  obtain ⟨K, hK⟩ := ev_and (spec_liSet.ev l own a h) (spec_grSet.ev l own g h)
  cases e1 : (good l && decide (l.length ≤ 9) && inSet l.length a)
  · refine ⟨K + 1, fun k hk => ?_⟩
    have h1 : spec_liSet.f k l own a = _ := (hK k (by omega)).1
    obtain ⟨q, rfl⟩ : ∃ q, k = q + 1 := ⟨k - 1, by omega⟩
    show spec_WayTo.f (q + 1) l own a g = _
    unfold spec_WayTo.f
    rw [h1, Option.bind_some, e1]
    rfl
  · have e1' := e1
    simp only [Bool.and_eq_true, decide_eq_true_eq] at e1'
    have hgd : good l = true := e1'.1.1
    cases e2 : inSet l.length g
    · refine ⟨K + 1, fun k hk => ?_⟩
      obtain ⟨h1, h2⟩ := hK k (by omega)
      obtain ⟨q, rfl⟩ : ∃ q, k = q + 1 := ⟨k - 1, by omega⟩
      show spec_WayTo.f (q + 1) l own a g = _
      unfold spec_WayTo.f
      rw [h1, Option.bind_some, e1, if_pos rfl, h2, Option.bind_some, hgd, e2]
      rfl
    · have hG : GoodG l := (good_iff l).1 e1'.1.1
      have ha : 0 ≤ a ∧ a < 2 ^ l.length := by simpa [inSet] using e1'.2
      have hg : 0 ≤ g ∧ g < 2 ^ l.length := by simpa [inSet] using e2
      obtain ⟨a, rfl⟩ := Int.eq_ofNat_of_zero_le ha.1
      obtain ⟨g, rfl⟩ := Int.eq_ofNat_of_zero_le hg.1
      have hc := pow_cast l.length
      obtain ⟨K2, hK2⟩ := spec_WayTo.main l own hG e1'.1.2 a g (by omega) (by omega)
      refine ⟨K + K2, fun k hk => ?_⟩
      obtain ⟨h1, h2⟩ := hK k (by omega)
      have h3 : spec_WayTo.j0 k (a : Int) (g : Int) false l own = _ := hK2 k (by omega)
      show spec_WayTo.f k l own (a : Int) (g : Int) = _
      unfold spec_WayTo.f
      rw [h1, Option.bind_some, e1, if_pos rfl, h2, Option.bind_some, hgd, e2]
      exact h3

/-! spec_liWord -/
theorem spec_liWord.ev (l : List Int) (own : Bool) (w : List Int) (h : l.length < 4611686018427387904) (hw : w.length < 4611686018427387904) : Ev (fun k => spec_liWord.f k l own w) (decide (w.length ≤ 200) && w.all (isBtn l.length)) := by
  obtain ⟨K, hK⟩ := spec_l1All.ev w 0 (wrap64 ((l.length : Int) - 1)) hw
  refine ⟨K, fun k hk => ?_⟩
  have h1 : spec_l1All.f k w 0 (wrap64 ((l.length : Int) - 1)) = _ := hK k hk
  show spec_liWord.f k l own w = _
  unfold spec_liWord.f
  rw [h1]
  by_cases e : w.length ≤ 200
  · rw [if_pos (by omega), decide_eq_true e, Option.bind_some, Bool.true_and, wrap_id (by omega) (by omega)]
    rfl
  · rw [if_neg (by omega), decide_eq_false e, Bool.false_and]

/-! spec_LitWord -/
theorem spec_LitWord.loop (l : List Int) (own : Bool) (hG : GoodG l) (w : List Int) (hw : w.length < 4611686018427387904) (hb : ∀ x ∈ w, 0 ≤ x ∧ x < l.length) (d : Nat) :
    ∀ (i : Nat) (s : Int), w.length - i = d → i ≤ w.length → 0 ≤ s → s < 2 ^ l.length → Ev (fun k => spec_LitWord.l0 k s w (w.length : Int) (i : Int) l own) (litGo l s (w.drop i)) := by
  have h16 := pow16 hG.top
  induction d with
  | zero =>
    intro i s hd hi h0 h1
    refine now fun k => ?_
    simp only [spec_LitWord.l0]
    rw [if_neg (by omega), List.drop_eq_nil_of_le (by omega)]
    rfl
  | succ d ih =>
    intro i s hd hi h0 h1
    have hlt : i < w.length := by omega
    have hx := hb w[i] (List.getElem_mem _)
    rw [drop_cons w i hlt, litGo]
    have hin := spec_grIn.eq s w[i] h0 (by omega) hx.1
    cases e : bit s w[i]
    · refine now fun k => ?_
      simp only [spec_LitWord.l0]
      rw [if_pos (by omega), if_pos (by omega), if_pos (by omega), rd_get w i hlt, hin, Option.bind_some, e]
      rfl
    · have hm := hG.sets (rd l w[i]) (rd_mem l _ hx.1 hx.2)
      refine Ev.step (f := fun k => spec_LitWord.l0 k ((s.toNat ^^^ (rd l w[i]).toNat : Nat) : Int) w (w.length : Int) ((i + 1 : Nat) : Int) l own) (fun k => ?_) (ih (i + 1) _ (by omega) (by omega) (by omega) (xor_lt h1 hm.2 h0 hm.1))
      simp only [spec_LitWord.l0]
      rw [if_pos (by omega), if_pos (by omega), if_pos (by omega), rd_get w i hlt, hin, Option.bind_some, e, if_pos rfl, if_pos hx.1, if_pos hx.2, xor_eq h0 (by omega) hm.1 (by omega), wrap_succ i (by omega)]
theorem spec_LitWord.ev (l : List Int) (own : Bool) (s : Int) (w : List Int) (h : l.length < 4611686018427387904) (hw : w.length < 4611686018427387904) : Ev (fun k => spec_LitWord.f k l own s w) (litWord l s w) := by
  obtain ⟨K, hK⟩ := ev_and (spec_liSet.ev l own s h) (spec_liWord.ev l own w h hw)
  unfold litWord
  cases e1 : (good l && decide (l.length ≤ 9) && inSet l.length s)
  · refine ⟨K + 1, fun k hk => ?_⟩
    obtain ⟨m, rfl⟩ : ∃ m, k = m + 1 := ⟨k - 1, by omega⟩
    obtain ⟨h1, h2⟩ := hK (m + 1) (by omega)
    show spec_LitWord.f (m + 1) l own s w = _
    unfold spec_LitWord.f
    rw [h1, Option.bind_some, e1, if_neg (by decide)]
    simp only [spec_LitWord.j0, if_true]
    rfl
  · cases e2 : (decide (w.length ≤ 200) && w.all (isBtn l.length))
    · refine ⟨K + 1, fun k hk => ?_⟩
      obtain ⟨m, rfl⟩ : ∃ m, k = m + 1 := ⟨k - 1, by omega⟩
      obtain ⟨h1, h2⟩ := hK (m + 1) (by omega)
      show spec_LitWord.f (m + 1) l own s w = _
      unfold spec_LitWord.f
      rw [h1, Option.bind_some, e1, if_pos rfl, h2, Option.bind_some, e2]
      simp only [spec_LitWord.j0, Bool.not_false, if_true]
      rfl
    · have hG : GoodG l := (good_iff l).1 (by simp only [Bool.and_eq_true] at e1; exact e1.1.1)
      have hs : 0 ≤ s ∧ s < 2 ^ l.length := by simp only [Bool.and_eq_true] at e1; simpa [inSet] using e1.2
      have hb : ∀ x ∈ w, 0 ≤ x ∧ x < l.length := by simp only [Bool.and_eq_true] at e2; exact btn_all e2.2
      obtain ⟨K2, hK2⟩ := spec_LitWord.loop l own hG w hw hb w.length 0 s (by omega) (by omega) hs.1 hs.2
      refine ⟨K + K2 + 1, fun k hk => ?_⟩
      obtain ⟨m, rfl⟩ : ∃ m, k = m + 1 := ⟨k - 1, by omega⟩
      obtain ⟨h1, h2⟩ := hK (m + 1) (by omega)
      show spec_LitWord.f (m + 1) l own s w = _
      unfold spec_LitWord.f
      rw [h1, Option.bind_some, e1, if_pos rfl, h2, Option.bind_some, e2]
      simp only [spec_LitWord.j0, Bool.not_true, Bool.false_eq_true, if_false]
      exact hK2 m (by omega)

/-! impl_LitMoves -/
theorem impl_LitMoves.loop (l : List Int) (hG : GoodG l) (s : Int) (h0 : 0 ≤ s) (h1 : s < 2 ^ l.length) (d : Nat) :
    ∀ (i : Nat) (o : List Int), l.length - i = d → i ≤ l.length → o.length ≤ i → Ev (fun k => impl_LitMoves.l0 k s o l (l.length : Int) (i : Int)) (o ++ moves l s i d, true) := by
  have h16 := hG.top
  have hp := pow16 hG.top
  induction d with
  | zero =>
    intro i o hd hi ho
    refine now fun k => ?_
    simp only [impl_LitMoves.l0]
    rw [if_neg (by omega)]
    simp [moves]
  | succ d ih =>
    intro i o hd hi ho
    have hlt : i < l.length := by omega
    have hx := hG.sets (rd l (i : Int)) (rd_mem l _ (by omega) (by omega))
    have hin := impl_has.eq s (i : Int) h0 (by omega) (by omega)
    rw [moves]
    by_cases e : bit s (i : Int) = true ∧ rd l (i : Int) ≠ 0
    · refine Ev.step (f := fun k => impl_LitMoves.l0 k s (o ++ [(i : Int)]) l (l.length : Int) ((i + 1 : Nat) : Int)) (fun k => ?_) (by rw [if_pos e]; simpa using ih (i + 1) (o ++ [(i : Int)]) (by omega) (by omega) (by simp; omega))
      simp only [impl_LitMoves.l0]
      rw [if_pos (by omega), if_pos (by omega), if_pos (by omega), hin, Option.bind_some, e.1, if_pos rfl, if_neg e.2, if_pos (by omega), wrap_succ i (by omega)]
    · refine Ev.step (f := fun k => impl_LitMoves.l0 k s o l (l.length : Int) ((i + 1 : Nat) : Int)) (fun k => ?_) (by rw [if_neg e]; exact ih (i + 1) o (by omega) (by omega) (by omega))
      simp only [impl_LitMoves.l0]
      rw [if_pos (by omega), if_pos (by omega), if_pos (by omega), hin, Option.bind_some, wrap_succ i (by omega)]
      cases b : bit s (i : Int)
      · rw [if_neg (by decide)]
      · have z : rd l (i : Int) = 0 := Decidable.byContradiction fun h => e ⟨b, h⟩
        rw [if_pos rfl, if_pos z]
theorem impl_LitMoves.ev (l : List Int) (own : Bool) (s : Int) : Ev (fun k => impl_LitMoves.f k l own s) (if (good l && decide (l.length ≤ 9) && inSet l.length s) = true then (moves l s 0 l.length, true) else ([], false)) := by
  obtain ⟨K, hK⟩ := impl_isLit.ev l own [s]
  have ea : (good l && [s].all (inSet l.length) && decide (l.length ≤ 9)) = (good l && decide (l.length ≤ 9) && inSet l.length s) := by
    simp only [List.all_cons, List.all_nil, Bool.and_true]
    cases good l <;> cases inSet l.length s <;> cases decide (l.length ≤ 9) <;> rfl
  rw [ea] at hK
  cases e1 : (good l && decide (l.length ≤ 9) && inSet l.length s)
  · refine ⟨K, fun k hk => ?_⟩
    have h1 : impl_isLit.f k l own [s] = _ := hK k hk
    show impl_LitMoves.f k l own s = _
    unfold impl_LitMoves.f
    rw [h1, Option.bind_some, e1]
    rfl
  · have hG : GoodG l := (good_iff l).1 (by simp only [Bool.and_eq_true] at e1; exact e1.1.1)
    have hs : 0 ≤ s ∧ s < 2 ^ l.length := by simp only [Bool.and_eq_true] at e1; simpa [inSet] using e1.2
    obtain ⟨K2, hK2⟩ := impl_LitMoves.loop l hG s hs.1 hs.2 l.length 0 [] (by omega) (by omega) (by simp)
    refine ⟨K + K2, fun k hk => ?_⟩
    have h1 : impl_isLit.f k l own [s] = _ := hK k (by omega)
    show impl_LitMoves.f k l own s = _
    unfold impl_LitMoves.f
    rw [h1, Option.bind_some, e1, if_pos rfl]
    exact hK2 k (by omega)

/-! spec_LitMoves -/
theorem spec_LitMoves.loop (l : List Int) (hG : GoodG l) (s : Int) (h0 : 0 ≤ s) (h1 : s < 2 ^ l.length) (d : Nat) :
    ∀ (i : Nat) (o : List Int), l.length - i = d → i ≤ l.length → o.length ≤ i → Ev (fun k => spec_LitMoves.l0 k s o l (l.length : Int) (i : Int)) (o ++ moves l s i d, true) := by
  have h16 := hG.top
  have hp := pow16 hG.top
  induction d with
  | zero =>
    intro i o hd hi ho
    refine now fun k => ?_
    simp only [spec_LitMoves.l0]
    rw [if_neg (by omega)]
    simp [moves]
  | succ d ih =>
    intro i o hd hi ho
    have hlt : i < l.length := by omega
    have hx := hG.sets (rd l (i : Int)) (rd_mem l _ (by omega) (by omega))
    have hin := spec_grIn.eq s (i : Int) h0 (by omega) (by omega)
    rw [moves]
    by_cases e : bit s (i : Int) = true ∧ rd l (i : Int) ≠ 0
    · refine Ev.step (f := fun k => spec_LitMoves.l0 k s (o ++ [(i : Int)]) l (l.length : Int) ((i + 1 : Nat) : Int)) (fun k => ?_) (by rw [if_pos e]; simpa using ih (i + 1) (o ++ [(i : Int)]) (by omega) (by omega) (by simp; omega))
      simp only [spec_LitMoves.l0]
      rw [if_pos (by omega), if_pos (by omega), if_pos (by omega), hin, Option.bind_some, e.1, if_pos rfl, if_pos (by have := e.2; omega), if_pos (by omega), wrap_succ i (by omega)]
    · refine Ev.step (f := fun k => spec_LitMoves.l0 k s o l (l.length : Int) ((i + 1 : Nat) : Int)) (fun k => ?_) (by rw [if_neg e]; exact ih (i + 1) o (by omega) (by omega) (by omega))
      simp only [spec_LitMoves.l0]
      rw [if_pos (by omega), if_pos (by omega), if_pos (by omega), hin, Option.bind_some, wrap_succ i (by omega)]
      cases b : bit s (i : Int)
      · rw [if_neg (by decide)]
      · have z : rd l (i : Int) = 0 := Decidable.byContradiction fun h => e ⟨b, h⟩
        rw [if_pos rfl, if_neg (by omega)]
theorem spec_LitMoves.ev (l : List Int) (own : Bool) (s : Int) (h : l.length < 4611686018427387904) : Ev (fun k => spec_LitMoves.f k l own s) (if (good l && decide (l.length ≤ 9) && inSet l.length s) = true then (moves l s 0 l.length, true) else ([], false)) := by
  obtain ⟨K, hK⟩ := spec_liSet.ev l own s h
  cases e1 : (good l && decide (l.length ≤ 9) && inSet l.length s)
  · refine ⟨K, fun k hk => ?_⟩
    have h1 : spec_liSet.f k l own s = _ := hK k hk
    show spec_LitMoves.f k l own s = _
    unfold spec_LitMoves.f
    rw [h1, Option.bind_some, e1]
    rfl
  · have hG : GoodG l := (good_iff l).1 (by simp only [Bool.and_eq_true] at e1; exact e1.1.1)
    have hs : 0 ≤ s ∧ s < 2 ^ l.length := by simp only [Bool.and_eq_true] at e1; simpa [inSet] using e1.2
    obtain ⟨K2, hK2⟩ := spec_LitMoves.loop l hG s hs.1 hs.2 l.length 0 [] (by omega) (by omega) (by simp)
    refine ⟨K + K2, fun k hk => ?_⟩
    have h1 : spec_liSet.f k l own s = _ := hK k (by omega)
    show spec_LitMoves.f k l own s = _
    unfold spec_LitMoves.f
    rw [h1, Option.bind_some, e1, if_pos rfl]
    exact hK2 k (by omega)
end Go.Proofs.Ytjkijnggjjoheaa.Pure
