/- Plain laws on how far each set is from a goal, and on the way back. No program in sight. -/
import Derived.Test.YtjkijnggjjoheaaM12
namespace Go.Proofs.YtjkijnggjjoheaaM
open Go.RowKit Go.Proofs.YtjkijnggjjoheaaW.PrintWords Go.Proofs.YtjkijnggjjoheaaW.PrintLast Go.Proofs.YtjkijnggjjoheaaW.PrintMore
set_option linter.unusedVariables false
set_option linter.unusedSimpArgs false
def far (m : List (Nat × Nat)) (x : Nat) : Option Nat := (m.find? fun p => p.1 == x).map Prod.snd
theorem far_cons (a b : Nat) (m : List (Nat × Nat)) (x : Nat) : far ((a, b) :: m) x = if a = x then some b else far m x := by
  unfold far
  rw [List.find?_cons]
  by_cases e : a = x
  · simp [e]
  · have : (a == x) = false := by simp [e]
    rw [this, if_neg e]
theorem far_snoc {t e : Nat} : ∀ {m : List (Nat × Nat)}, far m t = none → ∀ x, far (m ++ [(t, e)]) x = if x = t then some e else far m x
  | [], _, x => by
    rw [List.nil_append, far_cons]
    by_cases h : x = t
    · rw [if_pos h, if_pos h.symm]
    · rw [if_neg h, if_neg (Ne.symm h)]
  | (a, b) :: m, h, x => by
    rw [far_cons] at h
    by_cases e1 : a = t
    · rw [if_pos e1] at h; cases h
    · rw [if_neg e1] at h
      rw [List.cons_append, far_cons, far_cons, far_snoc h x]
      by_cases e2 : a = x
      · rw [if_pos e2, if_pos e2, if_neg (by omega)]
      · rw [if_neg e2, if_neg e2]
theorem far_mem : ∀ {m : List (Nat × Nat)} {x v : Nat}, far m x = some v → x ∈ m.map Prod.fst
  | [], _, _, h => by simp [far] at h
  | (a, b) :: m, x, v, h => by
    rw [far_cons] at h
    by_cases e : a = x
    · simp [e]
    · rw [if_neg e] at h
      exact List.mem_cons_of_mem _ (far_mem h)
theorem far_none : ∀ {m : List (Nat × Nat)} {x : Nat}, far m x = none → x ∉ m.map Prod.fst
  | [], _, _ => by simp
  | (a, b) :: m, x, h => by
    rw [far_cons] at h
    by_cases e : a = x
    · rw [if_pos e] at h; cases h
    · rw [if_neg e] at h
      intro hm
      rcases List.mem_cons.1 hm with h1 | h1
      · exact e h1.symm
      · exact far_none h h1
theorem far_get : ∀ {m : List (Nat × Nat)}, (m.map Prod.fst).Nodup → ∀ k (h : k < m.length), far m m[k].1 = some m[k].2
  | [], _, k, h => by simp at h
  | (a, b) :: m, hd, 0, h => by rw [List.getElem_cons_zero, far_cons, if_pos rfl]
  | (a, b) :: m, hd, k + 1, h => by
    rw [List.map_cons, List.nodup_cons] at hd
    have hk : k < m.length := by simpa using h
    rw [List.getElem_cons_succ, far_cons, if_neg (fun e => hd.1 (List.mem_map.2 ⟨m[k], List.getElem_mem hk, e.symm⟩))]
    exact far_get hd.2 k hk
/-- One set is met: it is so far. -/
def meetF (m : List (Nat × Nat)) (t e : Nat) : List (Nat × Nat) := if (far m t).isSome = true then m else m ++ [(t, e)]
def farIn (mv : Nat → Nat → Nat) (s e : Nat) : Nat → Nat → List (Nat × Nat) → List (Nat × Nat)
  | 0, _, m => m
  | d + 1, i, m => farIn mv s e d (i + 1) (meetF m (mv s i) e)
def farGo (mv : Nat → Nat → Nat) (n : Nat) : Nat → Nat → List (Nat × Nat) → List (Nat × Nat)
  | 0, _, m => m
  | f + 1, k, m => if h : k < m.length then farGo mv n f (k + 1) (farIn mv m[k].1 (m[k].2 + 1) n 0 m) else m
/-- What moves are asked to be. -/
structure Moves (mv : Nat → Nat → Nat) (N n : Nat) : Prop where
  low : ∀ s i, s < N → i < n → mv s i < N
  stay : ∀ s i, s.testBit i = false → mv s i = s
  back : ∀ s i, s < N → i < n → mv (mv s i) i = s
structure FarOk (mv : Nat → Nat → Nat) (N n g : Nat) (m : List (Nat × Nat)) : Prop where
  ok : OrbOk N (m.map Prod.fst)
  goal : far m g = some 0
  dist : ∀ x v, far m x = some v → (v = 0 ∧ x = g) ∨ ∃ u, v = u + 1 ∧ ∃ i, i < n ∧ far m (mv x i) = some u
  small : ∀ x v, far m x = some v → v < m.length
variable {mv : Nat → Nat → Nat} {N n g : Nat} {m : List (Nat × Nat)}
theorem FarOk.length (h : FarOk mv N n g m) : m.length ≤ N := by
  have := h.ok.length
  rwa [List.length_map] at this
theorem FarOk.lt (h : FarOk mv N n g m) {x v : Nat} (hx : far m x = some v) : x < N := h.ok.low x (far_mem hx)
theorem meetF_keep {t e : Nat} {x v : Nat} (h : far m x = some v) : far (meetF m t e) x = some v := by
  unfold meetF
  split
  · exact h
  · next q =>
    have hn : far m t = none := by simpa using q
    rw [far_snoc hn, if_neg (fun e => by rw [e, hn] at h; cases h)]
    exact h
theorem meetF_list (t e : Nat) : ∃ r, meetF m t e = m ++ r := by
  unfold meetF
  split
  · exact ⟨[], by simp⟩
  · exact ⟨_, rfl⟩
theorem FarOk.meet (hm : Moves mv N n) (h : FarOk mv N n g m) {s v i : Nat} (hs : far m s = some v) (hi : i < n) : FarOk mv N n g (meetF m (mv s i) (v + 1)) := by
  by_cases q : (far m (mv s i)).isSome = true
  · have e : meetF m (mv s i) (v + 1) = m := by unfold meetF; rw [if_pos q]
    rw [e]; exact h
  · have hn : far m (mv s i) = none := by simpa using q
    have e : meetF m (mv s i) (v + 1) = m ++ [(mv s i, v + 1)] := by unfold meetF; rw [if_neg q]
    have hsN := h.lt hs
    have keep : ∀ {x v}, far m x = some v → far (m ++ [(mv s i, v + 1)]) x = some v := fun {x w} hx => by
      rw [far_snoc hn, if_neg (fun e => by rw [e, hn] at hx; cases hx)]; exact hx
    have keep2 : ∀ {x w}, far m x = some w → far (m ++ [(mv s i, v + 1)]) x = some w := fun {x w} hx => by
      rw [far_snoc hn, if_neg (fun e => by rw [e, hn] at hx; cases hx)]; exact hx
    rw [e]
    refine ⟨?_, keep2 h.goal, fun x w hw => ?_, fun x w hw => ?_⟩
    · have := h.ok.more (hm.low s i hsN hi)
      rw [if_neg (fun hc => far_none hn (List.contains_iff_mem.1 hc))] at this
      simpa using this
    · rw [far_snoc hn] at hw
      split at hw
      · next ex =>
        simp only [Option.some.injEq] at hw
        refine .inr ⟨v, hw.symm, i, hi, ?_⟩
        rw [ex, hm.back s i hsN hi]
        exact keep2 hs
      · rcases h.dist x w hw with h1 | ⟨u, h1, j, hj, h2⟩
        · exact .inl h1
        · exact .inr ⟨u, h1, j, hj, keep2 h2⟩
    · rw [far_snoc hn] at hw
      rw [List.length_append, List.length_singleton]
      split at hw
      · simp only [Option.some.injEq] at hw
        have := h.small s v hs
        omega
      · have := h.small x w hw
        omega
theorem farIn_ok (hm : Moves mv N n) {s v : Nat} : ∀ (d i : Nat) (m : List (Nat × Nat)), i + d ≤ n → FarOk mv N n g m → far m s = some v → FarOk mv N n g (farIn mv s (v + 1) d i m)
  | 0, _, _, _, h, _ => h
  | d + 1, i, m, hd, h, hs => farIn_ok hm d (i + 1) _ (by omega) (h.meet hm hs (by omega)) (meetF_keep hs)
theorem farIn_list {s e : Nat} : ∀ (d i : Nat) (m : List (Nat × Nat)), ∃ r, farIn mv s e d i m = m ++ r
  | 0, _, m => ⟨[], by simp [farIn]⟩
  | d + 1, i, m => by
    obtain ⟨r1, h1⟩ := meetF_list (m := m) (mv s i) e
    obtain ⟨r, hr⟩ := farIn_list d (i + 1) (meetF m (mv s i) e)
    unfold farIn
    rw [hr, h1]
    exact ⟨r1 ++ r, by rw [List.append_assoc]⟩
theorem farGo_ok (hm : Moves mv N n) : ∀ (f k : Nat) (m : List (Nat × Nat)), FarOk mv N n g m → FarOk mv N n g (farGo mv n f k m)
  | 0, _, _, h => h
  | f + 1, k, m, h => by
    unfold farGo
    split
    · next hk => exact farGo_ok hm f (k + 1) _ (farIn_ok hm n 0 m (by omega) h (far_get h.ok.apart k hk))
    · exact h
theorem FarOk.start (hg : g < N) : FarOk mv N n g [(g, 0)] :=
  ⟨⟨by simp, fun x hx => by rw [List.map_cons, List.map_nil, List.mem_singleton] at hx; rw [hx]; exact hg⟩, by rw [far_cons, if_pos rfl], fun x v h => by
    rw [far_cons] at h
    split at h
    · next e => simp only [Option.some.injEq] at h; exact .inl ⟨h.symm, e.symm⟩
    · simp [far] at h, fun x v h => by
    rw [far_cons] at h
    split at h
    · simp only [Option.some.injEq] at h; simp; omega
    · simp [far] at h⟩
/-- The first move that leads to a set so far. -/
def stepTo (mv : Nat → Nat → Nat) (m : List (Nat × Nat)) (v s : Nat) : Nat → Nat → Option Nat
  | 0, _ => none
  | d + 1, i => if far m (mv s i) = some v then some i else stepTo mv m v s d (i + 1)
theorem stepTo_some {v s : Nat} : ∀ (d i : Nat), (∃ j, i ≤ j ∧ j < i + d ∧ far m (mv s j) = some v) → ∃ j, stepTo mv m v s d i = some j ∧ j < i + d ∧ far m (mv s j) = some v
  | 0, i, ⟨j, h1, h2, _⟩ => by omega
  | d + 1, i, ⟨j, h1, h2, h3⟩ => by
    unfold stepTo
    by_cases e : far m (mv s i) = some v
    · rw [if_pos e]; exact ⟨i, rfl, by omega, e⟩
    · rw [if_neg e]
      obtain ⟨j2, a, b, c⟩ := stepTo_some d (i + 1) ⟨j, by (rcases Nat.lt_or_eq_of_le h1 with h | h; exact h; subst h; exact absurd h3 e), by omega, h3⟩
      exact ⟨j2, a, by omega, c⟩
theorem FarOk.stepTo (h : FarOk mv N n g m) {s v : Nat} (hs : far m s = some (v + 1)) : ∃ j, Go.Proofs.YtjkijnggjjoheaaM.stepTo mv m v s n 0 = some j ∧ j < n ∧ far m (mv s j) = some v := by
  rcases h.dist s _ hs with ⟨h1, _⟩ | ⟨u, h1, i, hi, h2⟩
  · omega
  · obtain rfl : v = u := by omega
    obtain ⟨j, a, b, c⟩ := stepTo_some (mv := mv) (m := m) (v := v) (s := s) n 0 ⟨i, by omega, by omega, h2⟩
    exact ⟨j, a, by omega, c⟩
def wayBack (mv : Nat → Nat → Nat) (m : List (Nat × Nat)) (n : Nat) : Nat → Nat → List Nat → List Nat
  | 0, _, out => out
  | v + 1, s, out => match stepTo mv m v s n 0 with
    | some j => wayBack mv m n v (mv s j) (out ++ [j])
    | none => out
/-- How far, as a row: -1 where a set is not met. -/
def farRow (N : Nat) (m : List (Nat × Nat)) : List Int := (List.range N).map fun x => match far m x with | some v => (v : Int) | none => -1
theorem farRow_length (N : Nat) (m : List (Nat × Nat)) : (farRow N m).length = N := by simp [farRow]
theorem farRow_get (N : Nat) (m : List (Nat × Nat)) (x : Nat) (h : x < N) : rd (farRow N m) (x : Int) = match far m x with | some v => (v : Int) | none => -1 := by
  rw [rd_get _ _ (by rw [farRow_length]; exact h)]
  simp [farRow]
theorem farRow_set {t e : Nat} (h : far m t = none) (ht : t < N) : (farRow N m).set t (e : Int) = farRow N (m ++ [(t, e)]) := by
  apply List.ext_getElem
  · simp [farRow]
  · intro i h1 h2
    rw [List.getElem_set]
    simp only [farRow, List.getElem_map, List.getElem_range, far_snoc h]
    by_cases e1 : t = i
    · rw [if_pos e1, if_pos e1.symm]
    · rw [if_neg e1, if_neg (Ne.symm e1)]
theorem farRow_nil (N : Nat) : farRow N [] = List.replicate N (-1) := by
  apply List.ext_getElem
  · simp [farRow]
  · intro i h1 h2
    simp [farRow, far]
def pairs (m : List (Nat × Nat)) : List (Int × Int) := m.map fun p => ((p.1 : Int), (p.2 : Int))
theorem moves_lit (l : List Int) (hG : GoodG l) : Moves (moveOf l false) (2 ^ l.length) l.length :=
  ⟨fun s i hs hi => moveOf_lt l hG false s i hs hi, fun s i h => by unfold moveOf; rw [if_neg (by decide), if_neg (by rw [h]; decide)], fun s i hs hi => litMove_back l hG s i hs hi⟩
/-- The way from one set to another, if there is one. -/
def wayOf (l : List Int) (a g : Nat) : List Int × Bool :=
  match far (farGo (moveOf l false) l.length (2 ^ l.length) 0 [(g, 0)]) a with
  | some v => (ints (wayBack (moveOf l false) (farGo (moveOf l false) l.length (2 ^ l.length) 0 [(g, 0)]) l.length v a []), true)
  | none => ([], false)
theorem wayBack_length {mv : Nat → Nat → Nat} {m : List (Nat × Nat)} {n : Nat} : ∀ (v s : Nat) (out : List Nat), (wayBack mv m n v s out).length ≤ out.length + v
  | 0, _, out => Nat.le_refl _
  | v + 1, s, out => by
    unfold wayBack
    split
    · next j _ =>
      have := wayBack_length (mv := mv) (m := m) (n := n) v (mv s j) (out ++ [j])
      rw [List.length_append, List.length_singleton] at this
      omega
    · omega
theorem wayOf_length (l : List Int) (hG : GoodG l) (a g : Nat) (hg : g < 2 ^ l.length) : (wayOf l a g).1.length ≤ 2 ^ l.length := by
  have hok := farGo_ok (moves_lit l hG) (2 ^ l.length) 0 [(g, 0)] (FarOk.start hg)
  unfold wayOf
  generalize farGo (moveOf l false) l.length (2 ^ l.length) 0 [(g, 0)] = M at hok ⊢
  cases q : far M a with
  | none => simp
  | some v =>
    have hv := hok.small a v q
    have hl := hok.length
    have := wayBack_length (mv := moveOf l false) (m := M) (n := l.length) v a []
    simp only [ints_length, List.length_nil] at this ⊢
    omega
end Go.Proofs.YtjkijnggjjoheaaM
