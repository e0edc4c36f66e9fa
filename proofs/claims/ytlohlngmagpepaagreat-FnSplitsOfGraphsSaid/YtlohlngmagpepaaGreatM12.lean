/- Plain laws on all orbits of a graph's sets: where each begins, and what it holds. No program in sight. -/
import Derived.Test.YtlohlngmagpepaaGreatM9
namespace Go.Proofs.YtlohlngmagpepaaGreatM
open Go.RowKit Go.Proofs.YtlohlngmagpepaaGreatW.PrintWords Go.Proofs.YtlohlngmagpepaaGreatW.PrintLast Go.Proofs.YtlohlngmagpepaaGreatW.PrintMore
set_option linter.unusedVariables false
set_option linter.unusedSimpArgs false
theorem orbIn_sub {mv : Nat → Nat → Nat} {s : Nat} (d i : Nat) (out : List Nat) : ∀ x ∈ out, x ∈ orbIn mv s d i out := fun x hx => by
  obtain ⟨r, hr⟩ := orbIn_keeps (mv := mv) (s := s) d i out
  rw [hr]
  exact List.mem_append_left _ hx
theorem orbIn_covers {mv : Nat → Nat → Nat} {s : Nat} : ∀ (d i : Nat) (out : List Nat) (j : Nat), i ≤ j → j < i + d → mv s j ∈ orbIn mv s d i out
  | 0, i, out, j, h1, h2 => by omega
  | d + 1, i, out, j, h1, h2 => by
    unfold orbIn
    by_cases e : j = i
    · subst e
      refine orbIn_sub d (j + 1) _ _ ?_
      split
      · next h => exact List.contains_iff_mem.1 h
      · exact List.mem_append_right _ (by simp)
    · exact orbIn_covers d (i + 1) _ j (by omega) (by omega)
theorem orbIn_get_keep {mv : Nat → Nat → Nat} {s : Nat} (d i : Nat) (out : List Nat) (j : Nat) (hj : j < out.length) : ∃ h : j < (orbIn mv s d i out).length, (orbIn mv s d i out)[j] = out[j] := by
  obtain ⟨r, hr⟩ := orbIn_keeps (mv := mv) (s := s) d i out
  refine ⟨by rw [hr]; simp; omega, ?_⟩
  simp only [hr]
  rw [List.getElem_append_left hj]
theorem orbGo_closed {mv : Nat → Nat → Nat} {N n : Nat} (hm : ∀ s i, s < N → i < n → mv s i < N) : ∀ (f k : Nat) (out : List Nat), k + f = N → OrbOk N out → (∀ j (h : j < out.length), j < k → ∀ i, i < n → mv out[j] i ∈ out) → ∀ x ∈ orbGo mv n f k out, ∀ i, i < n → mv x i ∈ orbGo mv n f k out
  | 0, k, out, hf, ho, hc => fun x hx i hi => by
    have hx2 : x ∈ out := hx
    obtain ⟨j, hj, rfl⟩ := List.getElem_of_mem hx2
    have := ho.length
    exact hc j hj (by omega) i hi
  | f + 1, k, out, hf, ho, hc => by
    unfold orbGo
    split
    · next h =>
      refine orbGo_closed hm f (k + 1) _ (by omega) (orbIn_ok n 0 out (fun j _ hj => hm _ _ (ho.low _ (List.getElem_mem h)) (by omega)) ho) (fun j hj hjk i hi => ?_)
      have hjo : j < out.length := by omega
      obtain ⟨_, hg⟩ := orbIn_get_keep (mv := mv) (s := out[k]) n 0 out j hjo
      rw [hg]
      by_cases e : j = k
      · subst e
        exact orbIn_covers n 0 out i (Nat.zero_le _) (by omega)
      · exact orbIn_sub n 0 out _ (hc j hjo (by omega) i hi)
    · next h =>
      intro x hx i hi
      obtain ⟨j, hj, rfl⟩ := List.getElem_of_mem hx
      exact hc j hj (by omega) i hi
theorem orbL_closed {mv : Nat → Nat → Nat} {n s : Nat} (hm : ∀ s i, s < 2 ^ n → i < n → mv s i < 2 ^ n) (hs : s < 2 ^ n) : ∀ x ∈ orbL mv n s, ∀ i, i < n → mv x i ∈ orbL mv n s :=
  orbGo_closed hm (2 ^ n) 0 [s] (by omega) ⟨by simp, fun x hx => by rw [List.mem_singleton.1 hx]; exact hs⟩ (fun j _ hj => by omega)
theorem orbIn_least {mv : Nat → Nat → Nat} {s n : Nat} (P : Nat → Prop) (hP : ∀ x i, P x → i < n → P (mv x i)) (hs : P s) : ∀ (d i : Nat) (out : List Nat), i + d ≤ n → (∀ x ∈ out, P x) → ∀ x ∈ orbIn mv s d i out, P x
  | 0, _, _, _, h => h
  | d + 1, i, out, hd, h => orbIn_least P hP hs d (i + 1) _ (by omega) (fun x hx => by
    split at hx
    · exact h x hx
    · rcases List.mem_append.1 hx with hx | hx
      · exact h x hx
      · rw [List.mem_singleton.1 hx]; exact hP s i hs (by omega))
theorem orbGo_least {mv : Nat → Nat → Nat} {n : Nat} (P : Nat → Prop) (hP : ∀ x i, P x → i < n → P (mv x i)) : ∀ (f k : Nat) (out : List Nat), (∀ x ∈ out, P x) → ∀ x ∈ orbGo mv n f k out, P x
  | 0, _, _, h => h
  | f + 1, k, out, h => by
    unfold orbGo
    split
    · next e => exact orbGo_least P hP f (k + 1) _ (orbIn_least P hP (h _ (List.getElem_mem e)) n 0 out (by omega) h)
    · exact h
theorem orbL_least {mv : Nat → Nat → Nat} {n s : Nat} (P : Nat → Prop) (hs : P s) (hP : ∀ x i, P x → i < n → P (mv x i)) : ∀ x ∈ orbL mv n s, P x :=
  orbGo_least P hP _ _ _ (fun x hx => by rw [List.mem_singleton.1 hx]; exact hs)
theorem orbL_sub {mv : Nat → Nat → Nat} {n s t : Nat} (hm : ∀ s i, s < 2 ^ n → i < n → mv s i < 2 ^ n) (hs : s < 2 ^ n) (ht : t ∈ orbL mv n s) : ∀ x ∈ orbL mv n t, x ∈ orbL mv n s :=
  orbL_least (fun x => x ∈ orbL mv n s) ht (fun x i hx hi => orbL_closed hm hs x hx i hi)
/-- Where each move undoes itself, whoever is reached reaches back. -/
theorem orbL_back {mv : Nat → Nat → Nat} {n s t : Nat} (hm : ∀ s i, s < 2 ^ n → i < n → mv s i < 2 ^ n) (hi2 : ∀ s i, s < 2 ^ n → i < n → mv (mv s i) i = s) (hs : s < 2 ^ n) (ht : t ∈ orbL mv n s) : s ∈ orbL mv n t := by
  have := orbL_least (mv := mv) (n := n) (s := s) (fun x => x < 2 ^ n ∧ s ∈ orbL mv n x) ⟨hs, orbL_self mv n s⟩ (fun x i hx hi => by
    have hy := hm x i hx.1 hi
    refine ⟨hy, ?_⟩
    have h1 : x ∈ orbL mv n (mv x i) := by
      have := orbL_closed hm hy (mv x i) (orbL_self mv n (mv x i)) i hi
      rw [hi2 x i hx.1 hi] at this
      exact this
    exact orbL_sub hm hy h1 s hx.2) t ht
  exact this.2
theorem litMove_back (l : List Int) (hG : GoodG l) (s i : Nat) (hs : s < 2 ^ l.length) (hi : i < l.length) : moveOf l false (moveOf l false s i) i = s := by
  have hirr := hG.irr i hi
  have hbit : (rd l (i : Int)).toNat.testBit i = false := by
    rw [rd_getD]
    exact hirr
  have em : ∀ s, moveOf l false s i = if s.testBit i = true then s ^^^ (rd l (i : Int)).toNat else s := fun s => rfl
  rw [em s]
  cases e : s.testBit i
  · rw [if_neg (by decide), em, e, if_neg (by decide)]
  · rw [if_pos rfl, em, Nat.testBit_xor, e, hbit, if_pos (by rfl), Nat.xor_assoc, Nat.xor_self, Nat.xor_zero]
theorem mem_orbitOf (l : List Int) (hG : GoodG l) (s x : Nat) (hs : s < 2 ^ l.length) : x ∈ orbitOf l false s ↔ x ∈ orbL (moveOf l false) l.length s := by
  have ho := orbL_ok (fun s i hs hi => moveOf_lt l hG false s i hs hi) hs
  exact ((rising_perm ho).mem_iff).symm
/-- Where the orbits begin: d sets from s on, some being met. -/
def orbsGo (l : List Int) : Nat → Nat → List Nat → List Nat
  | 0, _, _ => []
  | d + 1, s, met => if met.contains s = true then orbsGo l d (s + 1) met else s :: orbsGo l d (s + 1) (met ++ orbitOf l false s)
def starts (l : List Int) : List Nat := orbsGo l (2 ^ l.length) 0 []
theorem orbsGo_length (l : List Int) : ∀ (d s : Nat) (met : List Nat), (orbsGo l d s met).length ≤ d
  | 0, _, _ => Nat.le_refl _
  | d + 1, s, met => by
    unfold orbsGo
    split
    · have := orbsGo_length l d (s + 1) met; omega
    · have := orbsGo_length l d (s + 1) (met ++ orbitOf l false s)
      rw [List.length_cons]
      omega
theorem starts_length (l : List Int) : (starts l).length ≤ 2 ^ l.length := orbsGo_length l _ _ _
theorem orbsGo_lt (l : List Int) : ∀ (d s : Nat) (met : List Nat), ∀ x ∈ orbsGo l d s met, x < s + d
  | 0, _, _ => fun x hx => by simp [orbsGo] at hx
  | d + 1, s, met => fun x hx => by
    unfold orbsGo at hx
    split at hx
    · have := orbsGo_lt l d (s + 1) met x hx; omega
    · rcases List.mem_cons.1 hx with rfl | hx
      · omega
      · have := orbsGo_lt l d (s + 1) _ x hx; omega
theorem starts_lt (l : List Int) : ∀ x ∈ starts l, x < 2 ^ l.length := fun x hx => by
  have := orbsGo_lt l _ _ _ x hx
  omega
theorem orbsGo_least (l : List Int) (hG : GoodG l) : ∀ (d s : Nat) (met : List Nat), s + d = 2 ^ l.length → (∀ t, t < s → t ∈ met) → (∀ t ∈ met, t < 2 ^ l.length ∧ ∀ x ∈ orbL (moveOf l false) l.length t, x ∈ met) → ∀ a ∈ orbsGo l d s met, ∀ x ∈ orbitOf l false a, a ≤ x
  | 0, _, _, _, _, _ => fun a ha => by simp [orbsGo] at ha
  | d + 1, s, met, hd, hlo, hcl => by
    have hm := fun s i hs hi => moveOf_lt l hG false s i hs hi
    have hs : s < 2 ^ l.length := by omega
    unfold orbsGo
    split
    · next e =>
      refine orbsGo_least l hG d (s + 1) met (by omega) (fun t ht => ?_) hcl
      by_cases h : t = s
      · subst h; exact List.contains_iff_mem.1 e
      · exact hlo t (by omega)
    · next e =>
      have hns : s ∉ met := fun h => e (List.contains_iff_mem.2 h)
      intro a ha
      rcases List.mem_cons.1 ha with rfl | ha
      · intro x hx
        have hx2 := (mem_orbitOf l hG a x hs).1 hx
        refine Nat.le_of_not_lt fun hlt => hns ?_
        exact (hcl x (hlo x hlt)).2 a (orbL_back hm (fun s i hs hi => litMove_back l hG s i hs hi) hs hx2)
      · refine orbsGo_least l hG d (s + 1) (met ++ orbitOf l false s) (by omega) (fun t ht => ?_) (fun t ht => ?_) a ha
        · by_cases h : t = s
          · subst h
            exact List.mem_append_right _ ((mem_orbitOf l hG t t hs).2 (orbL_self _ _ _))
          · exact List.mem_append_left _ (hlo t (by omega))
        · rcases List.mem_append.1 ht with ht | ht
          · exact ⟨(hcl t ht).1, fun x hx => List.mem_append_left _ ((hcl t ht).2 x hx)⟩
          · have ht2 := (mem_orbitOf l hG s t hs).1 ht
            have ho := orbL_ok hm hs
            exact ⟨ho.low t ht2, fun x hx => List.mem_append_right _ ((mem_orbitOf l hG s x hs).2 (orbL_sub hm hs ht2 x hx))⟩
theorem starts_least (l : List Int) (hG : GoodG l) : ∀ a ∈ starts l, ∀ x ∈ orbitOf l false a, a ≤ x :=
  orbsGo_least l hG _ 0 [] (by omega) (fun t ht => by omega) (fun t ht => by simp at ht)
theorem orbit_head (l : List Int) (hG : GoodG l) (a : Nat) (ha : a ∈ starts l) : ∃ r, orbitOf l false a = a :: r := by
  have hlt := starts_lt l a ha
  have hle := starts_least l hG a ha
  have hself : a ∈ orbitOf l false a := (mem_orbitOf l hG a a hlt).2 (orbL_self _ _ _)
  have hup : (orbitOf l false a).Pairwise (fun a b => a < b) := rising_up _ _
  cases e : orbitOf l false a with
  | nil => rw [e] at hself; simp at hself
  | cons b r =>
    rw [e] at hself hle hup
    rcases List.mem_cons.1 hself with h | h
    · exact ⟨r, by rw [h]⟩
    · have h1 := (List.pairwise_cons.1 hup).1 a h
      have h2 := hle b List.mem_cons_self
      omega
def orbitSizes (l : List Int) : List Nat := (starts l).map fun a => (orbitOf l false a).length
end Go.Proofs.YtlohlngmagpepaaGreatM
