/- Plain laws on orbits: they share all sets of lights; fewest lights. No program in sight. -/
import Derived.Test.YtjkijnggjjoheaaM11
import Derived.Test.YtjkijnggjjoheaaM12
import Derived.Test.YtjkijnggjjoheaaM13
namespace Go.Proofs.YtjkijnggjjoheaaM
open Go.RowKit Go.Proofs.YtjkijnggjjoheaaW.PrintWords Go.Proofs.YtjkijnggjjoheaaW.PrintLast Go.Proofs.YtjkijnggjjoheaaW.PrintMore
set_option linter.unusedVariables false
set_option linter.unusedSimpArgs false
theorem orbitOf_nodup (l : List Int) (s : Nat) : (orbitOf l false s).Nodup := (rising_up _ _).imp (fun h => Nat.ne_of_lt h)
theorem orbit_self (l : List Int) (hG : GoodG l) (s : Nat) (hs : s < 2 ^ l.length) : s ∈ orbitOf l false s := (mem_orbitOf l hG s s hs).2 (orbL_self _ _ _)
theorem orbit_sub (l : List Int) (hG : GoodG l) {s t : Nat} (hs : s < 2 ^ l.length) (ht : t ∈ orbitOf l false s) : ∀ x ∈ orbitOf l false t, x ∈ orbitOf l false s := fun x hx => by
  have hm := fun s i hs hi => moveOf_lt l hG false s i hs hi
  have h1 := (mem_orbitOf l hG s t hs).1 ht
  have h2 := (orbL_ok hm hs).low t h1
  exact (mem_orbitOf l hG s x hs).2 (orbL_sub hm hs h1 x ((mem_orbitOf l hG t x h2).1 hx))
theorem orbit_back (l : List Int) (hG : GoodG l) {s t : Nat} (hs : s < 2 ^ l.length) (ht : t ∈ orbitOf l false s) : s ∈ orbitOf l false t := by
  have hm := fun s i hs hi => moveOf_lt l hG false s i hs hi
  have h1 := (mem_orbitOf l hG s t hs).1 ht
  have h2 := (orbL_ok hm hs).low t h1
  exact (mem_orbitOf l hG t s h2).2 (orbL_back hm (fun s i hs hi => litMove_back l hG s i hs hi) hs h1)
theorem rising_same {N : Nat} {a b : List Nat} (h : ∀ x, x ∈ a ↔ x ∈ b) : rising N a = rising N b := by
  unfold rising
  congr 1
  funext x
  rw [Bool.eq_iff_iff, List.contains_iff_mem, List.contains_iff_mem]
  exact h x
theorem orbit_same (l : List Int) (hG : GoodG l) {s t : Nat} (hs : s < 2 ^ l.length) (ht : t ∈ orbitOf l false s) : orbitOf l false t = orbitOf l false s := by
  have hm := fun s i hs hi => moveOf_lt l hG false s i hs hi
  have h1 := (mem_orbitOf l hG s t hs).1 ht
  have h2 := (orbL_ok hm hs).low t h1
  refine rising_same fun x => ⟨fun hx => ?_, fun hx => ?_⟩
  · exact orbL_sub hm hs h1 x hx
  · exact orbL_sub hm h2 (orbL_back hm (fun s i hs hi => litMove_back l hG s i hs hi) hs h1) x hx
theorem full_length {N : Nat} {met : List Nat} (hn : met.Nodup) (hlo : ∀ t, t < N → t ∈ met) (hlt : ∀ t ∈ met, t < N) : met.length = N := by
  have h1 := length_low N met hn hlt
  have h2 := (rising_perm (N := N) (out := met) ⟨hn, hlt⟩).length_eq
  have h3 : rising N met = List.range N := List.filter_eq_self.2 fun x hx => List.contains_iff_mem.2 (hlo x (List.mem_range.1 hx))
  rw [h2, h3, List.length_range]
theorem perm_sum {a b : List Nat} (h : a.Perm b) : a.sum = b.sum := by
  induction h with
  | nil => rfl
  | cons x _ ih => simp [ih]
  | swap x y l => simp only [List.sum_cons]; omega
  | trans _ _ h1 h2 => rw [h1, h2]
theorem orbs_sum (l : List Int) (hG : GoodG l) : ∀ (d s : Nat) (met : List Nat), s + d = 2 ^ l.length → met.Nodup → (∀ t, t < s → t ∈ met) → (∀ t ∈ met, t < 2 ^ l.length ∧ ∀ x ∈ orbitOf l false t, x ∈ met) →
    ((orbsGo l d s met).map fun a => (orbitOf l false a).length).sum + met.length = 2 ^ l.length
  | 0, s, met, hd, hn, hlo, hcl => by
    have := full_length hn (fun t ht => hlo t (by omega)) (fun t ht => (hcl t ht).1)
    simp [orbsGo, this]
  | d + 1, s, met, hd, hn, hlo, hcl => by
    have hs : s < 2 ^ l.length := by omega
    unfold orbsGo
    split
    · next e =>
      refine orbs_sum l hG d (s + 1) met (by omega) hn (fun t ht => ?_) hcl
      by_cases h : t = s
      · subst h; exact List.contains_iff_mem.1 e
      · exact hlo t (by omega)
    · next e =>
      have hns : s ∉ met := fun h => e (List.contains_iff_mem.2 h)
      have ih := orbs_sum l hG d (s + 1) (met ++ orbitOf l false s) (by omega) ?_ (fun t ht => ?_) (fun t ht => ?_)
      · simp only [List.map_cons, List.sum_cons, List.length_append] at ih ⊢
        omega
      · refine List.nodup_append.2 ⟨hn, orbitOf_nodup l s, fun a ha b hb e => ?_⟩
        subst e
        exact hns ((hcl a ha).2 s (orbit_back l hG hs hb))
      · by_cases h : t = s
        · subst h
          exact List.mem_append_right _ (orbit_self l hG t hs)
        · exact List.mem_append_left _ (hlo t (by omega))
      · rcases List.mem_append.1 ht with ht | ht
        · exact ⟨(hcl t ht).1, fun x hx => List.mem_append_left _ ((hcl t ht).2 x hx)⟩
        · exact ⟨orbitOf_lt l false s t ht, fun x hx => List.mem_append_right _ (orbit_sub l hG hs ht x hx)⟩
theorem orbs_cover (l : List Int) (hG : GoodG l) : ∀ (d s : Nat) (met : List Nat), s + d = 2 ^ l.length → (∀ t, t < s → t ∈ met) → ∀ t, t < 2 ^ l.length → t ∈ met ∨ ∃ a ∈ orbsGo l d s met, t ∈ orbitOf l false a
  | 0, s, met, hd, hlo, t, ht => .inl (hlo t (by omega))
  | d + 1, s, met, hd, hlo, t, ht => by
    have hs : s < 2 ^ l.length := by omega
    unfold orbsGo
    split
    · next e =>
      refine orbs_cover l hG d (s + 1) met (by omega) (fun t ht => ?_) t ht
      by_cases h : t = s
      · subst h; exact List.contains_iff_mem.1 e
      · exact hlo t (by omega)
    · next e =>
      have hlo2 : ∀ t, t < s + 1 → t ∈ met ++ orbitOf l false s := fun t ht => by
        by_cases h : t = s
        · subst h
          exact List.mem_append_right _ (orbit_self l hG t hs)
        · exact List.mem_append_left _ (hlo t (by omega))
      rcases orbs_cover l hG d (s + 1) (met ++ orbitOf l false s) (by omega) hlo2 t ht with h | ⟨a, ha, h⟩
      · rcases List.mem_append.1 h with h | h
        · exact .inl h
        · exact .inr ⟨s, List.mem_cons_self, h⟩
      · exact .inr ⟨a, List.mem_cons_of_mem _ ha, h⟩
theorem orbsGo_ge (l : List Int) : ∀ (d s : Nat) (met : List Nat), ∀ x ∈ orbsGo l d s met, s ≤ x
  | 0, s, met, x, hx => by simp [orbsGo] at hx
  | d + 1, s, met, x, hx => by
    unfold orbsGo at hx
    split at hx
    · exact Nat.le_of_succ_le (orbsGo_ge l d (s + 1) met x hx)
    · rcases List.mem_cons.1 hx with h | h
      · omega
      · exact Nat.le_of_succ_le (orbsGo_ge l d (s + 1) _ x h)
theorem orbsGo_up (l : List Int) : ∀ (d s : Nat) (met : List Nat), (orbsGo l d s met).Pairwise (fun a b => a < b)
  | 0, s, met => by simp [orbsGo]
  | d + 1, s, met => by
    unfold orbsGo
    split
    · exact orbsGo_up l d (s + 1) met
    · exact List.pairwise_cons.2 ⟨fun x hx => orbsGo_ge l d (s + 1) _ x hx, orbsGo_up l d (s + 1) _⟩
theorem starts_up (l : List Int) : (starts l).Pairwise (fun a b => a < b) := orbsGo_up l _ _ _
theorem starts_head (l : List Int) : ∃ r, starts l = 0 :: r := by
  unfold starts
  obtain ⟨d, hd⟩ : ∃ d, 2 ^ l.length = d + 1 := ⟨2 ^ l.length - 1, by have := Nat.two_pow_pos l.length; omega⟩
  rw [hd]
  unfold orbsGo
  rw [if_neg (by simp)]
  exact ⟨_, rfl⟩
theorem sizes_sum (l : List Int) (hG : GoodG l) : (orbitSizes l).sum = 2 ^ l.length := by
  have h := orbs_sum l hG (2 ^ l.length) 0 [] (by omega) List.nodup_nil (fun t ht => by omega) (fun t ht => by simp at ht)
  simpa [orbitSizes, starts] using h
theorem sorted_perm (l : List Int) : (sortedSizes l).Perm (orbitSizes l) := by simpa [sortedSizes] using slots_perm (orbitSizes l) []
theorem sorted_sum (l : List Int) (hG : GoodG l) : (sortedSizes l).sum = 2 ^ l.length := by rw [perm_sum (sorted_perm l), sizes_sum l hG]
theorem sorted_len (l : List Int) : (sortedSizes l).length = (starts l).length := by rw [(sorted_perm l).length_eq]; simp [orbitSizes]
theorem sorted_up (l : List Int) : (sortedSizes l).Pairwise (fun a b => a ≤ b) := slots_up _ _ List.Pairwise.nil
theorem orbit_zero (l : List Int) (hG : GoodG l) : orbitOf l false 0 = [0] := by
  have h0 := Nat.two_pow_pos l.length
  have hz : ∀ x ∈ orbitOf l false 0, x = 0 := fun x hx => orbL_least (mv := moveOf l false) (n := l.length) (fun x => x = 0) rfl (fun x i hx _ => by subst hx; simp [moveOf]) x ((mem_orbitOf l hG 0 x h0).1 hx)
  have hs := orbit_self l hG 0 h0
  have hn := orbitOf_nodup l 0
  cases e : orbitOf l false 0 with
  | nil => rw [e] at hs; simp at hs
  | cons a r =>
    rw [e] at hz hn
    have ha := hz a List.mem_cons_self
    subst ha
    cases r with
    | nil => rfl
    | cons b r =>
      have hb := hz b (by simp)
      subst hb
      simp at hn
theorem sorted_head (l : List Int) (hG : GoodG l) : ∃ r, sortedSizes l = 1 :: r := by
  obtain ⟨r, hr⟩ := starts_head l
  have h1 : 1 ∈ sortedSizes l := by
    rw [(sorted_perm l).mem_iff]
    unfold orbitSizes
    rw [hr, List.map_cons, orbit_zero l hG]
    exact List.mem_cons_self
  have hp : ∀ x ∈ sortedSizes l, 1 ≤ x := fun x hx => by
    rw [(sorted_perm l).mem_iff] at hx
    obtain ⟨a, ha, rfl⟩ := List.mem_map.1 hx
    exact List.length_pos_of_mem (orbit_self l hG a (starts_lt l a ha))
  have hu := sorted_up l
  cases e : sortedSizes l with
  | nil => rw [e] at h1; simp at h1
  | cons a s =>
    rw [e] at h1 hp hu
    have ha := hp a List.mem_cons_self
    rcases List.mem_cons.1 h1 with h | h
    · exact ⟨s, by rw [h]⟩
    · have := (List.pairwise_cons.1 hu).1 1 h
      exact ⟨s, by rw [show a = 1 by omega]⟩
theorem orbit_start (l : List Int) (hG : GoodG l) {t : Nat} (ht : t < 2 ^ l.length) : ∃ a r, orbitOf l false t = a :: r ∧ a ∈ starts l := by
  rcases orbs_cover l hG (2 ^ l.length) 0 [] (by omega) (fun t ht => by omega) t ht with h | ⟨a, ha, h⟩
  · simp at h
  · obtain ⟨r, hr⟩ := orbit_head l hG a ha
    exact ⟨a, r, by rw [orbit_same l hG (starts_lt l a ha) h, hr], ha⟩
theorem fewGo_all : ∀ (o : List Nat) (x : Nat), ∀ s ∈ o, fewGo o x ≤ pop s
  | [], _, s, hs => by simp at hs
  | t :: r, x, s, hs => by
    unfold fewGo
    rcases List.mem_cons.1 hs with h | h
    · subst h
      refine Nat.le_trans (fewGo_le r _) ?_
      split <;> omega
    · exact fewGo_all r _ s h
theorem fewGo_some : ∀ (o : List Nat) (x : Nat), fewGo o x = x ∨ ∃ s ∈ o, pop s = fewGo o x
  | [], _ => .inl rfl
  | t :: r, x => by
    unfold fewGo
    rcases fewGo_some r (if pop t < x then pop t else x) with h | ⟨s, hs, h⟩
    · by_cases e : pop t < x
      · rw [if_pos e] at h ⊢
        exact .inr ⟨t, List.mem_cons_self, h.symm⟩
      · rw [if_neg e] at h ⊢
        exact .inl h
    · exact .inr ⟨s, List.mem_cons_of_mem _ hs, h⟩
theorem few_found (l : List Int) (hG : GoodG l) {t : Nat} (ht : t < 2 ^ l.length) : ∃ s ∈ orbitOf l false t, pop s = fewGo (orbitOf l false t) l.length := by
  rcases fewGo_some (orbitOf l false t) l.length with h | h
  · have hs := orbit_self l hG t ht
    have h1 := fewGo_all (orbitOf l false t) l.length t hs
    have h2 := pop_le (k := l.length) (by have := hG.top; omega) ht
    exact ⟨t, hs, by omega⟩
  · exact h
end Go.Proofs.YtjkijnggjjoheaaM
