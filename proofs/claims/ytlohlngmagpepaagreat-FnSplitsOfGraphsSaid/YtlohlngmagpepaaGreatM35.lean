/- Plain laws on systems of equations: their least solution, and how many there are. No program in sight. -/
import Derived.Test.YtlohlngmagpepaaGreatM31
import Derived.Test.YtlohlngmagpepaaGreatM34
namespace Go.Proofs.YtlohlngmagpepaaGreatM
open Go.RowKit Go.Proofs.YtlohlngmagpepaaGreatW.PrintWords Go.Proofs.YtlohlngmagpepaaGreatW.PrintLast Go.Proofs.YtlohlngmagpepaaGreatW.PrintMore
set_option linter.unusedVariables false
set_option linter.unusedSimpArgs false
def paAll (s : List PEq) (l : List PEq) : List PEq := l.foldl (fun s e => (paPut s e).1) s
theorem paAll_snoc (s l : List PEq) (e : PEq) : paAll s (l ++ [e]) = (paPut (paAll s l) e).1 := by
  unfold paAll
  rw [List.foldl_append]
  rfl
def PEqs (n : Nat) (l : List PEq) : Prop := ∀ e ∈ l, e.1 < 2 ^ n ∧ e.2 < 2
theorem put_true {n : Nat} (hn : n ≤ 63) {s : List PEq} (h : PSys n s) {e : PEq} (he : e.1 < 2 ^ n ∧ e.2 < 2) {y : Nat} (hy : y < 2 ^ n) (hs : PSol s y) (hs2 : oddm e.1 y = decide (e.2 = 1)) : (paPut s e).2 = true := (put_sol hn h he).1.2 ⟨y, hy, hs, hs2⟩
theorem all_sol {n : Nat} (hn : n ≤ 63) {y : Nat} (hy : y < 2 ^ n) : ∀ (l : List PEq) (s : List PEq), PSys n s → PEqs n l → PSol s y → (∀ e ∈ l, oddm e.1 y = decide (e.2 = 1)) → PSys n (paAll s l) ∧ ∀ x, x < 2 ^ n → (PSol (paAll s l) x ↔ (PSol s x ∧ ∀ e ∈ l, oddm e.1 x = decide (e.2 = 1)))
  | [], s, hP, _, _, _ => ⟨hP, fun x _ => ⟨fun h => ⟨h, fun e he => by simp at he⟩, fun h => h.1⟩⟩
  | e :: l, s, hP, hl, hs, hy2 => by
    have he := hl e (by simp)
    have ht := put_true hn hP he hy hs (hy2 e (by simp))
    have h1 := (put_sol hn hP he).2.1 ht
    have hs3 := (h1 y hy).2 ⟨hs, hy2 e (by simp)⟩
    obtain ⟨h2, h3⟩ := all_sol hn hy l _ (psys_put hn hP he) (fun q hq => hl q (List.mem_cons_of_mem _ hq)) hs3 (fun q hq => hy2 q (List.mem_cons_of_mem _ hq))
    refine ⟨h2, fun x hx => ?_⟩
    show PSol (paAll (paPut s e).1 l) x ↔ _
    rw [h3 x hx, h1 x hx]
    constructor
    · rintro ⟨⟨a, b⟩, c⟩
      exact ⟨a, fun q hq => by
        rcases List.mem_cons.1 hq with rfl | hq
        · exact b
        · exact c q hq⟩
    · rintro ⟨a, b⟩
      exact ⟨⟨a, b e (by simp)⟩, fun q hq => b q (List.mem_cons_of_mem _ hq)⟩
/-- A button pinned: left out if it can be. -/
def pin (s : List PEq) (i : Nat) : List PEq := if (paPut s (2 ^ i, 0)).2 = true then (paPut s (2 ^ i, 0)).1 else (paPut s (2 ^ i, 1)).1
/-- The buttons below k pinned, from the greatest one down. -/
def pins (s : List PEq) : Nat → List PEq
  | 0 => s
  | k + 1 => pins (pin s k) k
theorem pin_step {n : Nat} (hn : n ≤ 63) {s : List PEq} (hP : PSys n s) {y i : Nat} (hi : i < n) (hy : y < 2 ^ n) (hs : PSol s y) (hmin : ∀ z, z < 2 ^ n → PSol s z → y.testBit i = true → z.testBit i = true) :
    PSys n (pin s i) ∧ (∀ x, x < 2 ^ n → (PSol (pin s i) x ↔ (PSol s x ∧ x.testBit i = y.testBit i))) := by
  have hp : (2 : Nat) ^ i < 2 ^ n := Nat.pow_lt_pow_right (by decide) hi
  have h0 := put_sol hn hP (e := (2 ^ i, 0)) ⟨hp, by simp⟩
  have h1 := put_sol hn hP (e := (2 ^ i, 1)) ⟨hp, by simp⟩
  simp only [oddm_pow] at h0 h1
  unfold pin
  by_cases e : (paPut s (2 ^ i, 0)).2 = true
  · rw [if_pos e]
    refine ⟨psys_put hn hP ⟨hp, by simp⟩, fun x hx => ?_⟩
    rw [h0.2.1 e x hx]
    obtain ⟨z, hz, hz2, hz3⟩ := h0.1.1 e
    have hy0 : y.testBit i = false := by
      cases hyi : y.testBit i
      · rfl
      · have := hmin z hz hz2 hyi
        rw [hz3] at this
        cases this
    rw [hy0]
    exact Iff.rfl
  · rw [if_neg e]
    have hy1 : y.testBit i = true := by
      cases hyi : y.testBit i
      · exact absurd (h0.1.2 ⟨y, hy, hs, by rw [hyi]; rfl⟩) e
      · rfl
    have ht : (paPut s (2 ^ i, 1)).2 = true := h1.1.2 ⟨y, hy, hs, by rw [hy1]; rfl⟩
    refine ⟨psys_put hn hP ⟨hp, by simp⟩, fun x hx => ?_⟩
    rw [h1.2.1 ht x hx, hy1]
    exact Iff.rfl
theorem pins_sol {n : Nat} (hn : n ≤ 63) {s0 : List PEq} {y : Nat} (hy : y < 2 ^ n) (hmin : ∀ z, z < 2 ^ n → PSol s0 z → y ≤ z) : ∀ (k : Nat) (s : List PEq), k ≤ n → PSys n s → (∀ x, x < 2 ^ n → (PSol s x ↔ (PSol s0 x ∧ ∀ j, k ≤ j → x.testBit j = y.testBit j))) → PSol s0 y → PSys n (pins s k) ∧ ∀ x, x < 2 ^ n → (PSol (pins s k) x ↔ x = y)
  | 0, s, _, hP, h, hy0 => ⟨hP, fun x hx => by
    show PSol s x ↔ _
    rw [h x hx]
    constructor
    · rintro ⟨_, h2⟩
      exact Nat.eq_of_testBit_eq fun i => h2 i (Nat.zero_le i)
    · rintro rfl
      exact ⟨hy0, fun _ _ => rfl⟩⟩
  | k + 1, s, hk, hP, h, hy0 => by
    obtain ⟨h1, h2⟩ := pin_step hn hP (i := k) (by omega) hy ((h y hy).2 ⟨hy0, fun _ _ => rfl⟩) (fun z hz hsz hyk => by
      obtain ⟨h3, h4⟩ := (h z hz).1 hsz
      cases hzk : z.testBit k
      · have := lt_of_bits k z y hzk hyk fun j hj => h4 j (by omega)
        have := hmin z hz h3
        omega
      · rfl)
    refine pins_sol hn hy hmin k (pin s k) (by omega) h1 (fun x hx => ?_) hy0
    rw [h2 x hx, h x hx]
    constructor
    · rintro ⟨⟨a, b⟩, c⟩
      refine ⟨a, fun j hj => ?_⟩
      by_cases e : j = k
      · rw [e]; exact c
      · exact b j (by omega)
    · rintro ⟨a, b⟩
      exact ⟨⟨a, fun j hj => b j (by omega)⟩, b k (Nat.le_refl k)⟩
/-- What one solution is left: its bits are told. -/
theorem pins_bit {n : Nat} (hn : n ≤ 63) {s : List PEq} (hP : PSys n s) {y : Nat} (hy : y < 2 ^ n) (h : ∀ x, x < 2 ^ n → (PSol s x ↔ x = y)) {i : Nat} (hi : i < n) : (paPut s (2 ^ i, 0)).2 = !y.testBit i := by
  have hp : (2 : Nat) ^ i < 2 ^ n := Nat.pow_lt_pow_right (by decide) hi
  have h0 := (put_sol hn hP (e := (2 ^ i, 0)) ⟨hp, by simp⟩).1
  simp only [oddm_pow] at h0
  cases hyi : y.testBit i
  · exact h0.2 ⟨y, hy, (h y hy).2 rfl, by rw [hyi]; rfl⟩
  · cases e : (paPut s (2 ^ i, 0)).2
    · rfl
    · obtain ⟨z, hz, hz2, hz3⟩ := h0.1 e
      rw [(h z hz).1 hz2, hyi] at hz3
      cases hz3
/-- As many rows as the basis of the same sets has. -/
theorem xs_first : ∀ (s : List PEq), (∀ r ∈ s, r.1 ≠ 0) → s.Pairwise (fun a b => b.1.testBit (blen a.1 - 1) = false) → ∀ z, Sp (s.map Prod.fst) z → (∀ r ∈ s, z.testBit (blen r.1 - 1) = false) → z = 0
  | [], _, _, z, hz, _ => by
    obtain ⟨c, hc, rfl⟩ := hz
    have : c = [] := List.eq_nil_iff_forall_not_mem.2 fun b hb => by have := hc b hb; simp at this
    rw [this]
    rfl
  | r :: s, h0, hp, z, hz, ht => by
    obtain ⟨h1, h2⟩ := List.pairwise_cons.1 hp
    have hsp : Sp (s.map Prod.fst) z ∨ Sp (s.map Prod.fst) (z ^^^ r.1) := by
      obtain ⟨c, hc, rfl⟩ := hz
      clear ht
      induction c with
      | nil => exact .inl (Sp.zero _)
      | cons b c ih =>
        have hb := hc b (by simp)
        have hcc := ih fun x hx => hc x (List.mem_cons_of_mem _ hx)
        rw [xs_cons]
        have hb2 : b = r.1 ∨ b ∈ s.map Prod.fst := by simpa using hb
        rcases hb2 with rfl | hb2
        · rcases hcc with h | h
          · right
            rw [Nat.xor_comm r.1, Nat.xor_assoc, Nat.xor_self, Nat.xor_zero]
            exact h
          · left
            rw [Nat.xor_comm]
            exact h
        · rcases hcc with h | h
          · exact .inl ((Sp.one hb2).add h)
          · right
            rw [Nat.xor_assoc]
            exact (Sp.one hb2).add h
    have hlow : ∀ x, Sp (s.map Prod.fst) x → x.testBit (blen r.1 - 1) = false := fun x hx => by
      obtain ⟨c, hc, rfl⟩ := hx
      induction c with
      | nil => simp [xs]
      | cons b c ih =>
        rw [xs_cons, Nat.testBit_xor, ih fun x hx => hc x (List.mem_cons_of_mem _ hx)]
        obtain ⟨e, he, rfl⟩ := List.mem_map.1 (hc b (by simp))
        rw [h1 e he]
        rfl
    rcases hsp with h | h
    · exact xs_first s (fun e he => h0 e (List.mem_cons_of_mem _ he)) h2 z h fun e he => ht e (List.mem_cons_of_mem _ he)
    · have h3 := hlow _ h
      rw [Nat.testBit_xor, ht r (by simp), bit_top (h0 r (by simp))] at h3
      cases h3
theorem paRed_sp : ∀ (s : List PEq) (e : PEq), Sp (s.map Prod.fst) (e.1 ^^^ (paRed s e).1)
  | [], e => by
    show Sp [] (e.1 ^^^ e.1)
    rw [Nat.xor_self]
    exact Sp.zero _
  | r :: s, e => by
    have ih : Sp ((r :: s).map Prod.fst) ((paOne e r).1 ^^^ (paRed s (paOne e r)).1) := Sp.sub (fun b hb => Sp.one (by simp at hb ⊢; exact .inr hb)) (paRed_sp s (paOne e r))
    show Sp ((r :: s).map Prod.fst) (e.1 ^^^ (paRed s (paOne e r)).1)
    have h1 : Sp ((r :: s).map Prod.fst) (e.1 ^^^ (paOne e r).1) := by
      unfold paOne
      split
      · show Sp _ (e.1 ^^^ (e.1 ^^^ r.1))
        rw [← Nat.xor_assoc, Nat.xor_self, Nat.zero_xor]
        exact Sp.one (by simp)
      · rw [Nat.xor_self]
        exact Sp.zero _
    have h2 := h1.add ih
    rwa [show e.1 ^^^ (paOne e r).1 ^^^ ((paOne e r).1 ^^^ (paRed s (paOne e r)).1) = e.1 ^^^ (paRed s (paOne e r)).1 by rw [Nat.xor_assoc, ← Nat.xor_assoc (paOne e r).1, Nat.xor_self, Nat.zero_xor]] at h2
theorem all_len {n : Nat} (hn : n ≤ 63) : ∀ (l : List PEq) (s : List PEq) (b : List Nat), PSys n s → PEqs n l → Basis b → (∀ x, Sp (s.map Prod.fst) x ↔ Sp b x) → s.length = b.length → (paAll s l).length = (puts b (l.map Prod.fst)).length
  | [], s, b, _, _, _, _, h => h
  | e :: l, s, b, hP, hl, hb, hsp, hlen => by
    have he := hl e (by simp)
    have hr := paRed_sp s e
    have hP2 := psys_put hn hP he
    show (paAll (paPut s e).1 l).length = (puts (put b e.1) (l.map Prod.fst)).length
    refine all_len hn l _ _ hP2 (fun q hq => hl q (List.mem_cons_of_mem _ hq)) (put_basis hb e.1) ?_ ?_
    · intro x
      rw [put_sp hb]
      unfold paPut
      by_cases e0 : (paRed s e).1 = 0
      · rw [if_pos e0]
        rw [e0, Nat.xor_zero] at hr
        show Sp (s.map Prod.fst) x ↔ _
        rw [hsp x]
        refine ⟨.inl, fun h => h.elim id fun h => ?_⟩
        have h2 := h.add ((hsp e.1).1 hr)
        rwa [Nat.xor_assoc, Nat.xor_self, Nat.xor_zero] at h2
      · rw [if_neg e0]
        show Sp ((s ++ [paRed s e]).map Prod.fst) x ↔ _
        rw [List.map_append]
        have hm : ∀ x, Sp (s.map Prod.fst ++ [(paRed s e).1]) x ↔ (Sp (s.map Prod.fst) x ∨ Sp (s.map Prod.fst) (x ^^^ (paRed s e).1)) := fun x => by
          constructor
          · rintro ⟨c, hc, rfl⟩
            induction c with
            | nil => exact .inl (Sp.zero _)
            | cons a c ih =>
              have ha := hc a (by simp)
              have hcc := ih fun y hy => hc y (List.mem_cons_of_mem _ hy)
              rw [xs_cons]
              rcases List.mem_append.1 ha with ha | ha
              · rcases hcc with h | h
                · exact .inl ((Sp.one ha).add h)
                · right
                  rw [Nat.xor_assoc]
                  exact (Sp.one ha).add h
              · rw [List.mem_singleton.1 ha]
                rcases hcc with h | h
                · right
                  rw [Nat.xor_comm (paRed s e).1, Nat.xor_assoc, Nat.xor_self, Nat.xor_zero]
                  exact h
                · left
                  rw [Nat.xor_comm]
                  exact h
          · rintro (h | h)
            · exact Sp.sub (fun b hb => Sp.one (List.mem_append_left _ hb)) h
            · have h2 := (Sp.sub (fun b hb => Sp.one (List.mem_append_left _ hb)) h : Sp (s.map Prod.fst ++ [(paRed s e).1]) _).add (Sp.one (b := (paRed s e).1) (by simp))
              rwa [Nat.xor_assoc, Nat.xor_self, Nat.xor_zero] at h2
        show Sp (s.map Prod.fst ++ [(paRed s e).1]) x ↔ _
        rw [hm, ← hsp x]
        have hx : Sp (s.map Prod.fst) (x ^^^ (paRed s e).1) ↔ Sp b (x ^^^ e.1) := by
          rw [← hsp]
          constructor
          · intro h
            have h2 := h.add hr
            rwa [show x ^^^ (paRed s e).1 ^^^ (e.1 ^^^ (paRed s e).1) = x ^^^ e.1 by rw [Nat.xor_assoc, Nat.xor_comm e.1, ← Nat.xor_assoc (paRed s e).1, Nat.xor_self, Nat.zero_xor]] at h2
          · intro h
            have h2 := h.add hr
            rwa [show x ^^^ e.1 ^^^ (e.1 ^^^ (paRed s e).1) = x ^^^ (paRed s e).1 by rw [Nat.xor_assoc, ← Nat.xor_assoc e.1, Nat.xor_self, Nat.zero_xor]] at h2
        rw [hx]
    · unfold paPut
      by_cases e0 : (paRed s e).1 = 0
      · rw [if_pos e0]
        rw [e0, Nat.xor_zero] at hr
        rw [put_same hb ((hsp e.1).1 hr)]
        exact hlen
      · rw [if_neg e0]
        rw [put_more hb]
        · rw [List.length_append, hlen]
          rfl
        · intro h
          apply e0
          have h2 : Sp (s.map Prod.fst) (paRed s e).1 := by
            have h3 := ((hsp e.1).2 h).add hr
            rwa [← Nat.xor_assoc, Nat.xor_self, Nat.zero_xor] at h3
          exact xs_first s (fun r hr => (hP.ok r hr).1) hP.low _ h2 (paRed_tops s e (fun r hr => (hP.ok r hr).1) hP.low)
end Go.Proofs.YtlohlngmagpepaaGreatM
