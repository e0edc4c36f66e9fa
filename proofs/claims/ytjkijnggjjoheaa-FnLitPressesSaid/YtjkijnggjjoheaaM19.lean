/- Plain laws on ways of lit presses: they lead where they are told, there and back in as many presses. No program in sight. -/
import Derived.Test.YtjkijnggjjoheaaM14
import Derived.Test.YtjkijnggjjoheaaM12
namespace Go.Proofs.YtjkijnggjjoheaaM
open Go.RowKit Go.Proofs.YtjkijnggjjoheaaW.PrintWords Go.Proofs.YtjkijnggjjoheaaW.PrintLast Go.Proofs.YtjkijnggjjoheaaW.PrintMore
set_option linter.unusedVariables false
set_option linter.unusedSimpArgs false
variable {mv : Nat → Nat → Nat} {N n g : Nat} {m : List (Nat × Nat)}
theorem far_some_mem {x : Nat} (h : x ∈ m.map Prod.fst) : ∃ v, far m x = some v := by
  cases e : far m x with
  | some v => exact ⟨v, rfl⟩
  | none => exact absurd h (far_none e)
/-- A queue: far of the k-th on at most one more. -/
structure Queue (m : List (Nat × Nat)) (k : Nat) : Prop where
  up : (m.map Prod.snd).Pairwise (fun a b => a ≤ b)
  near : ∀ h : k < m.length, ∀ p ∈ m, p.2 ≤ m[k].2 + 1
/-- The first k have been looked at. -/
def Looked (mv : Nat → Nat → Nat) (n : Nat) (m : List (Nat × Nat)) (k : Nat) : Prop := ∀ j, (h : j < m.length) → j < k → ∀ i, i < n → ∃ u, far m (mv m[j].1 i) = some u ∧ u ≤ m[j].2 + 1
theorem far_val {x v : Nat} (h : far m x = some v) : (x, v) ∈ m := by
  unfold far at h
  obtain ⟨p, hp, hv⟩ := Option.map_eq_some_iff.1 h
  have h1 := List.find?_some hp
  have h2 := List.mem_of_find?_eq_some hp
  simp only [beq_iff_eq] at h1
  rw [← h1, ← hv]
  exact h2
theorem meetF_queue {t e : Nat} (hu : (m.map Prod.snd).Pairwise (fun a b => a ≤ b)) (hle : ∀ p ∈ m, p.2 ≤ e) : ((meetF m t e).map Prod.snd).Pairwise (fun a b => a ≤ b) ∧ (∀ p ∈ meetF m t e, p.2 ≤ e) ∧ ∃ u, far (meetF m t e) t = some u ∧ u ≤ e := by
  unfold meetF
  cases q : far m t with
  | some u =>
    simp only [Option.isSome_some, if_true]
    exact ⟨hu, hle, u, q, hle _ (far_val q)⟩
  | none =>
    rw [if_neg (by simp)]
    refine ⟨?_, fun p hp => ?_, e, ?_, Nat.le_refl _⟩
    · rw [List.map_append, List.pairwise_append]
      refine ⟨hu, by simp, fun a ha b hb => ?_⟩
      obtain ⟨p, hp, rfl⟩ := List.mem_map.1 ha
      simp only [List.map_cons, List.map_nil, List.mem_singleton] at hb
      subst hb
      exact hle p hp
    · rcases List.mem_append.1 hp with hp | hp
      · exact hle p hp
      · rw [List.mem_singleton] at hp; subst hp; exact Nat.le_refl _
    · rw [far_snoc q, if_pos rfl]
theorem farIn_keep {s e : Nat} {x v : Nat} : ∀ (d i : Nat) (m : List (Nat × Nat)), far m x = some v → far (farIn mv s e d i m) x = some v
  | 0, _, _, h => h
  | d + 1, i, m, h => farIn_keep d (i + 1) _ (meetF_keep h)
theorem farIn_queue {s e : Nat} : ∀ (d i : Nat) (m : List (Nat × Nat)), (m.map Prod.snd).Pairwise (fun a b => a ≤ b) → (∀ p ∈ m, p.2 ≤ e) → ((farIn mv s e d i m).map Prod.snd).Pairwise (fun a b => a ≤ b) ∧ (∀ p ∈ farIn mv s e d i m, p.2 ≤ e) ∧ ∀ j, i ≤ j → j < i + d → ∃ u, far (farIn mv s e d i m) (mv s j) = some u ∧ u ≤ e
  | 0, i, m, hu, hle => ⟨hu, hle, fun j h1 h2 => by omega⟩
  | d + 1, i, m, hu, hle => by
    obtain ⟨h1, h2, u, h3, h4⟩ := meetF_queue (t := mv s i) hu hle
    obtain ⟨k1, k2, k3⟩ := farIn_queue d (i + 1) (meetF m (mv s i) e) h1 h2
    refine ⟨k1, k2, fun j hj hj2 => ?_⟩
    by_cases e : j = i
    · subst e; exact ⟨u, farIn_keep d (j + 1) _ h3, h4⟩
    · exact k3 j (by omega) (by omega)
theorem farGo_looked : ∀ (f k : Nat) (m : List (Nat × Nat)), Queue m k → Looked mv n m k → ∃ K, Looked mv n (farGo mv n f k m) K ∧ ((farGo mv n f k m).length ≤ K ∨ K = k + f)
  | 0, k, m, hq, hl => ⟨k, hl, .inr rfl⟩
  | f + 1, k, m, hq, hl => by
    unfold farGo
    split
    · next hk =>
      obtain ⟨h1, h2, h3⟩ := farIn_queue (mv := mv) (s := m[k].1) (e := m[k].2 + 1) n 0 m hq.up (hq.near hk)
      obtain ⟨r, hr⟩ := farIn_list (mv := mv) (s := m[k].1) (e := m[k].2 + 1) n 0 m
      have hget : ∀ j (hj : j < m.length) (hj2 : j < (farIn mv m[k].1 (m[k].2 + 1) n 0 m).length), (farIn mv m[k].1 (m[k].2 + 1) n 0 m)[j] = m[j] := fun j hj hj2 => by simp only [hr]; exact List.getElem_append_left hj
      have hlen : k < (farIn mv m[k].1 (m[k].2 + 1) n 0 m).length := by rw [hr, List.length_append]; omega
      have q1 : Queue (farIn mv m[k].1 (m[k].2 + 1) n 0 m) (k + 1) := by
        refine ⟨h1, fun hk2 p hp => ?_⟩
        have h4 := h2 p hp
        have h5 := List.pairwise_iff_getElem.1 h1 k (k + 1) (by simpa using hlen) (by simpa using hk2) (by omega)
        simp only [List.getElem_map] at h5
        rw [hget k hk hlen] at h5
        omega
      have q2 : Looked mv n (farIn mv m[k].1 (m[k].2 + 1) n 0 m) (k + 1) := by
        intro j hj hjk i hi
        by_cases e : j = k
        · subst e
          rw [hget j hk hj]
          exact h3 i (by omega) (by omega)
        · have hjm : j < m.length := by omega
          rw [hget j hjm hj]
          obtain ⟨u, hu, hu2⟩ := hl j hjm (by omega) i hi
          exact ⟨u, farIn_keep n 0 m hu, hu2⟩
      obtain ⟨K, hK, hK2⟩ := farGo_looked f (k + 1) _ q1 q2
      exact ⟨K, hK, hK2.imp id (fun h => (by omega))⟩
    · next hk => exact ⟨k, hl, .inl (by omega)⟩
/-- What is met is closed: a move leads at most one farther. -/
theorem farGo_closed (hm : Moves mv N n) (hg : g < N) {x v : Nat} (h : far (farGo mv n N 0 [(g, 0)]) x = some v) {i : Nat} (hi : i < n) : ∃ u, far (farGo mv n N 0 [(g, 0)]) (mv x i) = some u ∧ u ≤ v + 1 := by
  have hok := farGo_ok hm N 0 [(g, 0)] (FarOk.start hg)
  obtain ⟨K, hK, hK2⟩ := farGo_looked (mv := mv) (n := n) N 0 [(g, 0)] ⟨by simp, fun _ p hp => by simp at hp; subst hp; omega⟩ (fun j _ hj => by omega)
  have hlen := hok.length
  obtain ⟨j, hj, hjx⟩ := List.getElem_of_mem (far_val h)
  have := hK j hj (by omega) i hi
  rw [hjx] at this
  exact this
/-- A way by moves, k of them. -/
inductive Way (mv : Nat → Nat → Nat) (n : Nat) : Nat → Nat → Nat → Prop
  | stop (x : Nat) : Way mv n 0 x x
  | step {k x y i : Nat} (hi : i < n) (h : Way mv n k (mv x i) y) : Way mv n (k + 1) x y
theorem Way.snoc {k x y i : Nat} (h : Way mv n k x y) (hi : i < n) : Way mv n (k + 1) x (mv y i) := by
  induction h with
  | stop x => exact .step hi (.stop _)
  | step hj _ ih => exact .step hj ih
theorem Way.low (hm : Moves mv N n) {k x y : Nat} (h : Way mv n k x y) : x < N → y < N := by
  induction h with
  | stop x => exact id
  | step hi _ ih => exact fun hx => ih (hm.low _ _ hx hi)
theorem Way.back (hm : Moves mv N n) {k x y : Nat} (h : Way mv n k x y) : x < N → Way mv n k y x := by
  induction h with
  | stop x => exact fun _ => .stop x
  | @step k x y i hi h ih =>
    intro hx
    have h2 := (ih (hm.low _ _ hx hi)).snoc hi
    rwa [hm.back x i hx hi] at h2
theorem far_way (hok : FarOk mv N n g m) : ∀ (v x : Nat), far m x = some v → Way mv n v x g
  | 0, x, h => by
    rcases hok.dist x 0 h with ⟨_, e⟩ | ⟨u, e, _⟩
    · subst e; exact .stop _
    · omega
  | v + 1, x, h => by
    rcases hok.dist x _ h with ⟨e, _⟩ | ⟨u, e, i, hi, h2⟩
    · omega
    · obtain rfl : u = v := by omega
      exact .step hi (far_way hok u _ h2)
theorem way_far (hm : Moves mv N n) (hg : g < N) {k x y : Nat} (h : Way mv n k x y) : ∀ v, far (farGo mv n N 0 [(g, 0)]) x = some v → ∃ u, far (farGo mv n N 0 [(g, 0)]) y = some u ∧ u ≤ v + k := by
  induction h with
  | stop x => exact fun v hv => ⟨v, hv, by omega⟩
  | step hi _ ih =>
    intro v hv
    obtain ⟨u, hu, hu2⟩ := farGo_closed hm hg hv hi
    obtain ⟨w, hw, hw2⟩ := ih u hu
    exact ⟨w, hw, by omega⟩
/-- As far there as back. -/
theorem far_sym (hm : Moves mv N n) {a b : Nat} (ha : a < N) (hb : b < N) {v : Nat} (h : far (farGo mv n N 0 [(b, 0)]) a = some v) : far (farGo mv n N 0 [(a, 0)]) b = some v := by
  have hok := farGo_ok hm N 0 [(b, 0)] (FarOk.start hb)
  have hok2 := farGo_ok hm N 0 [(a, 0)] (FarOk.start ha)
  obtain ⟨u, hu, hu2⟩ := way_far hm ha (far_way hok v a h) 0 hok2.goal
  obtain ⟨w, hw, hw2⟩ := way_far hm hb (far_way hok2 u b hu) 0 hok.goal
  have : w = v := by rw [h] at hw; injection hw with hw; exact hw.symm
  rw [hu]
  congr 1
  omega
/-- Presses of lit buttons, one after the other. -/
theorem wayBack_len (hok : FarOk mv N n g m) : ∀ (v s : Nat) (out : List Nat), far m s = some v → (wayBack mv m n v s out).length = out.length + v
  | 0, s, out, h => rfl
  | v + 1, s, out, h => by
    obtain ⟨j, h1, h2, h3⟩ := hok.stepTo h
    unfold wayBack
    rw [h1]
    rw [wayBack_len hok v _ _ h3, List.length_append, List.length_singleton]
    omega
theorem wayBack_out (v : Nat) : ∀ (s : Nat) (out : List Nat), wayBack mv m n v s out = out ++ wayBack mv m n v s [] := by
  induction v with
  | zero => intro s out; simp [wayBack]
  | succ v ih =>
    intro s out
    unfold wayBack
    cases stepTo mv m v s n 0 with
    | none => simp
    | some j => simp only; rw [ih _ (out ++ [j]), ih _ ([] ++ [j])]; simp
theorem litGo_way (l : List Int) (hG : GoodG l) (hok : FarOk (moveOf l false) (2 ^ l.length) l.length g m) : ∀ (v s : Nat), s < 2 ^ l.length → far m s = some v → litGo l (s : Int) (ints (wayBack (moveOf l false) m l.length v s [])) = ((g : Int), true) ∧ ∀ i ∈ wayBack (moveOf l false) m l.length v s [], i < l.length
  | 0, s, hs, h => by
    rcases hok.dist s 0 h with ⟨_, e⟩ | ⟨u, e, _⟩
    · subst e; exact ⟨rfl, fun i hi => by simp [wayBack] at hi⟩
    · omega
  | v + 1, s, hs, h => by
    obtain ⟨j, h1, h2, h3⟩ := hok.stepTo h
    have hm := moves_lit l hG
    have hb : s.testBit j = true := by
      cases e : s.testBit j with
      | true => rfl
      | false =>
        rw [hm.stay s j e, h] at h3
        injection h3 with h3
        omega
    obtain ⟨i1, i2⟩ := litGo_way l hG hok v (moveOf l false s j) (hm.low s j hs h2) h3
    unfold wayBack
    rw [h1]
    simp only
    rw [wayBack_out]
    simp only [List.nil_append, List.cons_append]
    refine ⟨?_, fun i hi => ?_⟩
    · show litGo l (s : Int) ((j : Int) :: ints _) = _
      rw [litGo, if_pos (by unfold bit; simpa using hb)]
      have e : (((s : Int).toNat ^^^ (rd l (j : Int)).toNat : Nat) : Int) = ((moveOf l false s j : Nat) : Int) := by
        unfold moveOf
        rw [if_neg (by decide), if_pos hb, Int.toNat_natCast]
      rw [e]
      exact i1
    · rcases List.mem_cons.1 hi with rfl | hi
      · exact h2
      · exact i2 i hi
def wayV (l : List Int) (a g : Nat) : Option Nat := far (farGo (moveOf l false) l.length (2 ^ l.length) 0 [(g, 0)]) a
theorem wayOf_some {l : List Int} (hG : GoodG l) {a g : Nat} (ha : a < 2 ^ l.length) (hg : g < 2 ^ l.length) {w : List Int} (h : wayOf l a g = (w, true)) :
    ∃ v, wayV l a g = some v ∧ w.length = v ∧ v < 2 ^ l.length ∧ litGo l (a : Int) w = ((g : Int), true) ∧ ∀ i ∈ w, 0 ≤ i ∧ i < l.length := by
  have hok := farGo_ok (moves_lit l hG) (2 ^ l.length) 0 [(g, 0)] (FarOk.start hg)
  unfold wayOf at h
  unfold wayV
  cases q : far (farGo (moveOf l false) l.length (2 ^ l.length) 0 [(g, 0)]) a with
  | none => rw [q] at h; simp at h
  | some v =>
    rw [q] at h
    simp only [Prod.mk.injEq, and_true] at h
    subst h
    obtain ⟨h1, h2⟩ := litGo_way l hG hok v a ha q
    refine ⟨v, rfl, ?_, ?_, h1, fun i hi => ?_⟩
    · rw [ints_length, wayBack_len hok v a [] q]; simp
    · exact Nat.lt_of_lt_of_le (hok.small a v q) hok.length
    · obtain ⟨j, hj, rfl⟩ := List.mem_map.1 hi
      have := h2 j hj
      omega
theorem wayOf_back {l : List Int} (hG : GoodG l) {a g : Nat} (ha : a < 2 ^ l.length) (hg : g < 2 ^ l.length) {w : List Int} (h : wayOf l a g = (w, true)) : ∃ w2, wayOf l g a = (w2, true) ∧ w2.length = w.length := by
  obtain ⟨v, hv, hl, _⟩ := wayOf_some hG ha hg h
  have h2 : wayV l g a = some v := far_sym (moves_lit l hG) ha hg hv
  have h3 : wayOf l g a = (ints (wayBack (moveOf l false) (farGo (moveOf l false) l.length (2 ^ l.length) 0 [(a, 0)]) l.length v g []), true) := by
    unfold wayV at h2
    unfold wayOf
    rw [h2]
  refine ⟨_, h3, ?_⟩
  obtain ⟨v2, hv2, hl2, _⟩ := wayOf_some hG hg ha h3
  rw [hv2] at h2
  injection h2 with h2
  omega
theorem way_orbit {l : List Int} (hG : GoodG l) {k x y : Nat} (h : Way (moveOf l false) l.length k x y) : x < 2 ^ l.length → ∀ s, s < 2 ^ l.length → x ∈ orbL (moveOf l false) l.length s → y ∈ orbL (moveOf l false) l.length s := by
  have hm := moves_lit l hG
  induction h with
  | stop x => exact fun _ _ _ h => h
  | step hi _ ih => exact fun hx s hs h => ih (hm.low _ _ hx hi) s hs (orbL_closed (fun s i hs hi => hm.low s i hs hi) hs _ h _ hi)
theorem wayOf_orbit {l : List Int} (hG : GoodG l) {a g : Nat} (ha : a < 2 ^ l.length) (hg : g < 2 ^ l.length) {w : List Int} (h : wayOf l a g = (w, true)) : g ∈ orbitOf l false a := by
  obtain ⟨v, hv, _⟩ := wayOf_some hG ha hg h
  have hok := farGo_ok (moves_lit l hG) (2 ^ l.length) 0 [(g, 0)] (FarOk.start hg)
  exact (mem_orbitOf l hG a g ha).2 (way_orbit hG (far_way hok v a hv) ha a ha (orbL_self _ _ _))
theorem litWord_ok {l : List Int} {s x : Int} {w : List Int} (h : litWord l s w = (x, true)) : GoodG l ∧ l.length ≤ 9 ∧ inSet l.length s = true ∧ w.length ≤ 200 ∧ (∀ i ∈ w, 0 ≤ i ∧ i < l.length) ∧ litGo l s w = (x, true) := by
  unfold litWord at h
  split at h
  · next e =>
    split at h
    · next e2 =>
      simp only [Bool.and_eq_true, decide_eq_true_eq] at e e2
      exact ⟨(good_iff l).1 e.1.1, e.1.2, e.2, e2.1, btn_all e2.2, h⟩
    · injection h with h1 h2; cases h2
  · injection h with h1 h2; cases h2
theorem litWord_of {l : List Int} (hG : GoodG l) (hn : l.length ≤ 9) {s : Int} (hs : inSet l.length s = true) {w : List Int} (hw : w.length ≤ 200) (hb : ∀ i ∈ w, 0 ≤ i ∧ i < l.length) : litWord l s w = litGo l s w := by
  unfold litWord
  rw [if_pos (by simp only [Bool.and_eq_true, decide_eq_true_eq]; exact ⟨⟨(good_iff l).2 hG, hn⟩, hs⟩), if_pos (by simp only [Bool.and_eq_true, decide_eq_true_eq]; exact ⟨hw, List.all_eq_true.2 fun i hi => by have := hb i hi; simp only [isBtn, Bool.and_eq_true, decide_eq_true_eq]; omega⟩)]
theorem lit_sum {l : List Int} (hG : GoodG l) {s i : Int} (hs : inSet l.length s = true) (h0 : 0 ≤ i) (h1 : i < l.length) : inSet l.length ((s.toNat ^^^ (rd l i).toNat : Nat) : Int) = true := by
  simp only [inSet, Bool.and_eq_true, decide_eq_true_eq] at hs ⊢
  have hx := hG.sets (rd l i) (rd_mem l i h0 h1)
  exact ⟨by omega, xor_lt hs.2 hx.2 hs.1 hx.1⟩
/-- A lit press is undone by the same button. -/
theorem lit_back {l : List Int} {s x i : Int} (h : litWord l s [i] = (x, true)) : litWord l x [i] = (s, true) := by
  obtain ⟨hG, hn, hs, _, hb, h⟩ := litWord_ok h
  have hi := hb i (by simp)
  rw [litGo] at h
  split at h
  · next e =>
    simp only [litGo, Prod.mk.injEq, and_true] at h
    have hx := lit_sum hG hs hi.1 hi.2
    rw [h] at hx
    rw [litWord_of hG hn hx (by simp) hb, litGo]
    obtain ⟨j, rfl⟩ : ∃ j : Nat, i = j := ⟨i.toNat, by omega⟩
    have hd : ((rd l (j : Int)).toNat).testBit j = false := by
      have h0 := hG.irr j (by omega)
      rw [← rd_getD] at h0
      simpa only [bit, Int.toNat_natCast] using h0
    have hb2 : bit x (j : Int) = true := by
      rw [← h]
      unfold bit at e ⊢
      simp only [Int.toNat_natCast, Nat.testBit_xor] at e ⊢
      rw [e, hd]
      rfl
    rw [if_pos hb2, litGo, ← h]
    simp only [Int.toNat_natCast, Nat.xor_assoc, Nat.xor_self, Nat.xor_zero, Prod.mk.injEq, and_true]
    simp only [inSet, Bool.and_eq_true, decide_eq_true_eq] at hs
    omega
  · injection h with h1 h2; cases h2
theorem litGo_append (l : List Int) : ∀ (u w : List Int) (s x : Int), litGo l s u = (x, true) → litGo l s (u ++ w) = litGo l x w
  | [], w, s, x, h => by simp only [litGo, Prod.mk.injEq, and_true] at h; rw [h]; rfl
  | i :: u, w, s, x, h => by
    rw [litGo] at h
    rw [List.cons_append, litGo]
    split at h
    · next e => rw [if_pos e]; exact litGo_append l u w _ x h
    · injection h with h1 h2; cases h2
theorem litGo_take (l : List Int) : ∀ (w : List Int) (s x : Int) (k : Nat), litGo l s w = (x, true) → ∃ y, litGo l s (w.take k) = (y, true)
  | w, s, x, 0, h => ⟨s, by simp [litGo]⟩
  | [], s, x, k + 1, h => ⟨s, by simp [litGo]⟩
  | i :: w, s, x, k + 1, h => by
    rw [litGo] at h
    rw [List.take_succ_cons, litGo]
    split at h
    · next e => rw [if_pos e]; exact litGo_take l w _ x k h
    · injection h with h1 h2; cases h2
def litAt (l : List Int) (s : Int) (w : List Int) (k : Nat) : Int := (litGo l s (w.take k)).1
theorem litGo_in {l : List Int} (hG : GoodG l) : ∀ (w : List Int) (s x : Int), inSet l.length s = true → (∀ i ∈ w, 0 ≤ i ∧ i < l.length) → litGo l s w = (x, true) → inSet l.length x = true
  | [], s, x, hs, hb, h => by simp only [litGo, Prod.mk.injEq, and_true] at h; rw [← h]; exact hs
  | i :: w, s, x, hs, hb, h => by
    rw [litGo] at h
    have hi := hb i List.mem_cons_self
    split at h
    · exact litGo_in hG w _ x (lit_sum hG hs hi.1 hi.2) (fun j hj => hb j (List.mem_cons_of_mem _ hj)) h
    · injection h with h1 h2; cases h2
/-- A word, press by press. -/
theorem litWord_step {l : List Int} {s x : Int} {w : List Int} (h : litWord l s w = (x, true)) (k : Nat) (hk : k < w.length) : litWord l (litAt l s w k) [rd w (k : Int)] = (litAt l s w (k + 1), true) := by
  obtain ⟨hG, hn, hs, hw, hb, h⟩ := litWord_ok h
  obtain ⟨y, hy⟩ := litGo_take l w s x k h
  obtain ⟨z, hz⟩ := litGo_take l w s x (k + 1) h
  have e1 : litAt l s w k = y := by unfold litAt; rw [hy]
  have e2 : litAt l s w (k + 1) = z := by unfold litAt; rw [hz]
  have hin := litGo_in hG (w.take k) s y hs (fun i hi => hb i (List.mem_of_mem_take hi)) hy
  have hm := hb w[k] (List.getElem_mem _)
  rw [e1, e2, rd_get w k hk, litWord_of hG hn hin (by simp) (fun i hi => by rw [List.mem_singleton] at hi; rw [hi]; exact hm)]
  rw [List.take_succ_eq_append_getElem hk, litGo_append l (w.take k) _ s y hy] at hz
  exact hz
theorem litWord_end {l : List Int} {s x : Int} {w : List Int} (h : litWord l s w = (x, true)) : litAt l s w w.length = x := by
  obtain ⟨_, _, _, _, _, h⟩ := litWord_ok h
  unfold litAt
  rw [List.take_length, h]
theorem moves_mem (l : List Int) (s : Int) : ∀ (d i : Nat), ∀ k ∈ moves l s i d, ∃ j : Nat, k = j ∧ i ≤ j ∧ j < i + d ∧ bit s k = true ∧ rd l k ≠ 0
  | 0, i, k, h => by simp [moves] at h
  | d + 1, i, k, h => by
    unfold moves at h
    split at h
    · next e =>
      rcases List.mem_cons.1 h with h | h
      · subst h; exact ⟨i, rfl, by omega, by omega, e.1, e.2⟩
      · obtain ⟨j, h1, h2, h3, h4⟩ := moves_mem l s d (i + 1) k h
        exact ⟨j, h1, by omega, by omega, h4⟩
    · obtain ⟨j, h1, h2, h3, h4⟩ := moves_mem l s d (i + 1) k h
      exact ⟨j, h1, by omega, by omega, h4⟩
/-- Each lit move changes the lights. -/
theorem moves_press {l : List Int} {s : Int} (hG : GoodG l) (hn : l.length ≤ 9) (hs : inSet l.length s = true) {k : Int} (hk : k ∈ moves l s 0 l.length) : ∃ x, litWord l s [k] = (x, true) ∧ x ≠ s := by
  obtain ⟨j, rfl, _, hj, hb, hr⟩ := moves_mem l s l.length 0 k hk
  refine ⟨((s.toNat ^^^ (rd l (j : Int)).toNat : Nat) : Int), ?_, fun e => ?_⟩
  · rw [litWord_of hG hn hs (by simp) (fun i hi => by rw [List.mem_singleton] at hi; rw [hi]; omega), litGo, if_pos hb, litGo]
  · simp only [inSet, Bool.and_eq_true, decide_eq_true_eq] at hs
    have hx := hG.sets (rd l (j : Int)) (rd_mem l _ (by omega) (by omega))
    have e2 : s.toNat ^^^ (rd l (j : Int)).toNat = s.toNat := by omega
    have e3 : (rd l (j : Int)).toNat = 0 := by
      have := congrArg (fun z => s.toNat ^^^ z) e2
      simpa [← Nat.xor_assoc] using this
    omega
end Go.Proofs.YtjkijnggjjoheaaM
