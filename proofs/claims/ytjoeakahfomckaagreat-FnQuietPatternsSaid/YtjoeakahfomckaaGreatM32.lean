/- Plain laws on lists that are a basis, as both sides look. No program in sight. -/
import Derived.Test.YtjoeakahfomckaaGreatM31
namespace Go.Proofs.YtjoeakahfomckaaGreatM
open Go.RowKit Go.Proofs.YtjoeakahfomckaaGreatW.PrintWords Go.Proofs.YtjoeakahfomckaaGreatW.PrintLast Go.Proofs.YtjoeakahfomckaaGreatW.PrintMore
set_option linter.unusedVariables false
set_option linter.unusedSimpArgs false
def allF (f : Nat → Bool) : Nat → Nat → Bool
  | _, 0 => true
  | i, d + 1 => f i && allF f (i + 1) d
theorem allF_iff (f : Nat → Bool) : ∀ (d i : Nat), allF f i d = true ↔ ∀ x, i ≤ x → x < i + d → f x = true
  | 0, i => ⟨fun _ x h1 h2 => by omega, fun _ => rfl⟩
  | d + 1, i => by
    rw [allF, Bool.and_eq_true, allF_iff f d (i + 1)]
    constructor
    · intro ⟨h1, h2⟩ x h3 h4
      by_cases e : x = i
      · rw [e]; exact h1
      · exact h2 x (by omega) (by omega)
    · exact fun h => ⟨h i (by omega) (by omega), fun x h3 h4 => h x (by omega) (by omega)⟩
def inR (x : Int) : Bool := decide (1 ≤ x) && decide (x ≤ 65535)
def el (l : List Int) (m : Nat) : Nat := (rd l (m : Int)).toNat
def adjB (l : List Int) (i : Nat) : Bool := decide (0 < i) && decide (blen (el l i) ≤ blen (el l (i - 1)))
def okI (l : List Int) (i : Nat) : Bool := inR (rd l (i : Int)) && (!adjB l i && allF (fun k => !(el l i).testBit (blen (el l k) - 1)) 0 i)
def isBas (l : List Int) : Bool := allF (okI l) 0 l.length
def okS (l : List Int) (i : Nat) : Bool := !adjB l i && allF (fun j => !(el l j).testBit (blen (el l i) - 1)) (i + 1) (l.length - (i + 1))
theorem up_len : ∀ (q : List Nat) (m N : Nat), q.Pairwise (fun a b => blen a < blen b) → (∀ b ∈ q, m < blen b ∧ blen b ≤ N) → q.length ≤ N - m
  | [], m, N, _, _ => by simp
  | b :: r, m, N, h, hb => by
    obtain ⟨h1, h2⟩ := List.pairwise_cons.1 h
    have h3 := hb b (by simp)
    have := up_len r (blen b) N h2 fun c hc => ⟨h1 c hc, (hb c (List.mem_cons_of_mem _ hc)).2⟩
    rw [List.length_cons]
    omega
theorem rd_ints {q : List Nat} {m : Nat} (h : m < q.length) : rd (ints q) (m : Int) = (q[m] : Int) := ints_get q m h
theorem el_ints {q : List Nat} {m : Nat} (h : m < q.length) : el (ints q) m = q[m] := by
  unfold el
  rw [rd_ints h, Int.toNat_natCast]
theorem basis_len {q : List Nat} (hq : Basis q) {n : Nat} (hb : ∀ b ∈ q, b < 2 ^ n) : q.length ≤ n := by
  have := up_len q 0 n hq.up fun b h => ⟨by have := blen_ne (hq.pos b h); omega, blen_le (hb b h)⟩
  omega
theorem isBas_ints {q : List Nat} (hq : Basis q) (hb : ∀ b ∈ q, b < 65536) : isBas (ints q) = true := by
  unfold isBas
  rw [allF_iff]
  intro i _ hi
  rw [ints_length] at hi
  have hi : i < q.length := by omega
  have h1 := hq.pos q[i] (List.getElem_mem hi)
  have h2 := hb q[i] (List.getElem_mem hi)
  have hup := List.pairwise_iff_getElem.1 hq.up
  have hcl := List.pairwise_iff_getElem.1 hq.clean
  unfold okI
  rw [Bool.and_eq_true, Bool.and_eq_true]
  refine ⟨?_, ?_, ?_⟩
  · unfold inR
    rw [rd_ints hi, decide_eq_true (by omega), decide_eq_true (by omega)]
    rfl
  · unfold adjB
    by_cases e : 0 < i
    · rw [el_ints hi, el_ints (show i - 1 < q.length by omega), decide_eq_false (p := blen q[i] ≤ blen q[i - 1]) (by have := hup (i - 1) i (by omega) hi (by omega); omega), Bool.and_false]
      rfl
    · rw [decide_eq_false e]
      rfl
  · rw [allF_iff]
    intro k _ hk
    rw [el_ints hi, el_ints (show k < q.length by omega), hcl k i (by omega) hi (by omega)]
    rfl
theorem bas_of {l : List Int} (hr : ∀ i, i < l.length → inR (rd l (i : Int)) = true) (ha : ∀ i, i < l.length → adjB l i = false) (hc : ∀ i j, i < j → j < l.length → (el l j).testBit (blen (el l i) - 1) = false) :
    ∃ q : List Nat, l = ints q ∧ Basis q ∧ (∀ b ∈ q, b < 65536) ∧ q.length ≤ 16 := by
  have hin : ∀ x ∈ l, 1 ≤ x ∧ x ≤ 65535 := fun x hx => by
    obtain ⟨i, hi, rfl⟩ := List.getElem_of_mem hx
    have h1 := hr i hi
    have e : rd l (i : Int) = l[i] := by simp [rd, hi]
    rw [e] at h1
    unfold inR at h1
    simpa using h1
  obtain ⟨q, rfl, hq⟩ := ints_of (n := 16) l fun x hx => by have := hin x hx; omega
  rw [ints_length] at ha hc
  have hpos : ∀ b ∈ q, b ≠ 0 := fun b hb => by
    have := hin (b : Int) (List.mem_map.2 ⟨b, hb, rfl⟩)
    omega
  have hstep : ∀ i, i + 1 < q.length → (h : i < q.length) → blen q[i] < blen (q[i + 1]?.getD 0) := fun i h1 h => by
    have := ha (i + 1) h1
    unfold adjB at this
    rw [el_ints h1, el_ints (show i + 1 - 1 < q.length by omega), decide_eq_true (by omega), Bool.true_and] at this
    have := of_decide_eq_false this
    simp only [Nat.add_sub_cancel] at this
    rw [List.getElem?_eq_getElem h1, Option.getD_some]
    omega
  have hup : ∀ (d i : Nat) (h : i + d + 1 < q.length), blen q[i] < blen q[i + d + 1] := fun d => by
    induction d with
    | zero =>
      intro i h
      have := hstep i h (by omega)
      rw [List.getElem?_eq_getElem h, Option.getD_some] at this
      exact this
    | succ d ih =>
      intro i h
      have h1 := ih i (by omega)
      have h2 := hstep (i + d + 1) (by omega) (by omega)
      rw [List.getElem?_eq_getElem (by omega), Option.getD_some] at h2
      exact Nat.lt_trans h1 h2
  have hB : Basis q := by
    refine ⟨hpos, List.pairwise_iff_getElem.2 fun i j hi hj hij => ?_, List.pairwise_iff_getElem.2 fun i j hi hj hij => ?_⟩
    · obtain ⟨d, rfl⟩ : ∃ d, j = i + d + 1 := ⟨j - i - 1, by omega⟩
      exact hup d i hj
    · have := hc i j hij hj
      rw [el_ints hj, el_ints hi] at this
      exact this
  exact ⟨q, rfl, hB, fun b hb => hq b hb, basis_len hB hq⟩
theorem isBas_of {l : List Int} (h : isBas l = true) : ∃ q : List Nat, l = ints q ∧ Basis q ∧ (∀ b ∈ q, b < 65536) ∧ q.length ≤ 16 := by
  unfold isBas at h
  rw [allF_iff] at h
  have hk : ∀ i, i < l.length → inR (rd l (i : Int)) = true ∧ adjB l i = false ∧ ∀ k, k < i → (el l i).testBit (blen (el l k) - 1) = false := fun i hi => by
    have h1 := h i (by omega) (by omega)
    unfold okI at h1
    rw [Bool.and_eq_true, Bool.and_eq_true, allF_iff] at h1
    exact ⟨h1.1, by simpa using h1.2.1, fun k hk => by simpa using h1.2.2 k (by omega) (by omega)⟩
  exact bas_of (fun i hi => (hk i hi).1) (fun i hi => (hk i hi).2.1) fun i j hij hj => (hk j hj).2.2 i hij
theorem isBas_spec (l : List Int) : (decide (l.length ≤ 16) && ((l.all fun x => decide (1 ≤ x) && decide (x ≤ 65535)) && allF (okS l) 0 l.length)) = isBas l := by
  rw [Bool.eq_iff_iff, Bool.and_eq_true, Bool.and_eq_true, decide_eq_true_eq]
  constructor
  · intro ⟨_, h2, h3⟩
    rw [allF_iff] at h3
    have hk : ∀ i, i < l.length → adjB l i = false ∧ ∀ j, i < j → j < l.length → (el l j).testBit (blen (el l i) - 1) = false := fun i hi => by
      have h1 := h3 i (by omega) (by omega)
      unfold okS at h1
      rw [Bool.and_eq_true, allF_iff] at h1
      exact ⟨by simpa using h1.1, fun j h4 h5 => by simpa using h1.2 j (by omega) (by omega)⟩
    obtain ⟨q, rfl, hB, hq, _⟩ := bas_of (l := l) (fun i hi => by
      have e : rd l (i : Int) = l[i] := by simp [rd, hi]
      rw [e]
      exact List.all_eq_true.1 h2 _ (List.getElem_mem hi)) (fun i hi => (hk i hi).1) fun i j hij hj => (hk i (by omega)).2 j hij hj
    exact isBas_ints hB hq
  · intro h
    obtain ⟨q, rfl, hB, hq, hl⟩ := isBas_of h
    have hup := List.pairwise_iff_getElem.1 hB.up
    have hcl := List.pairwise_iff_getElem.1 hB.clean
    refine ⟨by rw [ints_length]; exact hl, ?_, ?_⟩
    · rw [List.all_eq_true]
      intro x hx
      obtain ⟨b, hb, rfl⟩ := List.mem_map.1 hx
      have h1 := hB.pos b hb
      have h2 := hq b hb
      rw [decide_eq_true (by omega), decide_eq_true (by omega)]
      rfl
    · rw [allF_iff]
      intro i _ hi
      rw [ints_length] at hi
      have hi : i < q.length := by omega
      unfold okS
      rw [Bool.and_eq_true, allF_iff]
      constructor
      · unfold adjB
        by_cases e : 0 < i
        · rw [el_ints hi, el_ints (show i - 1 < q.length by omega), decide_eq_false (p := blen q[i] ≤ blen q[i - 1]) (by have := hup (i - 1) i (by omega) hi (by omega); omega), Bool.and_false]
          rfl
        · rw [decide_eq_false e]
          rfl
      · intro j h1 h2
        rw [ints_length] at h2
        have hj : j < q.length := by omega
        rw [el_ints hi, el_ints hj, hcl i j hi hj (by omega)]
        rfl
/-- What ReducedSet returns. -/
def redSet (l : List Int) (s : Int) : Int × Bool := if (isBas l && (decide (0 ≤ s) && decide (s ≤ 65535))) = true then ((red (l.map Int.toNat) s.toNat : Int), true) else (0, false)
def qbR (l : List Int) (own : Bool) : List Int × Bool := if good l = true then (ints (svG l own).quiet, true) else ([], false)
def ibR (l : List Int) (own : Bool) : List Int × Bool := if good l = true then (ints (svG l own).image, true) else ([], false)
/-- What QuietPatterns returns. -/
def qpR (l : List Int) (own : Bool) : List Int × Bool := if (good l && decide ((svG l own).quiet.length ≤ 8)) = true then (ints (sums (svG l own).quiet), true) else ([], false)
theorem quiet_small {l : List Int} (hG : GoodG l) (own : Bool) : (∀ b ∈ (svG l own).quiet, b < 65536) ∧ (svG l own).quiet.length ≤ 16 ∧ Basis (svG l own).quiet := by
  have hI := inv_graph hG own
  have h16 : (2 : Nat) ^ l.length ≤ 2 ^ 16 := Nat.pow_le_pow_right (by decide) hG.top
  refine ⟨fun b hb => ?_, ?_, hI.qb⟩
  · have := ((hI.qs b).1 (Sp.one hb)).1
    omega
  · have h1 := hI.rq
    have h2 := hG.top
    show (svOf (togs l own)).quiet.length ≤ 16
    omega
theorem image_small {l : List Int} (hG : GoodG l) (own : Bool) : (∀ b ∈ (svG l own).image, b < 65536) ∧ (svG l own).image.length ≤ 16 ∧ Basis (svG l own).image := by
  have hI := inv_graph hG own
  have h16 : (2 : Nat) ^ l.length ≤ 2 ^ 16 := Nat.pow_le_pow_right (by decide) hG.top
  refine ⟨fun b hb => ?_, ?_, hI.ib⟩
  · have := inv_image_lt (sym_graph hG own) hI b hb
    omega
  · have h1 := hI.rq
    have h3 := hI.ri
    have h2 := hG.top
    show (svOf (togs l own)).image.length ≤ 16
    omega
end Go.Proofs.YtjoeakahfomckaaGreatM
