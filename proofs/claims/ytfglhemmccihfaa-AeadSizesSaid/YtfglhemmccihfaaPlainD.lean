/-
  Numbers as digits of 256, the lowest one first: what layer 5's reference computes. No program.
-/
import Derived.Test.YtfglhemmccihfaaPlainF
namespace Go.Proofs.Ytfglhemmccihfaa

def dV : List Nat → Nat
  | [] => 0
  | d :: l => d + 256 * dV l
/-- Each digit is less than 256. -/
def Dig (l : List Nat) : Prop := ∀ d ∈ l, d < 256
theorem dV_append (l m : List Nat) : dV (l ++ m) = dV l + 256 ^ l.length * dV m := by
  induction l with
  | nil => simp [dV]
  | cons b l ih =>
    simp only [List.cons_append, dV, ih, List.length_cons]
    rw [Nat.mul_add, Nat.pow_succ, Nat.mul_comm (256 ^ l.length) 256, Nat.mul_assoc]
    omega
theorem dV_snoc (l : List Nat) (d : Nat) : dV (l ++ [d]) = dV l + 256 ^ l.length * d := by
  rw [dV_append]; simp [dV]
theorem Dig.snoc {l : List Nat} (h : Dig l) {d : Nat} (hd : d < 256) : Dig (l ++ [d]) := by
  intro x hx
  rcases List.mem_append.1 hx with h1 | h1
  · exact h x h1
  · rw [List.mem_singleton.1 h1]; exact hd
theorem Dig.nil : Dig [] := fun _ h => by cases h
theorem Dig.get {l : List Nat} (h : Dig l) (i : Nat) : l.getD i 0 < 256 := by
  rw [List.getD_eq_getElem?_getD]
  cases hl : l[i]? with
  | none => simp
  | some d => exact h d (List.mem_of_getElem? hl)
theorem dV_lt {l : List Nat} (h : Dig l) : dV l < 256 ^ l.length := by
  induction l with
  | nil => simp [dV]
  | cons d l ih =>
    have h1 := h d (by simp)
    have h2 := ih (fun x hx => h x (by simp [hx]))
    rw [List.length_cons, Nat.pow_succ, dV]
    omega
theorem dV_drop (l : List Nat) (i : Nat) (h : i < l.length) : dV (l.drop i) = l.getD i 0 + 256 * dV (l.drop (i + 1)) := by
  rw [List.drop_eq_getElem_cons h, dV, List.getD_eq_getElem?_getD, List.getElem?_eq_getElem h]; rfl
def ofBytes (l : List UInt8) : List Nat := l.map UInt8.toNat
theorem dV_ofBytes (l : List UInt8) : dV (ofBytes l) = leV l := by
  induction l with
  | nil => rfl
  | cons b l ih => simp only [ofBytes, List.map_cons, dV, leV] at ih ⊢; rw [ih]
theorem ofBytes_dig (l : List UInt8) : Dig (ofBytes l) := by
  intro d hd
  obtain ⟨b, _, rfl⟩ := List.mem_map.1 hd
  exact u8_lt b
theorem ofBytes_length (l : List UInt8) : (ofBytes l).length = l.length := by simp [ofBytes]
/-- One round of carrying. -/
theorem carry_round (l o : List Nat) (c : Nat) (h : dV o + 256 ^ o.length * (c + dV (l.drop o.length)) = dV l) (hi : o.length < l.length) :
    dV (o ++ [(c + l.getD o.length 0) % 256]) + 256 ^ (o.length + 1) * ((c + l.getD o.length 0) / 256 + dV (l.drop (o.length + 1))) = dV l := by
  rw [dV_drop l _ hi] at h
  rw [dV_snoc, Nat.pow_succ, ← h, Nat.mul_assoc, Nat.add_assoc, ← Nat.mul_add]
  congr 2
  omega
theorem carry_more (l o : List Nat) (c : Nat) (h : dV o + 256 ^ o.length * (c + dV (l.drop o.length)) = dV l) (hi : l.length ≤ o.length) :
    dV (o ++ [c % 256]) + 256 ^ (o.length + 1) * (c / 256 + dV (l.drop (o.length + 1))) = dV l := by
  rw [List.drop_of_length_le hi] at h
  rw [List.drop_of_length_le (by omega)]
  rw [dV_snoc, Nat.pow_succ, ← h, Nat.mul_assoc, Nat.add_assoc, ← Nat.mul_add]
  congr 2
  simp only [dV]
  omega
theorem carry_len (l o : List Nat) (c : Nat) (h : dV o + 256 ^ o.length * (c + dV (l.drop o.length)) = dV l) (hc : 0 < c) (L : Nat) (hL : dV l < 256 ^ L) : o.length + 1 ≤ L := by
  rcases Nat.lt_or_ge o.length L with g | g
  · exact g
  · exfalso
    have h1 : 256 ^ L ≤ 256 ^ o.length := Nat.pow_le_pow_right (by omega) g
    have h2 : 256 ^ o.length * 1 ≤ 256 ^ o.length * (c + dV (l.drop o.length)) := Nat.mul_le_mul_left _ (by omega)
    omega
/-- A sum, digit by digit. -/
def sumD (a b : List Nat) (k : Nat) : List Nat := (List.range k).map fun i => a.getD i 0 + b.getD i 0
theorem sumD_length (a b : List Nat) (k : Nat) : (sumD a b k).length = k := by simp [sumD]
theorem sumD_succ (a b : List Nat) (k : Nat) : sumD a b (k + 1) = sumD a b k ++ [a.getD k 0 + b.getD k 0] := by simp [sumD, List.range_succ]
theorem dV_take (a : List Nat) (k : Nat) : dV (a.take (k + 1)) = dV (a.take k) + 256 ^ k * a.getD k 0 := by
  rcases Nat.lt_or_ge k a.length with h | h
  · rw [List.take_succ_eq_append_getElem h, dV_snoc, List.length_take, Nat.min_eq_left (by omega), List.getD_eq_getElem?_getD, List.getElem?_eq_getElem h]; rfl
  · rw [List.take_of_length_le (by omega), List.take_of_length_le h, List.getD_eq_getElem?_getD, List.getElem?_eq_none h]; simp
theorem sumD_val (a b : List Nat) (k : Nat) : dV (sumD a b k) = dV (a.take k) + dV (b.take k) := by
  induction k with
  | zero => simp [sumD, dV]
  | succ k ih => rw [sumD_succ, dV_snoc, sumD_length, ih, dV_take, dV_take, Nat.mul_add]; omega
theorem sumD_full (a b : List Nat) : dV (sumD a b (max a.length b.length)) = dV a + dV b := by
  rw [sumD_val, List.take_of_length_le (by omega), List.take_of_length_le (by omega)]
theorem sumD_bound (a b : List Nat) (ha : Dig a) (hb : Dig b) (k : Nat) : ∀ d ∈ sumD a b k, d < 512 := by
  intro d hd
  obtain ⟨i, _, rfl⟩ := List.mem_map.1 hd
  have := ha.get i
  have := hb.get i
  omega
/-- A product, one row's part. -/
def mulIn (a b : List Nat) (i : Nat) (out : List Nat) : Nat → List Nat
  | 0 => out
  | k + 1 => (mulIn a b i out k).set (i + k) ((mulIn a b i out k).getD (i + k) 0 + a.getD i 0 * b.getD k 0)
def mulRow (a b : List Nat) : Nat → List Nat
  | 0 => List.replicate (a.length + b.length) 0
  | i + 1 => mulIn a b i (mulRow a b i) b.length
theorem mulIn_length (a b : List Nat) (i : Nat) (out : List Nat) (k : Nat) : (mulIn a b i out k).length = out.length := by
  induction k with
  | zero => rfl
  | succ k ih => rw [mulIn, List.length_set, ih]
theorem mulRow_length (a b : List Nat) (i : Nat) : (mulRow a b i).length = a.length + b.length := by
  induction i with
  | zero => simp [mulRow]
  | succ i ih => rw [mulRow, mulIn_length, ih]
theorem dV_set (l : List Nat) (j x : Nat) (h : j < l.length) : dV (l.set j (l.getD j 0 + x)) = dV l + x * 256 ^ j := by
  induction l generalizing j with
  | nil => simp at h
  | cons d l ih =>
    cases j with
    | zero => simp [dV]; omega
    | succ j =>
      have := ih j (by simpa using h)
      simp only [List.set_cons_succ, dV, List.getD_cons_succ, this]
      rw [Nat.mul_add, Nat.pow_succ]
      have e : 256 * (x * 256 ^ j) = x * (256 ^ j * 256) := by rw [Nat.mul_comm (256 ^ j), ← Nat.mul_assoc, ← Nat.mul_assoc, Nat.mul_comm 256 x]
      rw [e]; omega
theorem mulIn_val (a b : List Nat) (i : Nat) (out : List Nat) (k : Nat) (hk : i + k ≤ out.length) : dV (mulIn a b i out k) = dV out + a.getD i 0 * 256 ^ i * dV (b.take k) := by
  induction k with
  | zero => simp [mulIn, dV]
  | succ k ih =>
    rw [mulIn, dV_set _ _ _ (by rw [mulIn_length]; omega), ih (by omega), dV_take, Nat.mul_add, Nat.add_assoc, Nat.pow_add]
    congr 2
    ac_rfl
theorem mulRow_val (a b : List Nat) (i : Nat) (hi : i ≤ a.length) : dV (mulRow a b i) = dV (a.take i) * dV b := by
  induction i with
  | zero =>
    have : ∀ n, dV (List.replicate n 0) = 0 := fun n => by
      induction n with
      | zero => rfl
      | succ n ih => rw [List.replicate_succ, dV, ih]
    simp [mulRow, dV, this]
  | succ i ih =>
    rw [mulRow, mulIn_val _ _ _ _ _ (by rw [mulRow_length]; omega), ih (by omega), dV_take, Nat.add_mul, List.take_of_length_le (Nat.le_refl _), Nat.mul_comm (256 ^ i)]
theorem mulRow_full (a b : List Nat) : dV (mulRow a b a.length) = dV a * dV b := by
  rw [mulRow_val a b _ (Nat.le_refl _), List.take_of_length_le (Nat.le_refl _)]
theorem getD_set_le (l : List Nat) (j x B : Nat) (h : ∀ k, l.getD k 0 ≤ B) (hx : x ≤ B) (k : Nat) : (l.set j x).getD k 0 ≤ B := by
  rw [List.getD_eq_getElem?_getD]
  by_cases e : j = k
  · subst e
    rw [List.getElem?_set]
    split
    · split <;> simp [hx]
    · exact absurd rfl ‹_›
  · rw [List.getElem?_set_ne e, ← List.getD_eq_getElem?_getD]; exact h k
theorem mulIn_far (a b : List Nat) (i : Nat) (out : List Nat) (k j : Nat) (h : i + k ≤ j) : (mulIn a b i out k).getD j 0 = out.getD j 0 := by
  induction k with
  | zero => rfl
  | succ k ih =>
    rw [mulIn]
    have : i + k ≠ j := by omega
    rw [List.getD_eq_getElem?_getD, List.getElem?_set_ne this, ← List.getD_eq_getElem?_getD]
    exact ih (by omega)
theorem mulIn_bound (a b : List Nat) (ha : Dig a) (hb : Dig b) (i : Nat) (out : List Nat) (B : Nat) (h : ∀ k, out.getD k 0 ≤ B) (k : Nat) : ∀ j, (mulIn a b i out k).getD j 0 ≤ B + 65025 := by
  induction k with
  | zero => intro j; have := h j; simp only [mulIn]; omega
  | succ k ih =>
    intro j
    rw [mulIn]
    refine getD_set_le _ _ _ _ ih ?_ j
    rw [mulIn_far _ _ _ _ _ _ (Nat.le_refl _)]
    have h1 := h (i + k)
    have h2 : a.getD i 0 * b.getD k 0 ≤ 255 * 255 := Nat.mul_le_mul (by have := ha.get i; omega) (by have := hb.get k; omega)
    omega
theorem mulRow_bound (a b : List Nat) (ha : Dig a) (hb : Dig b) (i : Nat) : ∀ j, (mulRow a b i).getD j 0 ≤ i * 65025 := by
  induction i with
  | zero =>
    intro j
    simp only [mulRow, List.getD_eq_getElem?_getD, List.getElem?_replicate]
    split <;> simp
  | succ i ih =>
    intro j
    have := mulIn_bound a b ha hb i (mulRow a b i) (i * 65025) ih b.length j
    rw [mulRow, Nat.succ_mul]; exact this

/-! ### Digits of a number -/
def digsOf (X n : Nat) : List Nat := (List.range n).map fun i => X / 256 ^ i % 256
theorem digsOf_length (X n : Nat) : (digsOf X n).length = n := by simp [digsOf]
theorem digsOf_succ (X n : Nat) : digsOf X (n + 1) = digsOf X n ++ [X / 256 ^ n % 256] := by simp [digsOf, List.range_succ]
theorem dV_digsOf (X n : Nat) : dV (digsOf X n) = X % 256 ^ n := by
  induction n with
  | zero => simp [digsOf, dV, Nat.mod_one]
  | succ n ih => rw [digsOf_succ, dV_snoc, digsOf_length, ih, Nat.pow_succ, Nat.mod_mul]
theorem digsOf_dig (X n : Nat) : Dig (digsOf X n) := by
  intro d hd
  obtain ⟨i, _, rfl⟩ := List.mem_map.1 hd
  exact Nat.mod_lt _ (by omega)
theorem digit_of (l : List Nat) (h : Dig l) (i : Nat) : l.getD i 0 = dV l / 256 ^ i % 256 := by
  induction l generalizing i with
  | nil => simp [dV]
  | cons d l ih =>
    have hd := h d (by simp)
    cases i with
    | zero => simp [dV]; omega
    | succ i =>
      have h2 : dV (d :: l) / 256 = dV l := by rw [dV]; omega
      rw [List.getD_cons_succ, ih (fun x hx => h x (by simp [hx])) i, Nat.pow_succ, Nat.mul_comm (256 ^ i) 256, ← Nat.div_div_eq_div_mul, h2]
/-- What is above 130 bits. -/
def hiD (l : List Nat) (k : Nat) : List Nat := (List.range k).map fun j => l.getD (16 + j) 0 / 4 + l.getD (16 + j + 1) 0 % 4 * 64
theorem hiD_length (l : List Nat) (k : Nat) : (hiD l k).length = k := by simp [hiD]
theorem hiD_succ (l : List Nat) (k : Nat) : hiD l (k + 1) = hiD l k ++ [l.getD (16 + k) 0 / 4 + l.getD (16 + k + 1) 0 % 4 * 64] := by simp [hiD, List.range_succ]
def two130 : Nat := 1361129467683753853853498429727072845824
theorem hiD_digs (l : List Nat) (h : Dig l) (k : Nat) : hiD l k = digsOf (dV l / two130) k := by
  unfold hiD digsOf
  apply List.map_congr_left
  intro j _
  rw [digit_of l h, digit_of l h, Nat.div_div_eq_div_mul, show two130 = 256 ^ 16 * 4 from rfl, Nat.pow_add 256 16 j, Nat.pow_succ 256 (16 + j), Nat.pow_add 256 16 j]
  rw [← Nat.div_div_eq_div_mul (dV l) (256 ^ 16 * 256 ^ j) 256, Nat.mul_assoc (256 ^ 16) 4, Nat.mul_comm 4 (256 ^ j), ← Nat.mul_assoc, ← Nat.div_div_eq_div_mul (dV l) (256 ^ 16 * 256 ^ j) 4]
  omega
theorem hiD_val (l : List Nat) (h : Dig l) : dV (hiD l (l.length - 16)) = dV l / two130 := by
  rw [hiD_digs l h, dV_digsOf]
  apply Nat.mod_eq_of_lt
  have h1 := dV_lt h
  rcases Nat.lt_or_ge l.length 16 with g | g
  · have h2 : 256 ^ l.length ≤ 256 ^ 16 := Nat.pow_le_pow_right (by omega) (by omega)
    rw [Nat.div_eq_of_lt]
    · exact Nat.pow_pos (by omega)
    · exact Nat.lt_of_lt_of_le h1 (Nat.le_trans h2 (by unfold two130; omega))
  · rw [Nat.div_lt_iff_lt_mul (by unfold two130; omega)]
    refine Nat.lt_of_lt_of_le h1 ?_
    have e : 256 ^ l.length = 256 ^ (l.length - 16) * 256 ^ 16 := by rw [← Nat.pow_add, Nat.sub_add_cancel g]
    rw [e]
    exact Nat.mul_le_mul_left _ (by unfold two130; omega)
theorem hiD_dig (l : List Nat) (h : Dig l) (k : Nat) : Dig (hiD l k) := by rw [hiD_digs l h]; exact digsOf_dig _ _
/-- What is below. -/
def loD (l : List Nat) : List Nat := (digsOf (dV l) 17).set 16 ((digsOf (dV l) 17).getD 16 0 % 4)
theorem take_digs (l : List Nat) (h : Dig l) (k : Nat) : (List.range k).map (fun i => l.getD i 0) = digsOf (dV l) k := by
  unfold digsOf
  apply List.map_congr_left
  intro i _
  exact digit_of l h i
theorem digsOf_get (X n i : Nat) (h : i < n) : (digsOf X n).getD i 0 = X / 256 ^ i % 256 := by
  unfold digsOf
  rw [List.getD_eq_getElem?_getD, List.getElem?_map, List.getElem?_range h]; rfl
theorem loD_eq (l : List Nat) : loD l = digsOf (dV l) 16 ++ [dV l / 256 ^ 16 % 4] := by
  unfold loD
  rw [digsOf_get _ _ _ (by omega), digsOf_succ, List.set_append_right _ _ (by rw [digsOf_length]; exact Nat.le_refl _), digsOf_length, Nat.sub_self, List.set_cons_zero]
  congr 2
  omega
theorem loD_val (l : List Nat) : dV (loD l) = dV l % two130 := by
  rw [loD_eq, dV_snoc, digsOf_length, dV_digsOf, show two130 = 256 ^ 16 * 4 from rfl, Nat.mod_mul]
theorem loD_dig (l : List Nat) : Dig (loD l) := by
  rw [loD_eq]
  exact (digsOf_dig _ _).snoc (by omega)
theorem loD_length (l : List Nat) : (loD l).length = 17 := by rw [loD_eq, List.length_append, digsOf_length]; rfl
/-- Is a number above 0? -/
def someD (l : List Nat) : Bool := decide (dV l ≠ 0)
theorem dV_zero (l : List Nat) : dV l = 0 ↔ ∀ d ∈ l, d = 0 := by
  induction l with
  | nil => simp [dV]
  | cons d l ih =>
    rw [dV]
    constructor
    · intro h x hx
      rcases List.mem_cons.1 hx with rfl | hx
      · omega
      · exact ih.1 (by omega) x hx
    · intro h
      have h1 := h d (by simp)
      have h2 := ih.2 (fun x hx => h x (by simp [hx]))
      omega
/-- One round of 'Modulo'. -/
theorem mod_round (X : Nat) (h : X / two130 ≠ 0) : (X % two130 + 5 * (X / two130)) % prime = X % prime ∧ X % two130 + 5 * (X / two130) < X := by
  have h1 := Nat.div_add_mod X two130
  constructor
  · have h2 : X = X % two130 + 5 * (X / two130) + prime * (X / two130) := by
      have : two130 * (X / two130) = 5 * (X / two130) + prime * (X / two130) := by rw [← Nat.add_mul]; rfl
      omega
    conv => rhs; rw [h2]
    rw [Nat.add_mul_mod_self_left]
  · have : two130 * (X / two130) = 5 * (X / two130) + prime * (X / two130) := by rw [← Nat.add_mul]; rfl
    have h3 : prime * 1 ≤ prime * (X / two130) := Nat.mul_le_mul_left _ (by omega)
    have := prime_pos
    omega
theorem mod_end (X : Nat) (h : X / two130 = 0) : (if (X + 5) / two130 ≠ 0 then (X + 5) % two130 else X) = X % prime := by
  have hx : X < two130 := by
    rcases Nat.lt_or_ge X two130 with g | g
    · exact g
    · have := Nat.div_pos g (show 0 < two130 by unfold two130; omega); omega
  unfold two130 at *
  unfold prime
  split
  · rename_i g
    omega
  · rename_i g
    rw [Nat.mod_eq_of_lt]
    omega
end Go.Proofs.Ytfglhemmccihfaa
