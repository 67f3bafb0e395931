namespace Go.Proofs.Ytjmkccabpnigiaa.P
set_option linter.unusedVariables false
set_option linter.unusedSimpArgs false
/-- What digits are worth. -/
def val : List Int → Int
 | [] => 0
 | d :: ds => d + 4294967296 * val ds
/-- Digits of 32 bits. -/
def Dg (ds : List Int) : Prop := ∀ d ∈ ds, 0 ≤ d ∧ d < 4294967296
/-- The last digit is not 0. -/
def Nz (ds : List Int) : Prop := ∀ h : ds ≠ [], ds.getLast h ≠ 0
theorem Dg.nil : Dg [] := fun d h => by cases h
theorem Dg.cons {d : Int} {ds : List Int} (h0 : 0 ≤ d) (h1 : d < 4294967296) (h : Dg ds) : Dg (d :: ds) := by
 intro x hx
 cases hx with
 | head => exact ⟨h0, h1⟩
 | tail _ hx => exact h x hx
theorem Dg.head {d : Int} {ds : List Int} (h : Dg (d :: ds)) : 0 ≤ d ∧ d < 4294967296 := h d (List.mem_cons_self ..)
theorem Dg.tail {d : Int} {ds : List Int} (h : Dg (d :: ds)) : Dg ds := fun x hx => h x (List.mem_cons_of_mem _ hx)
theorem Dg.take {ds : List Int} (h : Dg ds) (k : Nat) : Dg (ds.take k) := fun x hx => h x (List.mem_of_mem_take hx)
theorem Dg.drop {ds : List Int} (h : Dg ds) (k : Nat) : Dg (ds.drop k) := fun x hx => h x (List.mem_of_mem_drop hx)
theorem Dg.headD {ds : List Int} (h : Dg ds) : 0 ≤ ds.headD 0 ∧ ds.headD 0 < 4294967296 := by
 cases ds with
 | nil => simp
 | cons d ds => exact h.head
theorem Dg.tail' {ds : List Int} (h : Dg ds) : Dg ds.tail := by
 cases ds with
 | nil => exact h
 | cons d ds => exact h.tail
theorem Dg.replicate (n : Nat) : Dg (List.replicate n 0) := fun x hx => by
 have := List.eq_of_mem_replicate hx
 omega
theorem Dg.append {a b : List Int} (ha : Dg a) (hb : Dg b) : Dg (a ++ b) := fun x hx => by
 rcases List.mem_append.1 hx with h | h
 ·exact ha x h
 ·exact hb x h
theorem val_head (ds : List Int) : val ds = ds.headD 0 + 4294967296 * val ds.tail := by
 cases ds with
 | nil => rfl
 | cons d ds => rfl
theorem val_nonneg : ∀ {ds : List Int}, Dg ds → 0 ≤ val ds
 | [], _ => by simp [val]
 | d :: ds, h => by
  have h1 := val_nonneg h.tail
  have h2 := h.head
  simp only [val]
  omega
theorem val_replicate : ∀ n : Nat, val (List.replicate n 0) = 0
 | 0 => rfl
 | n + 1 => by simp only [List.replicate_succ, val, val_replicate n]; omega
theorem val_append_zero (ds : List Int) : val (ds ++ [0]) = val ds := by
 induction ds with
 | nil => rfl
 | cons d ds ih => simp only [List.cons_append, val, ih]
theorem val_lt : ∀ {ds : List Int}, Dg ds → val ds < 4294967296 ^ ds.length
 | [], _ => by simp [val]
 | d :: ds, h => by
  have h1 := val_lt h.tail
  have h2 := h.head
  simp only [val, List.length_cons, Int.pow_succ]
  generalize (4294967296 : Int) ^ ds.length = q at h1 ⊢
  omega
theorem Nz.tail {d : Int} {ds : List Int} (h : Nz (d :: ds)) : Nz ds := fun hn => by
 have := h (by simp)
 rw [List.getLast_cons hn] at this
 exact this
theorem val_ge : ∀ {ds : List Int}, Dg ds → Nz ds → ds ≠ [] → 4294967296 ^ (ds.length - 1) ≤ val ds
 | [], _, _, h => absurd rfl h
 | [d], h, hn, _ => by
  have h1 := hn (by simp)
  have h2 := h.head
  simp only [List.getLast_singleton] at h1
  simp [val]
  omega
 | d :: e :: ds, h, hn, _ => by
  have h1 := val_ge h.tail hn.tail (by simp)
  have h2 := h.head
  simp only [val, List.length_cons] at h1 ⊢
  rw [show ds.length + 1 + 1 - 1 = ds.length + 1 - 1 + 1 from by omega, Int.pow_succ]
  generalize (4294967296 : Int) ^ (ds.length + 1 - 1) = q at h1 ⊢
  omega
theorem pow_pos' (k : Nat) : (0 : Int) < 4294967296 ^ k := Int.pow_pos (by decide)
theorem pow_le {a b : Nat} (h : a ≤ b) : (4294967296 : Int) ^ a ≤ 4294967296 ^ b := by
 obtain ⟨k, rfl⟩ := Nat.exists_eq_add_of_le h
 rw [Int.pow_add]
 have h1 := pow_pos' a
 have h2 := pow_pos' k
 have := Int.mul_le_mul_of_nonneg_left (show 1 ≤ (4294967296 : Int) ^ k by omega) (show 0 ≤ (4294967296 : Int) ^ a by omega)
 omega
theorem val_pos {ds : List Int} (h : Dg ds) (hn : Nz ds) (h0 : ds ≠ []) : 0 < val ds := Int.lt_of_lt_of_le (pow_pos' _) (val_ge h hn h0)
theorem val_zero {ds : List Int} (h : Dg ds) (hn : Nz ds) (h0 : val ds = 0) : ds = [] := by
 by_cases hc : ds = []
 ·exact hc
 ·have := val_pos h hn hc
  omega
theorem val_short {a b : List Int} (ha : Dg a) (hb : Dg b) (hn : Nz b) (hl : a.length < b.length) : val a < val b := by
 have h1 := val_lt ha
 have h2 := val_ge hb hn (by intro h; subst h; simp at hl)
 have h3 := pow_le (show a.length ≤ b.length - 1 by omega)
 omega
theorem length_le {ds : List Int} {k : Nat} (h : Dg ds) (hn : Nz ds) (hv : val ds < 4294967296 ^ k) : ds.length ≤ k := by
 by_cases hc : ds = []
 ·subst hc; simp
 ·have h2 := val_ge h hn hc
  apply Classical.byContradiction
  intro h3
  have := pow_le (show k ≤ ds.length - 1 by omega)
  omega
theorem val_cmp : ∀ {a b : List Int} (i : Nat), Dg a → Dg b → a.length = b.length → (hi : i < a.length) → (hj : i < b.length) → a.drop (i + 1) = b.drop (i + 1) → a[i] < b[i] → val a < val b
 | [], _, _, _, _, _, hi, _, _, _ => by simp at hi
 | _ :: _, [], _, _, _, _, _, hj, _, _ => by simp at hj
 | x :: xs, y :: ys, 0, ha, hb, hl, hi, hj, hd, hlt => by
  simp at hd hlt
  subst hd
  simp only [val]
  omega
 | x :: xs, y :: ys, i + 1, ha, hb, hl, hi, hj, hd, hlt => by
  have := val_cmp (a := xs) (b := ys) i ha.tail hb.tail (by simpa using hl) (by simpa using hi) (by simpa using hj) (by simpa using hd) (by simpa using hlt)
  have h1 := ha.head
  have h2 := hb.head
  simp only [val]
  omega
/-- The sum, digit by digit. -/
def sumGo : Nat → List Int → List Int → Int → List Int
 | 0, _, _, _ => []
 | n + 1, a, b, c => (c + (a.headD 0 + b.headD 0)) % 4294967296 :: sumGo n a.tail b.tail ((c + (a.headD 0 + b.headD 0)) / 4294967296)
theorem sumGo_length : ∀ (n : Nat) (a b : List Int) (c : Int), (sumGo n a b c).length = n
 | 0, _, _, _ => rfl
 | n + 1, a, b, c => by simp only [sumGo, List.length_cons, sumGo_length n]
theorem sumGo_dg : ∀ (n : Nat) (a b : List Int) (c : Int), Dg (sumGo n a b c)
 | 0, _, _, _ => Dg.nil
 | n + 1, a, b, c => Dg.cons (by omega) (by omega) (sumGo_dg n _ _ _)
theorem sumGo_val : ∀ (n : Nat) (a b : List Int) (c : Int), Dg a → Dg b → 0 ≤ c → c ≤ 1 → a.length < n → b.length < n → val (sumGo n a b c) = val a + val b + c
 | 0, _, _, _, _, _, _, _, h, _ => by omega
 | 1, a, b, c, ha, hb, h0, h1, hla, hlb => by
  obtain rfl := List.eq_nil_of_length_eq_zero (show a.length = 0 by omega)
  obtain rfl := List.eq_nil_of_length_eq_zero (show b.length = 0 by omega)
  simp only [sumGo, val, List.headD_nil]
  omega
 | n + 2, a, b, c, ha, hb, h0, h1, hla, hlb => by
  have e1 := ha.headD
  have e2 := hb.headD
  have ih := sumGo_val (n + 1) a.tail b.tail ((c + (a.headD 0 + b.headD 0)) / 4294967296) ha.tail' hb.tail' (by omega) (by omega) (by simp; omega) (by simp; omega)
  rw [sumGo, val, ih, val_head a, val_head b]
  omega
/-- The difference, digit by digit. -/
def subGo : List Int → List Int → Int → List Int
 | [], _, _ => []
 | x :: xs, b, c => if c + b.headD 0 > x then (x + 4294967296 - (c + b.headD 0)) :: subGo xs b.tail 1 else (x - (c + b.headD 0)) :: subGo xs b.tail 0
theorem subGo_length : ∀ (a b : List Int) (c : Int), (subGo a b c).length = a.length
 | [], _, _ => rfl
 | x :: xs, b, c => by
  simp only [subGo]
  split <;> simp only [List.length_cons, subGo_length xs]
theorem subGo_dg : ∀ (a b : List Int) (c : Int), Dg a → Dg b → 0 ≤ c → c ≤ 1 → Dg (subGo a b c)
 | [], _, _, _, _, _, _ => Dg.nil
 | x :: xs, b, c, ha, hb, h0, h1 => by
  have e1 := ha.head
  have e2 := hb.headD
  simp only [subGo]
  split
  ·exact Dg.cons (by omega) (by omega) (subGo_dg xs _ _ ha.tail hb.tail' (by omega) (by omega))
  ·exact Dg.cons (by omega) (by omega) (subGo_dg xs _ _ ha.tail hb.tail' (by omega) (by omega))
theorem subGo_val : ∀ (a b : List Int) (c : Int), Dg a → Dg b → 0 ≤ c → c ≤ 1 → val b + c ≤ val a → b.length ≤ a.length → val (subGo a b c) = val a - val b - c
 | [], b, c, ha, hb, h0, h1, hle, hl => by
  obtain rfl := List.eq_nil_of_length_eq_zero (show b.length = 0 by simpa using hl)
  simp only [subGo, val] at hle ⊢
  omega
 | x :: xs, b, c, ha, hb, h0, h1, hle, hl => by
  have e1 := ha.head
  have e2 := hb.headD
  have hlb : b.tail.length ≤ xs.length := by simp at hl ⊢; omega
  rw [val_head b] at hle ⊢
  simp only [val] at hle
  simp only [subGo]
  split
  ·have ih := subGo_val xs b.tail 1 ha.tail hb.tail' (by omega) (by omega) (by omega) hlb
   simp only [val, ih]
   omega
  ·have ih := subGo_val xs b.tail 0 ha.tail hb.tail' (by omega) (by omega) (by omega) hlb
   simp only [val, ih]
   omega
theorem mul_bound {x y : Int} (hx : 0 ≤ x ∧ x < 4294967296) (hy : 0 ≤ y ∧ y < 4294967296) : 0 ≤ x * y ∧ x * y ≤ 18446744065119617025 := by
 refine ⟨Int.mul_nonneg hx.1 hy.1, ?_⟩
 have := Int.mul_le_mul (show x ≤ 4294967295 by omega) (show y ≤ 4294967295 by omega) hy.1 (by decide)
 simpa using this
/-- One row of a product: w times bs, added to os. -/
def rowGo (w : Int) : List Int → List Int → Int → List Int
 | [], os, c => c :: os.tail
 | b :: bs, os, c => (w * b + os.headD 0 + c) % 4294967296 :: rowGo w bs os.tail ((w * b + os.headD 0 + c) / 4294967296)
theorem rowGo_length (w : Int) : ∀ (bs os : List Int) (c : Int), bs.length < os.length → (rowGo w bs os c).length = os.length
 | [], os, c, h => by simp only [rowGo, List.length_cons, List.length_tail]; simp at h; omega
 | b :: bs, os, c, h => by
  simp only [rowGo, List.length_cons] at h ⊢
  rw [rowGo_length w bs os.tail _ (by simp; omega)]
  simp
  omega
theorem row_step {w b o c : Int} (hw : 0 ≤ w ∧ w < 4294967296) (hb : 0 ≤ b ∧ b < 4294967296) (ho : 0 ≤ o ∧ o < 4294967296) (hc : 0 ≤ c ∧ c < 4294967296) :
    0 ≤ (w * b + o + c) / 4294967296 ∧ (w * b + o + c) / 4294967296 < 4294967296 ∧ 0 ≤ w * b + o + c ∧ w * b + o + c < 18446744073709551616 := by
 have := mul_bound hw hb
 omega
theorem rowGo_dg {w : Int} (hw : 0 ≤ w ∧ w < 4294967296) : ∀ (bs os : List Int) (c : Int), Dg bs → Dg os → 0 ≤ c ∧ c < 4294967296 → Dg (rowGo w bs os c)
 | [], os, c, _, ho, hc => Dg.cons hc.1 hc.2 ho.tail'
 | b :: bs, os, c, hb, ho, hc => by
  have h := row_step hw hb.head ho.headD hc
  exact Dg.cons (by omega) (by omega) (rowGo_dg hw bs _ _ hb.tail ho.tail' ⟨h.1, h.2.1⟩)
theorem rowGo_val (w : Int) : ∀ (bs os : List Int) (c : Int), (os.drop bs.length).headD 0 = 0 → val (rowGo w bs os c) = val os + w * val bs + c
 | [], os, c, h => by
  simp only [List.length_nil, List.drop_zero] at h
  rw [rowGo, val, val_head os, h, val]
  omega
 | b :: bs, os, c, h => by
  have ih := rowGo_val w bs os.tail ((w * b + os.headD 0 + c) / 4294967296) (by simpa using h)
  rw [rowGo, val, ih, val_head os, val, Int.mul_add w, Int.mul_left_comm w]
  generalize w * b = p
  generalize w * val bs = q
  omega
theorem rowGo_drop (w : Int) : ∀ (bs os : List Int) (c : Int), (rowGo w bs os c).drop (bs.length + 1) = os.drop (bs.length + 1)
 | [], os, c => by cases os <;> simp [rowGo]
 | b :: bs, os, c => by
  rw [rowGo, List.length_cons, List.drop_succ_cons, rowGo_drop w bs]
  simp
/-- The product, row by row. -/
def timesGo : List Int → List Int → List Int → List Int
 | [], _, os => os
 | w :: ws, bs, os => (rowGo w bs os 0).headD 0 :: timesGo ws bs (rowGo w bs os 0).tail
theorem timesGo_length : ∀ (ws bs os : List Int), os.length = ws.length + bs.length → (timesGo ws bs os).length = os.length
 | [], _, _, _ => rfl
 | w :: ws, bs, os, h => by
  have h1 := rowGo_length w bs os 0 (by rw [h]; simp)
  simp only [List.length_cons] at h
  rw [timesGo, List.length_cons, timesGo_length ws bs _ (by rw [List.length_tail, h1]; omega), List.length_tail, h1]
  omega
theorem timesGo_dg : ∀ (ws bs os : List Int), Dg ws → Dg bs → Dg os → Dg (timesGo ws bs os)
 | [], _, _, _, _, h => h
 | w :: ws, bs, os, hw, hb, ho => by
  have h1 := rowGo_dg hw.head bs os 0 hb ho ⟨by omega, by omega⟩
  exact Dg.cons h1.headD.1 h1.headD.2 (timesGo_dg ws bs _ hw.tail hb h1.tail')
theorem timesGo_val : ∀ (ws bs os : List Int), (∀ k, bs.length ≤ k → os.getD k 0 = 0) → val (timesGo ws bs os) = val os + val ws * val bs
 | [], _, _, _ => by simp [timesGo, val]
 | w :: ws, bs, os, h => by
  have e1 := rowGo_val w bs os 0 (by
   have := h bs.length (Nat.le_refl _)
   rw [List.getD_eq_getElem?_getD] at this
   rw [List.headD_eq_head?_getD, List.head?_drop]
   exact this)
  have ih := timesGo_val ws bs (rowGo w bs os 0).tail (by
   intro k hk
   have e2 : (rowGo w bs os 0).tail.getD k 0 = ((rowGo w bs os 0).drop (bs.length + 1)).getD (k - bs.length) 0 := by
    simp only [List.getD_eq_getElem?_getD, List.getElem?_tail, List.getElem?_drop]
    rw [show bs.length + 1 + (k - bs.length) = k + 1 from by omega]
   rw [e2, rowGo_drop]
   have := h (k + 1) (by omega)
   simp only [List.getD_eq_getElem?_getD, List.getElem?_drop] at this ⊢
   rw [show bs.length + 1 + (k - bs.length) = k + 1 from by omega]
   exact this)
  rw [val_head (rowGo w bs os 0)] at e1
  rw [timesGo, val, ih, val, Int.add_mul, Int.mul_assoc]
  generalize val ws * val bs = p at *
  generalize w * val bs = q at *
  omega
/-- The quotient and the rest by one digit. -/
def shQ (w : Int) : List Int → List Int × Int
 | [] => ([], 0)
 | d :: ds => (((shQ w ds).2 * 4294967296 + d) / w :: (shQ w ds).1, ((shQ w ds).2 * 4294967296 + d) % w)
theorem shQ_length (w : Int) : ∀ ds : List Int, (shQ w ds).1.length = ds.length
 | [] => rfl
 | d :: ds => by simp only [shQ, List.length_cons, shQ_length w ds]
theorem shQ_rest {w : Int} (hw : 0 < w) : ∀ ds : List Int, Dg ds → 0 ≤ (shQ w ds).2 ∧ (shQ w ds).2 < w
 | [], _ => ⟨Int.le_refl _, hw⟩
 | d :: ds, h => ⟨Int.emod_nonneg _ (by omega), Int.emod_lt_of_pos _ hw⟩
theorem shQ_step {w r d : Int} (hw : 0 < w) (hr : 0 ≤ r ∧ r < w) (hd : 0 ≤ d ∧ d < 4294967296) : 0 ≤ (r * 4294967296 + d) / w ∧ (r * 4294967296 + d) / w < 4294967296 := by
 refine ⟨Int.ediv_nonneg (by omega) (by omega), Int.ediv_lt_of_lt_mul hw ?_⟩
 have : (r + 1) * 4294967296 ≤ w * 4294967296 := Int.mul_le_mul_of_nonneg_right (by omega) (by decide)
 rw [Int.mul_comm 4294967296 w]
 omega
theorem shQ_dg {w : Int} (hw : 0 < w) : ∀ ds : List Int, Dg ds → Dg (shQ w ds).1
 | [], _ => Dg.nil
 | d :: ds, h => by
  have h1 := shQ_step hw (shQ_rest hw ds h.tail) h.head
  exact Dg.cons h1.1 h1.2 (shQ_dg hw ds h.tail)
theorem shQ_val {w : Int} (hw : 0 < w) : ∀ ds : List Int, val ds = w * val (shQ w ds).1 + (shQ w ds).2
 | [] => by simp [shQ, val]
 | d :: ds => by
  have ih := shQ_val hw ds
  have h1 := Int.mul_ediv_add_emod ((shQ w ds).2 * 4294967296 + d) w
  simp only [shQ, val]
  rw [ih, Int.mul_add w, Int.mul_left_comm w 4294967296]
  generalize w * val (shQ w ds).1 = p at *
  generalize w * (((shQ w ds).2 * 4294967296 + d) / w) = q at *
  omega
end Go.Proofs.Ytjmkccabpnigiaa.P
