/- crc: the plain laws of bits that are turned. -/
import Derived.Test.YtogpdmpefdafnaaCrcP
namespace Go.Proofs.Ytogpdmpefdafnaa.Crc
open Go

theorem fold16_state : ∀ (t : List Nat) (A B : Nat), t.foldl st16 (A ^^^ B) = t.foldl st16 A ^^^ r16 (8 * t.length) B
  | [], A, B => rfl
  | c :: t, A, B => by
    have h : st16 (A ^^^ B) c = st16 A c ^^^ r16 8 B := by
      have := st16_xor A B c 0
      rw [Nat.xor_zero] at this
      rw [this]
      unfold st16; simp
    simp only [List.foldl_cons, h, fold16_state t]
    congr 1
theorem fold7_state : ∀ (t : List Nat) (A B : Nat), t.foldl st7 (A ^^^ B) = t.foldl st7 A ^^^ r8 (8 * t.length) B
  | [], A, B => rfl
  | c :: t, A, B => by
    have h : st7 (A ^^^ B) c = st7 A c ^^^ r8 8 B := by
      have := st7_xor A B c 0
      rw [Nat.xor_zero] at this
      rw [this]
      unfold st7; simp
    simp only [List.foldl_cons, h, fold7_state t]
    congr 1

theorem fold16_set : ∀ (l : List Nat) (k d s : Nat), k < l.length → (l.set k (l.getD k 0 ^^^ d)).foldl st16 s = l.foldl st16 s ^^^ r16 (8 * (l.length - 1 - k)) (st16 0 d)
  | [], _, _, _, h => by simp at h
  | c :: t, 0, d, s, _ => by
    have h : st16 s (c ^^^ d) = st16 s c ^^^ st16 0 d := by
      have := st16_xor s 0 c d
      rwa [Nat.xor_zero] at this
    simp only [List.set_cons_zero, List.foldl_cons, List.getD_cons_zero, h, fold16_state, List.length_cons]
    rw [show t.length + 1 - 1 - 0 = t.length by omega]
  | c :: t, k + 1, d, s, hk => by
    simp only [List.set_cons_succ, List.foldl_cons, List.getD_cons_succ, List.length_cons]
    rw [fold16_set t k d _ (by simpa using hk), show t.length + 1 - 1 - (k + 1) = t.length - 1 - k by omega]
theorem fold7_set : ∀ (l : List Nat) (k d s : Nat), k < l.length → (l.set k (l.getD k 0 ^^^ d)).foldl st7 s = l.foldl st7 s ^^^ r8 (8 * (l.length - 1 - k)) (st7 0 d)
  | [], _, _, _, h => by simp at h
  | c :: t, 0, d, s, _ => by
    have h : st7 s (c ^^^ d) = st7 s c ^^^ st7 0 d := by
      have := st7_xor s 0 c d
      rwa [Nat.xor_zero] at this
    simp only [List.set_cons_zero, List.foldl_cons, List.getD_cons_zero, h, fold7_state, List.length_cons]
    rw [show t.length + 1 - 1 - 0 = t.length by omega]
  | c :: t, k + 1, d, s, hk => by
    simp only [List.set_cons_succ, List.foldl_cons, List.getD_cons_succ, List.length_cons]
    rw [fold7_set t k d _ (by simpa using hk), show t.length + 1 - 1 - (k + 1) = t.length - 1 - k by omega]

/-- A row with bit p turned (of each byte the highest first). -/
def flip (l : List Nat) (p : Nat) : List Nat := l.set (p / 8) (l.getD (p / 8) 0 ^^^ 2 ^ (7 - p % 8))
def E16 (m : Nat) : Nat := r16 (m + 16) 1
def E7 (m : Nat) : Nat := r8 (m + 8) 1

theorem flip_len (l : List Nat) (p : Nat) : (flip l p).length = l.length := by simp [flip]
theorem getD_lt {l : List Nat} (hl : ∀ c ∈ l, c < 256) (k : Nat) : l.getD k 0 < 256 := by
  by_cases h : k < l.length
  · rw [List.getD, List.getElem?_eq_getElem h]; exact hl _ (List.getElem_mem _)
  · rw [List.getD, List.getElem?_eq_none (by omega)]; simp
theorem flip_lt (l : List Nat) (p : Nat) (hl : ∀ c ∈ l, c < 256) : ∀ c ∈ flip l p, c < 256 := by
  intro c hc
  unfold flip at hc
  rcases List.mem_or_eq_of_mem_set hc with h | h
  · exact hl c h
  · rw [h]; exact Nat.xor_lt_two_pow (n := 8) (getD_lt hl _) (Nat.pow_lt_pow_right (by omega) (by omega))

theorem flip16 (l : List Nat) (p : Nat) (hp : p < 8 * l.length) : sum16 (flip l p) = sum16 l ^^^ E16 (8 * l.length - 1 - p) := by
  unfold sum16 flip E16
  rw [fold16_set l (p / 8) _ 0 (by omega)]
  congr 1
  have h1 : st16 0 (2 ^ (7 - p % 8)) = r16 (8 + (15 - p % 8) - 0) 1 := by
    unfold st16
    rw [Nat.zero_xor, show 256 * 2 ^ (7 - p % 8) = 2 ^ (15 - p % 8) by rw [show (256 : Nat) = 2 ^ 8 by rfl, ← Nat.pow_add]; congr 1; omega]
    have := rds_pow 16 4129 (15 - p % 8) 0 (by omega)
    rw [Nat.add_zero, Nat.pow_zero] at this
    rw [← this, Nat.sub_zero, Nat.add_comm 8]
    exact (rds_add 16 4129 (15 - p % 8) 8 1).symm
  rw [h1, Nat.sub_zero]
  have h2 := rds_add 16 4129 (8 + (15 - p % 8)) (8 * (l.length - 1 - p / 8)) 1
  show rds 16 4129 _ _ = _
  rw [← h2]
  show _ = rds 16 4129 _ _
  congr 1; omega
theorem flip7 (l : List Nat) (p : Nat) (hp : p < 8 * l.length) : (flip l p).foldl st7 0 = l.foldl st7 0 ^^^ E7 (8 * l.length - 1 - p) := by
  unfold flip E7
  rw [fold7_set l (p / 8) _ 0 (by omega)]
  congr 1
  have h1 : st7 0 (2 ^ (7 - p % 8)) = r8 (8 + (7 - p % 8)) 1 := by
    unfold st7
    rw [Nat.zero_xor]
    have := rds_pow 8 18 (7 - p % 8) 0 (by omega)
    rw [Nat.add_zero, Nat.pow_zero] at this
    rw [← this, Nat.add_comm 8]
    exact (rds_add 8 18 (7 - p % 8) 8 1).symm
  rw [h1]
  have h2 := rds_add 8 18 (8 + (7 - p % 8)) (8 * (l.length - 1 - p / 8)) 1
  show rds 8 18 _ _ = _
  rw [← h2]
  show _ = rds 8 18 _ _
  congr 1; omega

/-! A register that isn't 0 never comes to 0. -/
theorem rd16_ne (v : Nat) (hv : v < 65536) (h : rd 16 4129 v = 0) : v = 0 := by
  unfold rd at h
  split at h
  · have h1 : 2 * v % 2 ^ 16 = 4129 := by
      have := congrArg (· ^^^ 4129) h
      simpa [Nat.xor_assoc] using this
    omega
  · rename_i ht
    have ht2 : v / 32768 % 2 ≠ 1 := by
      intro e
      exact ht (by simp [Nat.testBit, Nat.shiftRight_eq_div_pow, e])
    omega
theorem r16_ne : ∀ k v, v < 65536 → r16 k v = 0 → v = 0
  | 0, _, _, h => h
  | k + 1, v, hv, h => rd16_ne v hv (r16_ne k (rd 16 4129 v) (rd_lt 16 4129 v (by omega)) h)
theorem rd8_ne (v : Nat) (hv : v < 256) (he : v % 2 = 0) (h : rd 8 18 v = 0) : v = 0 := by
  unfold rd at h
  split at h
  · have h1 : 2 * v % 2 ^ 8 = 18 := by
      have := congrArg (· ^^^ 18) h
      simpa [Nat.xor_assoc] using this
    omega
  · rename_i ht
    have ht2 : v / 128 % 2 ≠ 1 := by
      intro e
      exact ht (by simp [Nat.testBit, Nat.shiftRight_eq_div_pow, e])
    omega
theorem r8_ne : ∀ k v, v < 256 → v % 2 = 0 → r8 k v = 0 → v = 0
  | 0, _, _, _, h => h
  | k + 1, v, hv, he, h => rd8_ne v hv he (r8_ne k (rd 8 18 v) (rd_lt 8 18 v (by omega)) (rd_even 8 18 v (by omega) (by omega)) h)

theorem E16_ne (m : Nat) : E16 m ≠ 0 := fun h => by have := r16_ne (m + 16) 1 (by omega) h; omega
theorem E7_two (m : Nat) : E7 m = r8 (m + 7) 2 := by
  unfold E7
  rw [show m + 8 = 1 + (m + 7) by omega]
  rw [show r8 (1 + (m + 7)) 1 = r8 (m + 7) (r8 1 1) from rds_add 8 18 1 (m + 7) 1]
  rfl
theorem E7_ne (m : Nat) : E7 m ≠ 0 := fun h => by rw [E7_two] at h; have := r8_ne (m + 7) 2 (by omega) (by omega) h; omega
theorem r8_even : ∀ k v, v % 2 = 0 → r8 k v % 2 = 0
  | 0, _, h => h
  | k + 1, v, _ => r8_even k _ (rd_even 8 18 v (by omega) (by omega))
theorem E7_even (m : Nat) : E7 m % 2 = 0 := by rw [E7_two]; exact r8_even _ _ rfl

theorem xor_eq_self {a b : Nat} (h : a = a ^^^ b) : b = 0 := by
  have := congrArg (a ^^^ ·) h
  simp only [← Nat.xor_assoc, Nat.xor_self, Nat.zero_xor] at this
  exact this.symm

/-- One bit that is turned changes both sums. -/
theorem bit16 (l : List Nat) (p : Nat) (hp : p < 8 * l.length) : sum16 l ≠ sum16 (flip l p) := by
  rw [flip16 l p hp]
  intro h
  exact E16_ne _ (xor_eq_self h)
theorem bit7 (l : List Nat) (p : Nat) (hp : p < 8 * l.length) : sum7 l ≠ sum7 (flip l p) := by
  unfold sum7
  rw [flip7 l p hp, half_xor]
  intro h
  have h0 := xor_eq_self h
  have h1 := E7_ne (8 * l.length - 1 - p)
  have h2 := E7_even (8 * l.length - 1 - p)
  omega

/-! Bursts. -/
/-- The bits of a pattern, from bit on, turned: n of them, as far as the row goes. -/
def burst (l : List Nat) (bit P : Nat) : Nat → List Nat
  | 0 => l
  | n + 1 => if P.testBit n ∧ bit + n < 8 * l.length then flip (burst l bit P n) (bit + n) else burst l bit P n
def Q (P : Nat) : Nat → Nat
  | 0 => 0
  | n + 1 => (2 * Q P n) ^^^ (if P.testBit n then 1 else 0)

theorem burst_len (l : List Nat) (bit P : Nat) : ∀ n, (burst l bit P n).length = l.length
  | 0 => rfl
  | n + 1 => by
    unfold burst
    split
    · rw [flip_len, burst_len l bit P n]
    · exact burst_len l bit P n
theorem burst_lt (l : List Nat) (bit P : Nat) (hl : ∀ c ∈ l, c < 256) : ∀ n, ∀ c ∈ burst l bit P n, c < 256
  | 0 => hl
  | n + 1 => by
    unfold burst
    split
    · exact flip_lt _ _ (burst_lt l bit P hl n)
    · exact burst_lt l bit P hl n
theorem Q_lt (P : Nat) : ∀ n, Q P n < 2 ^ n
  | 0 => by simp [Q]
  | n + 1 => by
    have h := Q_lt P n
    have hp : 0 < 2 ^ n := Nat.two_pow_pos n
    have h2 : 2 * Q P n < 2 ^ (n + 1) := by rw [Nat.pow_succ]; omega
    have h3 : (if P.testBit n then 1 else 0 : Nat) < 2 ^ (n + 1) := by rw [Nat.pow_succ]; split <;> omega
    exact Nat.xor_lt_two_pow h2 h3
theorem Q_zero_burst (l : List Nat) (bit P : Nat) : ∀ n, Q P n = 0 → burst l bit P n = l
  | 0, _ => rfl
  | n + 1, h => by
    unfold Q at h
    have h1 : P.testBit n = false := by
      cases hb : P.testBit n with
      | false => rfl
      | true =>
        rw [hb] at h
        have := congrArg (· ^^^ 1) h
        simp [Nat.xor_assoc] at this
        omega
    rw [h1] at h
    have h2 : Q P n = 0 := by simp at h; omega
    unfold burst
    rw [h1]
    simp [Q_zero_burst l bit P n h2]

theorem rd_small (n g v : Nat) (h : 2 * v < 2 ^ n) : rd n g v = 2 * v := by
  have := rds_small n g 1 v (by simpa using h)
  simpa [rds] using this

/-- The burst as far as the row goes: m bits. -/
theorem burst16 (l : List Nat) (bit P : Nat) : ∀ n, n ≤ 16 → bit + n ≤ 8 * l.length → sum16 (burst l bit P n) = sum16 l ^^^ r16 (8 * l.length - bit - n + 16) (Q P n)
  | 0, _, _ => by simp [burst, Q, rds_zero]
  | n + 1, hn, hl => by
    have ih := burst16 l bit P n (by omega) (by omega)
    have hq : r16 (8 * l.length - bit - n + 16) (Q P n) = r16 (8 * l.length - bit - (n + 1) + 16) (2 * Q P n) := by
      rw [show 8 * l.length - bit - n + 16 = (8 * l.length - bit - (n + 1) + 16) + 1 by omega]
      show r16 _ (rd 16 4129 (Q P n)) = _
      have h1 : Q P n < 2 ^ 15 := Nat.lt_of_lt_of_le (Q_lt P n) (Nat.pow_le_pow_right (by omega) (by omega))
      rw [rd_small 16 4129 (Q P n) (by omega)]
    unfold burst
    by_cases hb : P.testBit n = true
    · rw [if_pos ⟨hb, by omega⟩, flip16 _ _ (by rw [burst_len]; omega), burst_len, ih, hq, Nat.xor_assoc]
      congr 1
      rw [Q, E16, hb, if_pos rfl, show 8 * l.length - 1 - (bit + n) = 8 * l.length - bit - (n + 1) by omega]
      exact (rds_xor 16 4129 _ _ _).symm
    · rw [if_neg (fun h => hb h.1), ih, hq]
      rw [Q, if_neg hb, Nat.xor_zero]
theorem burst7 (l : List Nat) (bit P : Nat) : ∀ n, n ≤ 8 → bit + n ≤ 8 * l.length → (burst l bit P n).foldl st7 0 = l.foldl st7 0 ^^^ r8 (8 * l.length - bit - n + 8) (Q P n)
  | 0, _, _ => by simp [burst, Q, rds_zero]
  | n + 1, hn, hl => by
    have ih := burst7 l bit P n (by omega) (by omega)
    have hq : r8 (8 * l.length - bit - n + 8) (Q P n) = r8 (8 * l.length - bit - (n + 1) + 8) (2 * Q P n) := by
      rw [show 8 * l.length - bit - n + 8 = (8 * l.length - bit - (n + 1) + 8) + 1 by omega]
      show r8 _ (rd 8 18 (Q P n)) = _
      have h1 : Q P n < 2 ^ 7 := Nat.lt_of_lt_of_le (Q_lt P n) (Nat.pow_le_pow_right (by omega) (by omega))
      rw [rd_small 8 18 (Q P n) (by omega)]
    unfold burst
    by_cases hb : P.testBit n = true
    · rw [if_pos ⟨hb, by omega⟩, flip7 _ _ (by rw [burst_len]; omega), burst_len, ih, hq, Nat.xor_assoc]
      congr 1
      rw [Q, E7, hb, if_pos rfl, show 8 * l.length - 1 - (bit + n) = 8 * l.length - bit - (n + 1) by omega]
      exact (rds_xor 8 18 _ _ _).symm
    · rw [if_neg (fun h => hb h.1), ih, hq]
      rw [Q, if_neg hb, Nat.xor_zero]

/-- Past the row's end nothing is turned. -/
theorem burst_past (l : List Nat) (bit P : Nat) (m : Nat) (hm : 8 * l.length ≤ bit + m) : ∀ k, burst l bit P (m + k) = burst l bit P m
  | 0 => rfl
  | k + 1 => by
    rw [show m + (k + 1) = (m + k) + 1 by omega]
    rw [burst, if_neg (fun h => by omega)]
    exact burst_past l bit P m hm k

/-- A burst of at most sixteen bits in a row whose sum is 0: it is 0 again if nothing was turned, and else not. -/
theorem burst_found (x : List Nat) (bit P : Nat) (h0 : sum16 x = 0) : sum16 (burst x bit P 16) = 0 ↔ burst x bit P 16 = x := by
  constructor
  · intro h
    by_cases hl : bit + 16 ≤ 8 * x.length
    · have := burst16 x bit P 16 (by omega) hl
      rw [h, h0, Nat.zero_xor] at this
      exact Q_zero_burst x bit P 16 (r16_ne _ _ (Q_lt P 16) this.symm)
    · by_cases hb : bit ≤ 8 * x.length
      · obtain ⟨m, hm⟩ : ∃ m, bit + m = 8 * x.length := ⟨8 * x.length - bit, by omega⟩
        have e := burst_past x bit P m (by omega) (16 - m)
        rw [show m + (16 - m) = 16 by omega] at e
        rw [e] at h ⊢
        have := burst16 x bit P m (by omega) (by omega)
        rw [h, h0, Nat.zero_xor] at this
        exact Q_zero_burst x bit P m (r16_ne _ _ (Nat.lt_of_lt_of_le (Q_lt P m) (Nat.pow_le_pow_right (show 0 < 2 by omega) (show m ≤ 16 by omega))) this.symm)
      · have e := burst_past x bit P 0 (by omega) 16
        rw [Nat.zero_add] at e
        rw [e]; rfl
  · intro h; rw [h, h0]

/-- What the sum behind a block says. -/
theorem tail16 (s hi lo : Nat) (hs : s < 65536) (hh : hi < 256) (hlo : lo < 256) : st16 (st16 s hi) lo = 0 ↔ s = (256 * hi) ^^^ lo := by
  have e : st16 (st16 s hi) lo = r16 16 (s ^^^ ((256 * hi) ^^^ lo)) := by
    unfold st16
    have h1 : 256 * lo = r16 8 lo := (rds_small 16 4129 8 lo (by omega)).symm
    rw [h1, ← rds_xor 16 4129 8, Nat.xor_assoc]
    exact (rds_add 16 4129 8 8 _).symm
  rw [e]
  constructor
  · intro h
    have h2 := r16_ne 16 _ (Nat.xor_lt_two_pow (n := 16) hs (Nat.xor_lt_two_pow (n := 16) (by omega) (by omega))) h
    have := congrArg (s ^^^ ·) h2
    simp only [← Nat.xor_assoc, Nat.xor_self, Nat.zero_xor, Nat.xor_zero] at this
    exact this.symm
  · intro h; rw [← h, Nat.xor_self]; exact rds_zero 16 4129 16

theorem sum16_append2 (l : List Nat) (hi lo : Nat) : sum16 (l ++ [hi, lo]) = st16 (st16 (sum16 l) hi) lo := by
  simp only [sum16, List.foldl_append, List.foldl_cons, List.foldl_nil]

theorem xor_or (h lo : Nat) (hlo : lo < 256) : (256 * h) ^^^ lo = (256 * h) ||| lo := by
  apply Nat.eq_of_testBit_eq
  intro j
  rw [Nat.testBit_xor, Nat.testBit_or, show (256 : Nat) = 2 ^ 8 by rfl, Nat.testBit_two_pow_mul]
  by_cases hj : 8 ≤ j
  · have : lo.testBit j = false := Nat.testBit_lt_two_pow (Nat.lt_of_lt_of_le hlo (Nat.pow_le_pow_right (show 0 < 2 by omega) hj))
    simp [this]
  · simp [hj]

/-- A row with its last two, or its last. -/
theorem split2 (Y : List Nat) (n : Nat) (h : Y.length = n + 2) : Y = Y.take n ++ [Y.getD n 0, Y.getD (n + 1) 0] := by
  have e := (List.take_append_drop n Y).symm
  have hd : Y.drop n = [Y.getD n 0, Y.getD (n + 1) 0] := by
    rw [List.drop_eq_getElem_cons (by omega), List.drop_eq_getElem_cons (by omega), List.drop_eq_nil_of_le (by omega)]
    simp [List.getD, List.getElem?_eq_getElem (show n < Y.length by omega), List.getElem?_eq_getElem (show n + 1 < Y.length by omega)]
  rw [hd] at e
  exact e
theorem split1 (Y : List Nat) (n : Nat) (h : Y.length = n + 1) : Y = Y.take n ++ [Y.getD n 0] := by
  have e := (List.take_append_drop n Y).symm
  have hd : Y.drop n = [Y.getD n 0] := by
    rw [List.drop_eq_getElem_cons (by omega), List.drop_eq_nil_of_le (by omega)]
    simp [List.getD, List.getElem?_eq_getElem (show n < Y.length by omega)]
  rw [hd] at e
  exact e

/-- The law's first half. -/
theorem sixteen_found (l : List Nat) (hl : ∀ c ∈ l, c < 256) (bit P : Nat) (Y : List Nat) (hY : Y = burst (l ++ [sum16 l / 256, sum16 l % 256]) bit P 16) :
    sum16 (Y.take l.length) = ((256 * Y.getD l.length 0) ||| Y.getD (l.length + 1) 0) ↔ Y = l ++ [sum16 l / 256, sum16 l % 256] := by
  have hs := sum16_lt l hl
  have hx : ∀ c ∈ l ++ [sum16 l / 256, sum16 l % 256], c < 256 := by
    intro c hc
    rcases List.mem_append.1 hc with h | h
    · exact hl c h
    · simp at h; omega
  have hYl : Y.length = l.length + 2 := by rw [hY, burst_len]; simp
  have hYc : ∀ c ∈ Y, c < 256 := by rw [hY]; exact burst_lt _ _ _ hx 16
  have hf := burst_found (l ++ [sum16 l / 256, sum16 l % 256]) bit P (sum16_ends l hl)
  rw [← hY] at hf
  have e := split2 Y l.length hYl
  have h1 := tail16 (sum16 (Y.take l.length)) (Y.getD l.length 0) (Y.getD (l.length + 1) 0) (sum16_lt _ (fun c hc => hYc c (List.mem_of_mem_take hc))) (getD_lt hYc _) (getD_lt hYc _)
  rw [← sum16_append2, ← e] at h1
  rw [← xor_or _ _ (getD_lt hYc _), ← h1, hf]

theorem fold7_even' : ∀ (l : List Nat) (s : Nat), s % 2 = 0 → (l.foldl st7 s) % 2 = 0
  | [], s, h => h
  | c :: l, s, _ => by
    simp only [List.foldl_cons]
    refine fold7_even' l _ ?_
    unfold st7 r8
    rw [rds_succ]
    exact rd_even 8 18 _ (by omega) (by omega)

theorem xor_even {a b : Nat} (ha : a % 2 = 0) (hb : b % 2 = 0) : (a ^^^ b) % 2 = 0 := by
  have := Nat.xor_mod_two_pow (a := a) (b := b) (n := 1)
  simp only [Nat.pow_one, ha, hb] at this
  exact this

theorem burst_last_even (V : List Nat) (n bit P : Nat) (hV : V.length = n + 1) (he : V.getD n 0 % 2 = 0) (hb : bit ≤ 8 * n) : ∀ k, k ≤ 7 → (burst V bit P k).getD n 0 % 2 = 0
  | 0, _ => he
  | k + 1, hk => by
    have ih := burst_last_even V n bit P hV he hb k (by omega)
    unfold burst
    split
    · unfold flip
      by_cases hq : (bit + k) / 8 = n
      · rw [hq, List.getD, List.getElem?_set_self (by rw [burst_len]; omega), Option.getD_some]
        refine xor_even ih ?_
        obtain ⟨m, hm⟩ : ∃ m, 7 - (bit + k) % 8 = m + 1 := ⟨6 - (bit + k) % 8, by omega⟩
        rw [hm, Nat.pow_succ]; omega
      · rw [List.getD, List.getElem?_set_ne (by omega)]
        exact ih
    · exact ih

/-- The law's second half. -/
theorem seven_found (l : List Nat) (hl : ∀ c ∈ l, c < 256) (bit P : Nat) (hbit : bit ≤ 8 * l.length) (W : List Nat) (hW : W = burst (l ++ [2 * sum7 l]) bit P 7) :
    (sum7 (W.take l.length) = W.getD l.length 0 / 2 ↔ W = l ++ [2 * sum7 l]) ∧ ((l = W.take l.length ∧ sum7 l = W.getD l.length 0 / 2) ↔ W = l ++ [2 * sum7 l]) := by
  have hs := sum7_lt l hl
  have hv : ∀ c ∈ l ++ [2 * sum7 l], c < 256 := by
    intro c hc
    rcases List.mem_append.1 hc with h | h
    · exact hl c h
    · simp at h; omega
  have hWl : W.length = l.length + 1 := by rw [hW, burst_len]; simp
  have hWc : ∀ c ∈ W, c < 256 := by rw [hW]; exact burst_lt _ _ _ hv 7
  have hlast : W.getD l.length 0 % 2 = 0 := by
    rw [hW]
    exact burst_last_even _ l.length bit P (by simp) (by simp) hbit 7 (by omega)
  have hfl := fold7_even' l 0 rfl
  have h0 : (l ++ [2 * sum7 l]).foldl st7 0 = 0 := by
    rw [List.foldl_append]
    simp only [List.foldl_cons, List.foldl_nil]
    have : l.foldl st7 0 = 2 * sum7 l := by unfold sum7; omega
    rw [this]
    unfold st7
    rw [Nat.xor_self]
    exact rds_zero 8 18 8
  have hb := burst7 (l ++ [2 * sum7 l]) bit P 7 (by omega) (by simp; omega)
  rw [← hW, h0, Nat.zero_xor] at hb
  have hzero : W.foldl st7 0 = 0 ↔ W = l ++ [2 * sum7 l] := by
    constructor
    · intro h
      rw [h] at hb
      have hq : Q P 7 = 0 := by
        obtain ⟨m, hm⟩ : ∃ m, 8 * (l ++ [2 * sum7 l]).length - bit - 7 + 8 = m + 1 := ⟨8 * (l ++ [2 * sum7 l]).length - bit - 7 + 7, by omega⟩
        rw [hm] at hb
        have hb2 : r8 m (rd 8 18 (Q P 7)) = 0 := hb.symm
        have hl7 := Q_lt P 7
        rw [rd_small 8 18 (Q P 7) (by omega)] at hb2
        have := r8_ne m (2 * Q P 7) (by omega) (by omega) hb2
        omega
      rw [hW]
      exact Q_zero_burst _ bit P 7 hq
    · intro h; rw [h, h0]
  have e := split1 W l.length hWl
  have hF := fold7_even' (W.take l.length) 0 rfl
  have hFl := fold7_lt (W.take l.length) 0 (by omega) (fun c hc => hWc c (List.mem_of_mem_take hc))
  have hwl := getD_lt hWc l.length
  have hstep : W.foldl st7 0 = r8 8 ((W.take l.length).foldl st7 0 ^^^ W.getD l.length 0) := by
    have e2 := congrArg (List.foldl st7 0) e
    rw [List.foldl_append] at e2
    exact e2
  have h3 : W.foldl st7 0 = 0 ↔ (W.take l.length).foldl st7 0 = W.getD l.length 0 := by
    rw [hstep]
    constructor
    · intro h
      have h2 := r8_ne 8 _ (Nat.xor_lt_two_pow (n := 8) hFl hwl) (xor_even hF hlast) h
      have := congrArg ((W.take l.length).foldl st7 0 ^^^ ·) h2
      simp only [← Nat.xor_assoc, Nat.xor_self, Nat.zero_xor, Nat.xor_zero] at this
      exact this.symm
    · intro h; rw [h, Nat.xor_self]; exact rds_zero 8 18 8
  refine ⟨?_, ?_⟩
  · rw [← hzero, h3]
    unfold sum7
    constructor <;> intro h <;> omega
  · constructor
    · rintro ⟨h1, h2⟩
      rw [e, ← h1]
      have : W.getD l.length 0 = 2 * sum7 l := by omega
      rw [this]
    · intro h
      rw [h]
      simp [List.getD]

end Go.Proofs.Ytogpdmpefdafnaa.Crc
