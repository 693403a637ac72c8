/- Plain mathematics of chapters 1 and 6: numbers in bytes, the CRC. Nothing of Go. -/
namespace Go.Proofs.Ytleicgigkbfnbaa.P

theorem snocInd {α : Type} {motive : List α → Prop} (l : List α) (nil : motive []) (snoc : ∀ l c, motive l → motive (l ++ [c])) : motive l := by
  have h : ∀ n (l : List α), l.length = n → motive l := by
    intro n
    induction n with
    | zero => intro l hl; rw [List.eq_nil_of_length_eq_zero hl]; exact nil
    | succ n ih =>
      intro l hl
      have hne : l ≠ [] := by intro e; subst e; simp at hl
      have e := List.dropLast_concat_getLast hne
      rw [← e]
      exact snoc _ _ (ih _ (by simp [hl]))
  exact h _ l rfl

/-- The number that bytes are, the first one the greatest. -/
def num (l : List UInt8) : Nat := l.foldl (fun x c => x * 256 + c.toNat) 0

theorem num_nil : num [] = 0 := rfl
theorem num_snoc (l : List UInt8) (c : UInt8) : num (l ++ [c]) = num l * 256 + c.toNat := by simp [num]
theorem num_lt (l : List UInt8) : num l < 256 ^ l.length := by
  induction l using snocInd with
  | nil => simp [num]
  | snoc l c ih =>
    rw [num_snoc, List.length_append, List.length_singleton, Nat.pow_succ]
    have := c.toNat_lt
    omega

/-- Do n bytes lie wholly in len bytes from at on? -/
def lies (len : Nat) (at_ n : Int) : Bool := decide (1 ≤ n ∧ n ≤ 8 ∧ 0 ≤ at_ ∧ at_ + n ≤ len)

def slice (b : List UInt8) (at_ n : Nat) : List UInt8 := (b.drop at_).take n

/-- The number that stands there. -/
def get (b : List UInt8) (at_ n : Int) : Int × Bool :=
  if lies b.length at_ n then
    let x := num (slice b at_.toNat n.toNat)
    if 4611686018427387904 < x then (0, false) else ((x : Int), true)
  else (0, false)

/-- x in n bytes. -/
def be : Nat → Nat → List UInt8
  | 0, _ => []
  | n + 1, x => be n (x / 256) ++ [UInt8.ofNat (x % 256)]
theorem be_length (n x : Nat) : (be n x).length = n := by
  induction n generalizing x with
  | zero => rfl
  | succ n ih => simp [be, ih]
theorem num_be (n x : Nat) (h : x < 256 ^ n) : num (be n x) = x := by
  induction n generalizing x with
  | zero => simp at h; subst h; rfl
  | succ n ih =>
    rw [be, num_snoc, ih (x / 256) (by rw [Nat.pow_succ] at h; omega)]
    have : (UInt8.ofNat (x % 256)).toNat = x % 256 := by simp
    omega
theorem be_num (l : List UInt8) : be l.length (num l) = l := by
  induction l using snocInd with
  | nil => rfl
  | snoc l c ih =>
    have hc := c.toNat_lt
    rw [List.length_append, List.length_singleton, be, num_snoc]
    have h1 : (num l * 256 + c.toNat) / 256 = num l := by omega
    have h2 : (num l * 256 + c.toNat) % 256 = c.toNat := by omega
    rw [h1, h2, ih]
    simp

/-- b with x in n bytes from at on. -/
def put (b : List UInt8) (at_ n x : Int) : Option (List UInt8) :=
  if lies b.length at_ n ∧ 0 ≤ x ∧ x ≤ 4611686018427387904 ∧ x < 256 ^ n.toNat then
    some (b.take at_.toNat ++ be n.toNat x.toNat ++ b.drop (at_.toNat + n.toNat)) else none

theorem put_length (b k : List UInt8) (at_ n x : Int) (h : put b at_ n x = some k) : k.length = b.length := by
  unfold put at h
  split at h
  · rename_i hc
    obtain ⟨hb, _⟩ := hc
    have hs : 1 ≤ n ∧ n ≤ 8 ∧ 0 ≤ at_ ∧ at_ + n ≤ b.length := by simpa [lies] using hb
    rw [← Option.some.inj h]
    simp [be_length]
    omega
  · cases h
theorem get_put (b k : List UInt8) (at_ n x : Int) (h : put b at_ n x = some k) : get k at_ n = (x, true) := by
  have hlen := put_length b k at_ n x h
  unfold put at h
  split at h
  · rename_i hc
    obtain ⟨hb, h0, h1, h2⟩ := hc
    have hs : 1 ≤ n ∧ n ≤ 8 ∧ 0 ≤ at_ ∧ at_ + n ≤ b.length := by simpa [lies] using hb
    have hk := Option.some.inj h
    have hsl : slice k at_.toNat n.toNat = be n.toNat x.toNat := by
      rw [← hk]
      unfold slice
      have hl : (b.take at_.toNat).length = at_.toNat := by simp; omega
      rw [List.append_assoc, List.drop_append_of_le_length (by omega), List.drop_eq_nil_of_le (by omega), List.nil_append, List.take_append_of_le_length (by rw [be_length]; omega),
        List.take_of_length_le (by rw [be_length]; omega)]
    unfold get
    rw [hlen, if_pos hb, hsl, num_be _ _ (by
      have : ((x.toNat : Nat) : Int) < ((256 ^ n.toNat : Nat) : Int) := by
        rw [Int.toNat_of_nonneg h0]
        simpa using h2
      exact_mod_cast this)]
    simp only
    rw [if_neg (by omega), Int.toNat_of_nonneg h0]
  · cases h

/-! ### The CRC -/
def crcBit (x : Nat) : Nat := if x % 2 = 1 then x / 2 ^^^ 3988292384 else x / 2
def crcBits : Nat → Nat → Nat
  | 0, x => x
  | k + 1, x => crcBits k (crcBit x)
theorem crcBits_succ (k x : Nat) : crcBits (k + 1) x = crcBit (crcBits k x) := by
  induction k generalizing x with
  | zero => rfl
  | succ k ih => rw [crcBits, ih]; rfl
def crcByte (x : Nat) (c : UInt8) : Nat := crcBits 8 (x ^^^ c.toNat)
def crcFrom (x : Nat) (l : List UInt8) : Nat := l.foldl crcByte x
def crc (l : List UInt8) : Nat := crcFrom 4294967295 l ^^^ 4294967295

theorem crcFrom_snoc (x : Nat) (l : List UInt8) (c : UInt8) : crcFrom x (l ++ [c]) = crcByte (crcFrom x l) c := by simp [crcFrom]

theorem crcBit_lt (x : Nat) (h : x < 4294967296) : crcBit x < 4294967296 := by
  unfold crcBit
  split
  · exact Nat.xor_lt_two_pow (n := 32) (by omega) (by omega)
  · omega
theorem crcBits_lt (k x : Nat) (h : x < 4294967296) : crcBits k x < 4294967296 := by
  induction k generalizing x with
  | zero => exact h
  | succ k ih => exact ih _ (crcBit_lt x h)
theorem crcByte_lt (x : Nat) (c : UInt8) (h : x < 4294967296) : crcByte x c < 4294967296 :=
  crcBits_lt _ _ (Nat.xor_lt_two_pow (n := 32) h (by have := c.toNat_lt; omega))
theorem crcFrom_lt (l : List UInt8) (x : Nat) (h : x < 4294967296) : crcFrom x l < 4294967296 := by
  induction l generalizing x with
  | nil => exact h
  | cons c l ih => exact ih _ (crcByte_lt x c h)
theorem crc_lt (l : List UInt8) : crc l < 4294967296 := Nat.xor_lt_two_pow (n := 32) (crcFrom_lt l _ (by omega)) (by omega)

theorem testBit31 (x : Nat) (h : x < 4294967296) : (x / 2).testBit 31 = false := Nat.testBit_lt_two_pow (by omega)

theorem xor_cancel (a b c : Nat) (h : a ^^^ c = b ^^^ c) : a = b := by
  have h' := congrArg (· ^^^ c) h
  simpa [Nat.xor_assoc] using h'

theorem crcBit_inj (x y : Nat) (hx : x < 4294967296) (hy : y < 4294967296) (h : crcBit x = crcBit y) : x = y := by
  unfold crcBit at h
  have px : (3988292384 : Nat).testBit 31 = true := by decide
  split at h <;> split at h
  · have := xor_cancel _ _ _ h; omega
  · exfalso
    have h' := congrArg (Nat.testBit · 31) h
    simp only [Nat.testBit_xor, testBit31 x hx, testBit31 y hy, px] at h'
    simp at h'
  · exfalso
    have h' := congrArg (Nat.testBit · 31) h
    simp only [Nat.testBit_xor, testBit31 x hx, testBit31 y hy, px] at h'
    simp at h'
  · omega
theorem crcBits_inj (k x y : Nat) (hx : x < 4294967296) (hy : y < 4294967296) (h : crcBits k x = crcBits k y) : x = y := by
  induction k generalizing x y with
  | zero => exact h
  | succ k ih => exact crcBit_inj x y hx hy (ih _ _ (crcBit_lt x hx) (crcBit_lt y hy) h)
theorem crcByte_inj (x y : Nat) (c : UInt8) (hx : x < 4294967296) (hy : y < 4294967296) (h : crcByte x c = crcByte y c) : x = y := by
  have hc := c.toNat_lt
  exact xor_cancel _ _ _ (crcBits_inj 8 _ _ (Nat.xor_lt_two_pow (n := 32) hx (by omega)) (Nat.xor_lt_two_pow (n := 32) hy (by omega)) h)
theorem crcFrom_inj (l : List UInt8) (x y : Nat) (hx : x < 4294967296) (hy : y < 4294967296) (h : crcFrom x l = crcFrom y l) : x = y := by
  induction l generalizing x y with
  | nil => exact h
  | cons c l ih => exact crcByte_inj x y c hx hy (ih _ _ (crcByte_lt x c hx) (crcByte_lt y c hy) h)
theorem crcByte_byte (x : Nat) (c d : UInt8) (hx : x < 4294967296) (h : crcByte x c = crcByte x d) : c = d := by
  have hc := c.toNat_lt
  have hd := d.toNat_lt
  have e := crcBits_inj 8 _ _ (Nat.xor_lt_two_pow (n := 32) hx (by omega)) (Nat.xor_lt_two_pow (n := 32) hx (by omega)) h
  rw [Nat.xor_comm x, Nat.xor_comm x] at e
  exact UInt8.toNat_inj.1 (xor_cancel _ _ _ e)
/-- One byte that is another one turns the sum. -/
theorem crc_set (l : List UInt8) (i : Nat) (c : UInt8) (hi : i < l.length) (hc : c ≠ l[i]) : crc (l.set i c) ≠ crc l := by
  intro h
  have h' := xor_cancel _ _ _ h
  have e1 : l.set i c = l.take i ++ c :: l.drop (i + 1) := List.set_eq_take_append_cons_drop ▸ by simp [hi]
  have e2 : l = l.take i ++ l[i] :: l.drop (i + 1) := by simp
  rw [e1] at h'
  have h2 : crcFrom 4294967295 (l.take i ++ l[i] :: l.drop (i + 1)) = crcFrom 4294967295 l := by rw [← e2]
  rw [← h2] at h'
  simp only [crcFrom, List.foldl_append, List.foldl_cons] at h'
  have b := crcFrom_lt (l.take i) 4294967295 (by omega)
  have h3 := crcFrom_inj _ _ _ (crcByte_lt _ _ b) (crcByte_lt _ _ b) h'
  exact hc (crcByte_byte _ _ _ b h3)
end Go.Proofs.Ytleicgigkbfnbaa.P
