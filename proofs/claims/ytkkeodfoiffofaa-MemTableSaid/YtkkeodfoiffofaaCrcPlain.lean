

/- Plain law of the CRC-32C register over lists of bytes: linear, injective, told apart by up to four changed bytes. No program in sight. -/
namespace Go.Proofs.Ytkkeodfoiffofaa.CrcP
abbrev W := BitVec 32
def byte (x : UInt8) : W := BitVec.ofNat 32 x.toNat
def bit1 (c : W) : W := if c.getLsbD 0 then (c >>> 1) ^^^ 0x82F63B78#32 else c >>> 1
def step8 (c : W) : W := bit1 (bit1 (bit1 (bit1 (bit1 (bit1 (bit1 (bit1 c)))))))
def reg (c : W) (l : List UInt8) : W := l.foldl (fun c x => step8 (c ^^^ byte x)) c
def more (s : W) (l : List UInt8) : W := ~~~ (reg (~~~ s) l)
def sum (l : List UInt8) : W := more 0 l
def nth (x : UInt8) (k : Nat) : W := BitVec.ofNat 32 (x.toNat / 2 ^ k % 2)
def rbit (c b : W) : W := if (c ^^^ b).getLsbD 0 then (c >>> 1) ^^^ 0x82F63B78#32 else c >>> 1
def rbits (c : W) (x : UInt8) : Nat → W
  | 0 => c
  | k + 1 => rbit (rbits c x k) (nth x k)
def rreg (c : W) (l : List UInt8) : W := l.foldl (fun c x => rbits c x 8) c
theorem bit1_xor (a b : W) : bit1 (a ^^^ b) = bit1 a ^^^ bit1 b := by
  unfold bit1
  simp only [BitVec.getLsbD_xor, BitVec.ushiftRight_xor_distrib]
  have h : (0x82F63B78#32 : W) ^^^ 0x82F63B78#32 = 0#32 := by decide
  cases a.getLsbD 0 <;> cases b.getLsbD 0 <;> simp
  · ac_rfl
  · ac_rfl
  · rw [show a >>> 1 ^^^ 2197175160#32 ^^^ (b >>> 1 ^^^ 2197175160#32) = a >>> 1 ^^^ b >>> 1 ^^^ (2197175160#32 ^^^ 2197175160#32) from by ac_rfl, h]
    simp
theorem bit1_zero : bit1 0#32 = 0#32 := by decide
theorem bit1_eq_zero (c : W) (h : bit1 c = 0#32) : c = 0#32 := by
  unfold bit1 at h
  by_cases h0 : c.getLsbD 0 = true
  · rw [if_pos h0] at h
    have := congrArg (fun z => BitVec.getLsbD z 31) h
    simp at this
  · rw [if_neg h0] at h
    apply BitVec.eq_of_getLsbD_eq
    intro i hi
    by_cases hz : i = 0
    · subst hz; simpa using h0
    · have := congrArg (fun z => BitVec.getLsbD z (i - 1)) h
      simp at this
      simpa [show 1 + (i - 1) = i from by omega] using this
theorem step8_xor (a b : W) : step8 (a ^^^ b) = step8 a ^^^ step8 b := by
  unfold step8; simp only [bit1_xor]
theorem step8_zero : step8 0#32 = 0#32 := by decide
theorem step8_eq_zero (c : W) (h : step8 c = 0#32) : c = 0#32 := by
  unfold step8 at h
  iterate 8 replace h := bit1_eq_zero _ h
  exact h
theorem rbit_eq (c b : W) (h : b = 0#32 ∨ b = 1#32) : rbit c b = bit1 (c ^^^ b) := by
  unfold rbit bit1
  rw [BitVec.ushiftRight_xor_distrib]
  rcases h with rfl | rfl <;> simp
theorem nth_two (x : UInt8) (k : Nat) : nth x k = 0#32 ∨ nth x k = 1#32 := by
  unfold nth
  rcases Nat.mod_two_eq_zero_or_one (x.toNat / 2 ^ k) with h | h <;> rw [h] <;> simp
theorem rbits_key : ∀ x : Fin 256, bit1 (bit1 (bit1 (bit1 (bit1 (bit1 (bit1 (bit1 (BitVec.ofNat 32 (x.val / 1 % 2)) ^^^ BitVec.ofNat 32 (x.val / 2 % 2)) ^^^ BitVec.ofNat 32 (x.val / 4 % 2)) ^^^ BitVec.ofNat 32 (x.val / 8 % 2)) ^^^ BitVec.ofNat 32 (x.val / 16 % 2)) ^^^ BitVec.ofNat 32 (x.val / 32 % 2)) ^^^ BitVec.ofNat 32 (x.val / 64 % 2)) ^^^ BitVec.ofNat 32 (x.val / 128 % 2)) = step8 (BitVec.ofNat 32 x.val) := by decide +kernel
theorem rbits_eq (c : W) (x : UInt8) : rbits c x 8 = step8 (c ^^^ byte x) := by
  simp only [rbits, rbit_eq _ _ (nth_two _ _)]
  have h := rbits_key ⟨x.toNat, x.toNat_lt⟩
  simp only [bit1_xor] at h
  rw [step8_xor]
  unfold byte
  rw [← h]
  simp only [bit1_xor, nth, step8]
  ac_rfl
theorem rreg_eq (c : W) (l : List UInt8) : rreg c l = reg c l := by
  unfold rreg reg
  congr 1
  funext c x
  exact rbits_eq c x
theorem reg_append (c : W) (l m : List UInt8) : reg c (l ++ m) = reg (reg c l) m := by simp [reg]
theorem more_append (s : W) (l m : List UInt8) : more s (l ++ m) = more (more s l) m := by
  simp [more, reg_append]
theorem more_nil (s : W) : more s [] = s := by simp [more, reg]
theorem sum_append (l m : List UInt8) : sum (l ++ m) = more (sum l) m := more_append 0 l m
theorem byte_xor (a b : UInt8) : byte (a ^^^ b) = byte a ^^^ byte b := by
  unfold byte
  rw [UInt8.toNat_xor]
  apply BitVec.eq_of_toNat_eq
  have ha := a.toNat_lt
  have hb := b.toNat_lt
  have hx := Nat.xor_lt_two_pow (n := 8) (x := a.toNat) (y := b.toNat) (by omega) (by omega)
  simp only [BitVec.toNat_ofNat, BitVec.toNat_xor]
  rw [Nat.mod_eq_of_lt (show a.toNat < 2 ^ 32 by omega), Nat.mod_eq_of_lt (show b.toNat < 2 ^ 32 by omega)]
  exact Nat.mod_eq_of_lt (by omega)
/-- three lists of one length -/
theorem reg_xor3 : ∀ (a b c : List UInt8) (p q r : W), a.length = b.length → a.length = c.length →
    reg (p ^^^ q ^^^ r) (List.zipWith (· ^^^ ·) (List.zipWith (· ^^^ ·) a b) c) = reg p a ^^^ reg q b ^^^ reg r c
  | [], [], [], _, _, _, _, _ => by simp [reg]
  | x :: a, y :: b, z :: c, p, q, r, h1, h2 => by
    simp only [List.length_cons, Nat.add_right_cancel_iff] at h1 h2
    have := reg_xor3 a b c (step8 (p ^^^ byte x)) (step8 (q ^^^ byte y)) (step8 (r ^^^ byte z)) h1 h2
    simp only [List.zipWith_cons_cons, reg, List.foldl_cons] at this ⊢
    rw [← this]
    congr 1
    simp only [byte_xor, step8_xor]
    ac_rfl
theorem sum_xor3 (a b c : List UInt8) (h1 : a.length = b.length) (h2 : a.length = c.length) :
    sum (List.zipWith (· ^^^ ·) (List.zipWith (· ^^^ ·) a b) c) = sum a ^^^ sum b ^^^ sum c := by
  have h := reg_xor3 a b c (~~~ 0) (~~~ 0) (~~~ 0) h1 h2
  unfold sum more
  rw [show (~~~ (0 : W)) = ~~~ 0 ^^^ ~~~ 0 ^^^ ~~~ 0 from by decide, h]
  simp only [← BitVec.xor_allOnes]
  rw [show ∀ x y z o : W, (x ^^^ o) ^^^ (y ^^^ o) ^^^ (z ^^^ o) = x ^^^ y ^^^ z ^^^ o ^^^ (o ^^^ o) from fun x y z o => by ac_rfl]
  simp
/-! a change within four bytes -/
theorem reg_zeros (n : Nat) : ∀ c : W, reg c (List.replicate n 0) = 0#32 ↔ c = 0#32 := by
  induction n with
  | zero => intro c; simp [reg]
  | succ n ih =>
    intro c
    rw [List.replicate_succ]
    show reg (step8 (c ^^^ byte 0)) (List.replicate n 0) = 0#32 ↔ _
    rw [ih]
    constructor
    · intro h
      have := step8_eq_zero _ h
      simpa [byte] using this
    · rintro rfl
      decide
theorem reg_xor2 : ∀ (a b : List UInt8) (p q : W), a.length = b.length → reg (p ^^^ q) (List.zipWith (· ^^^ ·) a b) = reg p a ^^^ reg q b
  | [], [], _, _, _ => by simp [reg]
  | x :: a, y :: b, p, q, h1 => by
    simp only [List.length_cons, Nat.add_right_cancel_iff] at h1
    have := reg_xor2 a b (step8 (p ^^^ byte x)) (step8 (q ^^^ byte y)) h1
    simp only [List.zipWith_cons_cons, reg, List.foldl_cons] at this ⊢
    rw [← this]
    congr 1
    simp only [byte_xor, step8_xor]
    ac_rfl
theorem more_eq_iff (s : W) (a b : List UInt8) (h : a.length = b.length) : more s a = more s b ↔ reg 0#32 (List.zipWith (· ^^^ ·) a b) = 0#32 := by
  have h2 := reg_xor2 a b (~~~ s) (~~~ s) h
  rw [BitVec.xor_self] at h2
  rw [h2]
  unfold more
  constructor
  · intro e
    rw [BitVec.not_inj.1 e]
    simp
  · intro e
    rw [BitVec.xor_eq_zero_iff.1 e]
theorem shift_key : ∀ x : Fin 256, step8 (BitVec.ofNat 32 (x.val * 256)) = BitVec.ofNat 32 x.val ∧ step8 (BitVec.ofNat 32 (x.val * 65536)) = BitVec.ofNat 32 (x.val * 256) ∧ step8 (BitVec.ofNat 32 (x.val * 16777216)) = BitVec.ofNat 32 (x.val * 65536) := by decide +kernel
theorem four_step (d0 d1 d2 d3 : UInt8) : reg 0#32 [d0, d1, d2, d3] = step8 (step8 (step8 (step8 (byte d0 ^^^ BitVec.ofNat 32 (d1.toNat * 256) ^^^ BitVec.ofNat 32 (d2.toNat * 65536) ^^^ BitVec.ofNat 32 (d3.toNat * 16777216))))) := by
  have k1 := shift_key ⟨d1.toNat, d1.toNat_lt⟩
  have k2 := shift_key ⟨d2.toNat, d2.toNat_lt⟩
  have k3 := shift_key ⟨d3.toNat, d3.toNat_lt⟩
  simp only at k1 k2 k3
  simp only [reg, List.foldl_cons, List.foldl_nil, BitVec.zero_xor]
  simp only [step8_xor, k1.1, k2.1, k2.2.1, k3.1, k3.2.1, k3.2.2, byte]
theorem low8 (x : Nat) (j : Nat) (hj : j % 256 = 0) : (BitVec.ofNat 32 (x * j)).setWidth 8 = 0#8 := by
  apply BitVec.eq_of_toNat_eq
  simp only [BitVec.toNat_setWidth, BitVec.toNat_ofNat]
  obtain ⟨k, rfl⟩ : ∃ k, j = 256 * k := ⟨j / 256, by omega⟩
  rw [show x * (256 * k) = 256 * (x * k) from by ac_rfl]
  generalize x * k = y
  omega
theorem shr8 (x j : Nat) (hx : x < 256) (hj : j = 1 ∨ j = 256 ∨ j = 65536) : (BitVec.ofNat 32 (x * (256 * j))) >>> 8 = BitVec.ofNat 32 (x * j) := by
  apply BitVec.eq_of_toNat_eq
  simp only [BitVec.toNat_ushiftRight, BitVec.toNat_ofNat, Nat.shiftRight_eq_div_pow]
  rcases hj with rfl | rfl | rfl <;> omega
theorem byte_low (d : UInt8) (h : (byte d).setWidth 8 = 0#8) : d = 0 := by
  have := congrArg BitVec.toNat h
  have hd := d.toNat_lt
  simp only [byte, BitVec.toNat_setWidth, BitVec.toNat_ofNat] at this
  apply UInt8.toNat_inj.1
  show d.toNat = 0
  omega
theorem four_zero (d0 d1 d2 d3 : UInt8) : reg 0#32 [d0, d1, d2, d3] = 0#32 ↔ (d0 = 0 ∧ d1 = 0 ∧ d2 = 0 ∧ d3 = 0) := by
  rw [four_step]
  constructor
  · intro h
    iterate 4 replace h := step8_eq_zero _ h
    have h0 : d0 = 0 := by
      have := congrArg (fun z => BitVec.setWidth 8 z) h
      simp only [BitVec.setWidth_xor, low8 d1.toNat 256 rfl, low8 d2.toNat 65536 rfl, low8 d3.toNat 16777216 rfl] at this
      exact byte_low d0 (by simpa using this)
    subst h0
    rw [show byte 0 = 0#32 from rfl, BitVec.zero_xor] at h
    replace h := congrArg (fun z : W => z >>> 8) h
    simp only [BitVec.ushiftRight_xor_distrib] at h
    rw [show (256 : Nat) = 256 * 1 from rfl, shr8 _ 1 d1.toNat_lt (.inl rfl), show (65536 : Nat) = 256 * 256 from rfl, shr8 _ 256 d2.toNat_lt (.inr (.inl rfl)), show (16777216 : Nat) = 256 * 65536 from rfl, shr8 _ 65536 d3.toNat_lt (.inr (.inr rfl))] at h
    have h1 : d1 = 0 := by
      have := congrArg (fun z => BitVec.setWidth 8 z) h
      simp only [BitVec.setWidth_xor, low8 d2.toNat 256 rfl, low8 d3.toNat 65536 rfl] at this
      exact byte_low d1 (by simpa [byte] using this)
    subst h1
    rw [show BitVec.ofNat 32 ((0 : UInt8).toNat * 1) = 0#32 from rfl, BitVec.zero_xor] at h
    replace h := congrArg (fun z : W => z >>> 8) h
    simp only [BitVec.ushiftRight_xor_distrib] at h
    rw [show (256 : Nat) = 256 * 1 from rfl, shr8 _ 1 d2.toNat_lt (.inl rfl), show (65536 : Nat) = 256 * 256 from rfl, shr8 _ 256 d3.toNat_lt (.inr (.inl rfl))] at h
    have h2 : d2 = 0 := by
      have := congrArg (fun z => BitVec.setWidth 8 z) h
      simp only [BitVec.setWidth_xor, low8 d3.toNat 256 rfl] at this
      exact byte_low d2 (by simpa [byte] using this)
    subst h2
    rw [show BitVec.ofNat 32 ((0 : UInt8).toNat * 1) = 0#32 from rfl, BitVec.zero_xor] at h
    replace h := congrArg (fun z : W => z >>> 8) h
    rw [show (256 : Nat) = 256 * 1 from rfl, shr8 _ 1 d3.toNat_lt (.inl rfl)] at h
    have h3 : d3 = 0 := by
      have := congrArg (fun z => BitVec.setWidth 8 z) h
      exact byte_low d3 (by simpa [byte] using this)
    exact ⟨rfl, rfl, rfl, h3⟩
  · rintro ⟨rfl, rfl, rfl, rfl⟩; decide +kernel
/-- bytes 'a' that are 'b' but for four, one behind the other -/
theorem tells (s : W) (p q : List UInt8) (b0 b1 b2 b3 d0 d1 d2 d3 : UInt8) :
    more s (p ++ [b0 ^^^ d0, b1 ^^^ d1, b2 ^^^ d2, b3 ^^^ d3] ++ q) = more s (p ++ [b0, b1, b2, b3] ++ q) ↔ (d0 = 0 ∧ d1 = 0 ∧ d2 = 0 ∧ d3 = 0) := by
  rw [more_eq_iff _ _ _ (by simp)]
  have hz : ∀ l : List UInt8, List.zipWith (· ^^^ ·) l l = List.replicate l.length 0 := by
    intro l
    induction l with
    | nil => rfl
    | cons x l ih => rw [List.zipWith_cons_cons, ih, List.length_cons, List.replicate_succ]; simp
  have hx : ∀ x y : UInt8, x ^^^ y ^^^ x = y := fun x y => by rw [UInt8.xor_comm x y, UInt8.xor_assoc]; simp
  rw [List.zipWith_append (by simp), List.zipWith_append (by simp), hz, hz]
  simp only [List.zipWith_cons_cons, List.zipWith_nil_left, hx]
  rw [reg_append, reg_append, (reg_zeros _ _).2 rfl, reg_zeros, four_zero]
end Go.Proofs.Ytkkeodfoiffofaa.CrcP
