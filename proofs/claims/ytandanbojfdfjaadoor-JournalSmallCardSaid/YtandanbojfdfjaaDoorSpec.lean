namespace Go.Proofs.YtandanbojfdfjaaDoor

/-! The journal in plain Lean: bytes are UInt8, strings lists of them -/

abbrev Bs := List UInt8

def stp (x : Nat) (c : UInt8) : Nat := (31 * x + c.toNat) % 9973
def fol (x : Nat) (l : Bs) : Nat := l.foldl stp x
def chk (x : Nat) (l : Bs) : Nat := (31 * fol x l + l.length) % 9973
theorem stp_lt (x : Nat) (c : UInt8) : stp x c < 9973 := Nat.mod_lt _ (by omega)
theorem chk_lt (x : Nat) (l : Bs) : chk x l < 9973 := Nat.mod_lt _ (by omega)
theorem fol_snoc (x : Nat) (l : Bs) (c : UInt8) : fol x (l ++ [c]) = stp (fol x l) c := by simp [fol]
theorem fol_lt {x : Nat} (h : x < 9973) : ∀ l : Bs, fol x l < 9973 := by
  intro l
  rcases List.eq_nil_or_concat l with rfl | ⟨q, c, rfl⟩
  · exact h
  · rw [List.concat_eq_append, fol_snoc]; exact stp_lt _ _

/-- a byte that may stand in a record -/
def okc (c : UInt8) : Bool := decide (32 ≤ c.toNat) && decide (c.toNat ≤ 126)
def recB (l : Bs) : Bool := decide (l.length ≤ 200) && l.all okc

/-- four digits -/
def dig (n : Nat) : UInt8 := UInt8.ofNat (48 + n % 10)
def four (n : Nat) : Bs := [dig (n / 1000), dig (n / 100), dig (n / 10), dig n]
def lin (x : Nat) (l : Bs) : Bs := four (chk x l) ++ [32] ++ l ++ [10]
theorem lin_len (x : Nat) (l : Bs) : (lin x l).length = l.length + 6 := by simp [lin, four]
end Go.Proofs.YtandanbojfdfjaaDoor
