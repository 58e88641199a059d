/- What a configuration tells (package conf), as plain functions. -/
set_option linter.unusedVariables false
namespace Go.Proofs.Ytngbhhcicakolaa.Conf

def slots (c : Int) : Int := if c = 0 then 1 else if c = 1 then 2 else if c = 2 then 4 else 0
def size (c : Int) : Int := if c = 0 then 2 else if c = 1 then 3 else if c = 2 then 5 else 0

/-- A share: the cells of each class, the quota, the first generation. -/
structure Sh where
  c0 : Int
  c1 : Int
  c2 : Int
  q : Int
  st : Int
  deriving DecidableEq

def fits (c : Int) : Bool := decide (0 ≤ c) && decide (c ≤ 64)
def ok (s : Sh) : Bool := fits s.c0 && fits s.c1 && fits s.c2 && (decide (0 ≤ s.q) && decide (s.q ≤ 65536) && decide (1 ≤ s.st) && decide (s.st < 4294967295))
theorem fits_iff (c : Int) : fits c = true ↔ 0 ≤ c ∧ c ≤ 64 := by unfold fits; simp
theorem ok_iff (s : Sh) : ok s = true ↔ (0 ≤ s.c0 ∧ s.c0 ≤ 64) ∧ (0 ≤ s.c1 ∧ s.c1 ≤ 64) ∧ (0 ≤ s.c2 ∧ s.c2 ≤ 64) ∧ (0 ≤ s.q ∧ s.q ≤ 65536) ∧ 1 ≤ s.st ∧ s.st < 4294967295 := by
  unfold ok fits; simp [and_assoc]

def count (s : Sh) : Int := if ok s = true then s.c0 + s.c1 + s.c2 else 0
/-- The class of a cell, and the place of its header. -/
def find (s : Sh) (i : Int) : Int × Int :=
  if ok s = true ∧ 0 ≤ i then
    if i < s.c0 then (0, i * 2)
    else if i - s.c0 < s.c1 then (1, s.c0 * 2 + (i - s.c0) * 3)
    else if i - s.c0 - s.c1 < s.c2 then (2, s.c0 * 2 + s.c1 * 3 + (i - s.c0 - s.c1) * 5)
    else (-1, -1)
  else (-1, -1)
def words (s : Sh) : Int := if ok s = true then s.c0 * 2 + s.c1 * 3 + s.c2 * 5 else 0

def right (l : List Sh) : Bool := l.all ok && decide (1 ≤ l.length) && decide (l.length ≤ 16)
def base (l : List Sh) (t : Int) : Int := if right l = true ∧ 1 ≤ t ∧ t ≤ l.length then ((l.take (t.toNat - 1)).map words).sum else -1

theorem words_bd (s : Sh) : 0 ≤ words s ∧ words s ≤ 640 := by
  unfold words; split
  · rename_i h; rw [ok_iff] at h; omega
  · omega
theorem count_bd (s : Sh) : 0 ≤ count s ∧ count s ≤ 192 := by
  unfold count; split
  · rename_i h; rw [ok_iff] at h; omega
  · omega

end Go.Proofs.Ytngbhhcicakolaa.Conf
