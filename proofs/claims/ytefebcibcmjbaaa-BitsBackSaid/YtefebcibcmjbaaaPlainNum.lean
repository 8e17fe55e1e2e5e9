/- Plain functions of numbers in bytes and digits (Get, Number): no Go in sight. -/
import Derived.Test.YtefebcibcmjbaaaPlainBits
namespace Go.Proofs.Ytefebcibcmjbaaa.P
set_option linter.unusedVariables false
theorem snoc_ind {α : Type} {m : List α → Prop} (h0 : m []) (h1 : ∀ l a, m l → m (l ++ [a])) (l : List α) : m l := by
  have : ∀ r : List α, m r.reverse := by
    intro r
    induction r with
    | nil => exact h0
    | cons a r ih => rw [List.reverse_cons]; exact h1 _ _ ih
  simpa using this l.reverse
def getN (l : List UInt8) : Nat := l.foldl (fun v b => v * 256 + b.toNat) 0
def getV (l : List UInt8) : Int := if 1 ≤ l.length ∧ l.length ≤ 7 then (getN l : Int) else 0
def getE (l : List UInt8) : Int := if 1 ≤ l.length ∧ l.length ≤ 7 then 0 else 1
theorem getN_snoc (l : List UInt8) (b : UInt8) : getN (l ++ [b]) = getN l * 256 + b.toNat := by simp [getN, List.foldl_append]
theorem getN_lt (l : List UInt8) : getN l < 256 ^ l.length := by
  refine snoc_ind (m := fun l => getN l < 256 ^ l.length) (by simp [getN]) ?_ l
  · intro l b ih
    rw [getN_snoc, List.length_append, List.length_singleton, Nat.pow_succ]
    have := b.toNat_lt
    omega
def digit (b : UInt8) : Bool := decide (48 ≤ b.toNat ∧ b.toNat ≤ 57)
def numN (l : List UInt8) : Nat := l.foldl (fun v b => 10 * v + (b.toNat - 48)) 0
theorem numN_snoc (l : List UInt8) (b : UInt8) : numN (l ++ [b]) = 10 * numN l + (b.toNat - 48) := by simp [numN, List.foldl_append]
theorem numN_lt (l : List UInt8) (h : ∀ b ∈ l, digit b = true) : numN l < 10 ^ l.length := by
  refine snoc_ind (m := fun l => (∀ b ∈ l, digit b = true) → numN l < 10 ^ l.length) (by simp [numN]) ?_ l h
  · intro l b ih h
    rw [numN_snoc, List.length_append, List.length_singleton, Nat.pow_succ]
    have h1 := ih fun x hx => h x (by simp [hx])
    have h2 := h b (by simp)
    simp [digit] at h2
    omega
def numOk (l : List UInt8) : Bool :=
  decide (1 ≤ l.length ∧ l.length ≤ 10 ∧ ¬ (1 < l.length ∧ l.head? = some 48)) && l.all digit && decide (numN l ≤ 2147483647)
def numV (l : List UInt8) : Int := if numOk l = true then (numN l : Int) else 0
def numE (l : List UInt8) : Int := if numOk l = true then 0 else 11
end Go.Proofs.Ytefebcibcmjbaaa.P
