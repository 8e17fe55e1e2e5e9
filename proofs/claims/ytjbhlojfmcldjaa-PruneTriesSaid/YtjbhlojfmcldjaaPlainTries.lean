/- A leg that is tried again and again: what it is behind so many tries. No Go in sight. -/
import Derived.Test.YtjbhlojfmcldjaaMov
namespace Go.Proofs.Ytjbhlojfmcldjaa.P
set_option linter.unusedVariables false
def tN : ByteArray := ⟨#[100]⟩
def tP : ByteArray := ⟨#[112]⟩
def tX : ByteArray := ⟨#[120]⟩
def tryDest (retry backoff : Int) : Dest := ⟨tN, 1, false, 0, ⟨#[]⟩, retry, backoff, 0, ⟨#[]⟩⟩
def tryLeg (retry backoff : Int) (i : Nat) : Leg :=
  if i = 0 then ⟨tN, 1, 0, 0, tP, ⟨#[]⟩⟩ else if retry = 0 ∨ (i : Int) ≤ retry then ⟨tN, 2, i, dueAt 100 backoff i, tP, tX⟩ else ⟨tN, 4, retry + 1, 0, tP, tX⟩
def tryDone (retry : Int) (i : Nat) : Int := if retry ≠ 0 ∧ retry < i then 100 else -1
theorem clip_x : clip tX = tX := by rfl
theorem add_small {a : Int} (h0 : 0 ≤ a) (h1 : a ≤ 1000) : add a 1 = a + 1 := by
  unfold add
  rw [if_neg (by omega)]
  omega
theorem next_one {d : Dest} {l : Leg} (h : l.name = d.name) : next 3 [d] [l] = if l.isOpen = true then [d.name] else [] := by
  have ha : legAt [l] d.name = some 0 := by
    unfold legAt
    rw [← h]
    simp [List.findIdx?_cons]
  rw [next, if_pos rfl, nextGo, ha]
  simp [nextGo]
theorem destAt_one (d : Dest) : destAt [d] d.name = some 0 := by
  unfold destAt
  simp [List.findIdx?_cons]
theorem failed_one (d : Dest) (l : Leg) : failed [d] d [l] = [l] := by
  simp [failed, failStep, failLegs]
theorem hasS_one (s : ByteArray) : hasS [s] s = true := by simp [hasS]
theorem moved_closed {F : List Leg → Nat → Leg → Dest → List Leg} {d : Dest} {l : Leg} {reply : ByteArray} {dn now : Int} {ls' : List Leg} (h : l.name = d.name) (ho : l.isOpen = false) :
    movedTo F 3 [d] [l] d.name reply = [l] ∧ doneOf 3 [d] [l] ls' d.name dn now = dn := by
  have hh : hasS (next 3 [d] [l]) d.name = false := by rw [next_one h, ho]; rfl
  exact ⟨movedTo_no hh, by unfold doneOf; rw [hh]; rfl⟩
theorem moved_open {F : List Leg → Nat → Leg → Dest → List Leg} {d : Dest} {l : Leg} {reply : ByteArray} {dn now : Int} {ls' : List Leg} (h : l.name = d.name) (ho : l.isOpen = true) :
    movedTo F 3 [d] [l] d.name reply = F [touch l reply] 0 (touch l reply) d ∧ doneOf 3 [d] [l] ls' d.name dn now = if terminal 3 ls' = true ∧ dn = -1 then now else dn := by
  have hh : hasS (next 3 [d] [l]) d.name = true := by rw [next_one h, if_pos ho]; exact hasS_one _
  have ha : legAt [l] d.name = some 0 := by
    unfold legAt
    rw [← h]
    simp [List.findIdx?_cons]
  exact ⟨movedTo_yes hh ha rfl (destAt_one d) rfl, by unfold doneOf; rw [if_pos hh]⟩
theorem tryLeg_name (retry backoff : Int) (i : Nat) : (tryLeg retry backoff i).name = tN := by
  unfold tryLeg
  split
  · rfl
  · split <;> rfl
/-- One try more. -/
theorem try_step (retry backoff : Int) (i : Nat) (h0 : 0 ≤ retry) (h1 : retry ≤ 30) (hi : i ≤ 60) :
    movedTo (triedTurn 100 [tryDest retry backoff]) 3 [tryDest retry backoff] [tryLeg retry backoff i] tN tX = [tryLeg retry backoff (i + 1)] ∧
    doneOf 3 [tryDest retry backoff] [tryLeg retry backoff i] [tryLeg retry backoff (i + 1)] tN (tryDone retry i) 100 = tryDone retry (i + 1) := by
  have hn : (tryLeg retry backoff i).name = (tryDest retry backoff).name := tryLeg_name _ _ _
  by_cases hc : retry ≠ 0 ∧ retry < (i : Int)
  · have hl : tryLeg retry backoff i = ⟨tN, 4, retry + 1, 0, tP, tX⟩ := by
      unfold tryLeg
      rw [if_neg (by omega), if_neg (by omega)]
    have hl2 : tryLeg retry backoff (i + 1) = ⟨tN, 4, retry + 1, 0, tP, tX⟩ := by
      unfold tryLeg
      rw [if_neg (by omega), if_neg (by omega)]
    have ho : (tryLeg retry backoff i).isOpen = false := by rw [hl]; rfl
    obtain ⟨e1, e2⟩ := moved_closed (F := triedTurn 100 [tryDest retry backoff]) (reply := tX) (dn := tryDone retry i) (now := 100) (ls' := [tryLeg retry backoff (i + 1)]) hn ho
    refine ⟨e1.trans (by rw [hl, hl2]), e2.trans ?_⟩
    unfold tryDone
    rw [if_pos hc, if_pos (by omega)]
  · have ho : (tryLeg retry backoff i).isOpen = true := by
      unfold tryLeg
      split
      · rfl
      · rw [if_pos (by omega)]; rfl
    have ht : add (tryLeg retry backoff i).tries 1 = (i : Int) + 1 := by
      have : (tryLeg retry backoff i).tries = i := by
        unfold tryLeg
        split
        · simp; omega
        · rw [if_pos (by omega)]
      rw [this]
      exact add_small (by omega) (by omega)
    have htc : touch (tryLeg retry backoff i) tX = { tryLeg retry backoff i with tries := (i : Int) + 1, reply := tX } := by
      unfold touch
      rw [ht, clip_x]
    have hp : (tryLeg retry backoff i).payload = tP := by
      unfold tryLeg
      split
      · rfl
      · split <;> rfl
    obtain ⟨e1, e2⟩ := moved_open (F := triedTurn 100 [tryDest retry backoff]) (reply := tX) (dn := tryDone retry i) (now := 100) (ls' := [tryLeg retry backoff (i + 1)]) hn ho
    rw [htc] at e1
    have hd0 : tryDone retry i = -1 := by unfold tryDone; rw [if_neg hc]
    by_cases hf : retry ≠ 0 ∧ retry < (i : Int) + 1
    · have hl2 : tryLeg retry backoff (i + 1) = ⟨tN, 4, retry + 1, 0, tP, tX⟩ := by
        unfold tryLeg
        rw [if_neg (by omega), if_neg (by omega)]
      refine ⟨e1.trans ?_, e2.trans ?_⟩
      · unfold triedTurn
        rw [if_pos (show (tryDest retry backoff).retry ≠ 0 ∧ (tryDest retry backoff).retry < (i : Int) + 1 from hf)]
        rw [List.set_cons_zero, failed_one, hl2]
        simp only [tryLeg_name, hp]
        have : (i : Int) = retry := by omega
        rw [this]
      · rw [hl2, hd0, if_pos ⟨rfl, rfl⟩]
        unfold tryDone
        rw [if_pos ⟨hf.1, by have := hf.2; omega⟩]
    · have hl2 : tryLeg retry backoff (i + 1) = ⟨tN, 2, (i : Int) + 1, dueAt 100 backoff ((i : Int) + 1), tP, tX⟩ := by
        unfold tryLeg
        rw [if_neg (by omega), if_pos (by omega)]
        simp
      refine ⟨e1.trans ?_, e2.trans ?_⟩
      · unfold triedTurn
        rw [if_neg (show ¬ ((tryDest retry backoff).retry ≠ 0 ∧ (tryDest retry backoff).retry < (i : Int) + 1) from hf)]
        rw [List.set_cons_zero, hl2]
        simp only [tryLeg_name, hp]
        rfl
      · rw [hl2, if_neg (by intro h; exact Bool.noConfusion (show false = true from h.1)), hd0]
        unfold tryDone
        rw [if_neg (by omega)]
theorem pow_step (k : Nat) (b : Int) (hb : 0 ≤ b) : b * 2 ^ k ≤ b * 2 ^ (k + 1) := by
  have h : b * 2 ^ (k + 1) = b * 2 ^ k + b * 2 ^ k := by rw [Int.pow_succ, ← Int.mul_assoc]; omega
  have h2 : 0 ≤ b * 2 ^ k := Int.mul_nonneg hb (Int.pow_nonneg (by decide))
  omega
theorem dueAt_grows (backoff : Int) (i : Nat) (h0 : 1 ≤ backoff) (h1 : backoff ≤ 10000) (hi : 1 ≤ i) : dueAt 100 backoff i ≤ dueAt 100 backoff ((i : Int) + 1) ∧ 100 + backoff ≤ dueAt 100 backoff i := by
  have e1 : min (max (100 : Int) 0) 2147483647 = 100 := by omega
  have e2 : min (max backoff 0) 2147483647 = backoff := by omega
  unfold dueAt
  rw [e1, e2]
  have hk : (min (max ((i : Int) + 1) 1 - 1) 6).toNat = (min (max (i : Int) 1 - 1) 6).toNat ∨ (min (max ((i : Int) + 1) 1 - 1) 6).toNat = (min (max (i : Int) 1 - 1) 6).toNat + 1 := by omega
  have hk6 : (min (max (i : Int) 1 - 1) 6).toNat ≤ 6 := by omega
  generalize (min (max (i : Int) 1 - 1) 6).toNat = k at *
  have hb : backoff ≤ backoff * 2 ^ k ∧ backoff * 2 ^ k ≤ 640000 := by
    rcases (by omega : k = 0 ∨ k = 1 ∨ k = 2 ∨ k = 3 ∨ k = 4 ∨ k = 5 ∨ k = 6) with rfl | rfl | rfl | rfl | rfl | rfl | rfl <;> omega
  have hp := pow_step k backoff (by omega)
  rcases hk with h | h
  · rw [h]
    omega
  · rw [h]
    omega
end Go.Proofs.Ytjbhlojfmcldjaa.P
