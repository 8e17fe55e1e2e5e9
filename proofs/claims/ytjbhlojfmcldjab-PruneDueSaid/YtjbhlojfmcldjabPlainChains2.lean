/- What may go next, told by two loops: the steps. No Go in sight. -/
import Derived.Test.YtjbhlojfmcldjabPlainChains
namespace Go.Proofs.Ytjbhlojfmcldjab.P
set_option linter.unusedVariables false
/-- Is the leg open, and none before place j of its chain? -/
def mayTo (ds : List Dest) (ls : List Leg) (j : Nat) (d : Dest) (l : Leg) : Bool :=
  l.isOpen && !((List.range j).any fun j => match ds[j]?, ls[j]? with | some e, some x => e.chain == d.chain && x.isOpen | _, _ => false)
theorem mayTo_zero (ds : List Dest) (ls : List Leg) (d : Dest) (l : Leg) : mayTo ds ls 0 d l = l.isOpen := by simp [mayTo]
theorem mayTo_step {ds : List Dest} {ls : List Leg} {j : Nat} {d e : Dest} {l x : Leg} (he : ds[j]? = some e) (hx : ls[j]? = some x) :
    mayTo ds ls (j + 1) d l = (mayTo ds ls j d l && !(e.chain == d.chain && x.isOpen)) := by
  unfold mayTo
  rw [List.range_succ, List.any_append]
  simp only [List.any_cons, List.any_nil, Bool.or_false, he, hx, Bool.not_or, Bool.and_assoc]
theorem goFrom_yes {ds : List Dest} {ls : List Leg} {f k : Nat} {d : Dest} {l : Leg} (hd : ds[k]? = some d) (hl : ls[k]? = some l) (h : mayTo ds ls k d l = true) : goFrom ds ls (f + 1) k = d.name :: goFrom ds ls f (k + 1) := by
  rw [goFrom, hd, hl]
  simp only
  rw [if_pos (show mayAt ds ls k d l = true from h)]
theorem goFrom_no {ds : List Dest} {ls : List Leg} {f k : Nat} {d : Dest} {l : Leg} (hd : ds[k]? = some d) (hl : ls[k]? = some l) (h : mayTo ds ls k d l = false) : goFrom ds ls (f + 1) k = goFrom ds ls f (k + 1) := by
  rw [goFrom, hd, hl]
  simp only
  rw [if_neg (by rw [show mayAt ds ls k d l = false from h]; simp)]
/-- Where no leg before place k is open: nothing may go from there on, where and only where no leg is open. -/
theorem goFrom_empty {ds : List Dest} {ls : List Leg} (hlen : ls.length = ds.length) : ∀ (f k : Nat), k + f = ds.length → (∀ j x, j < k → ls[j]? = some x → x.isOpen = false) → ((goFrom ds ls f k).length == 0) = ((ls.drop k).all fun l => !l.isOpen)
  | 0, k, hk, _ => by
    rw [List.drop_eq_nil_of_le (by omega)]
    rfl
  | f + 1, k, hk, hno => by
    have hkd : k < ds.length := by omega
    have hkl : k < ls.length := by omega
    have hd : ds[k]? = some ds[k] := List.getElem?_eq_getElem hkd
    have hl : ls[k]? = some ls[k] := List.getElem?_eq_getElem hkl
    rw [List.drop_eq_getElem_cons hkl, List.all_cons]
    cases ho : ls[k].isOpen
    · rw [goFrom_no hd hl (by rw [mayTo, ho]; rfl), goFrom_empty hlen f (k + 1) (by omega) fun j x hj hx => by
        rcases Nat.lt_or_ge j k with h1 | h1
        · exact hno j x h1 hx
        · have : j = k := by omega
          subst this
          rw [hl] at hx
          cases hx
          exact ho]
      simp
    · have hm : mayTo ds ls k ds[k] ls[k] = true := by
        rw [mayTo, ho, Bool.true_and, Bool.not_eq_true', List.any_eq_false]
        intro j hj
        have hjk : j < k := List.mem_range.1 hj
        have hjd : j < ds.length := by omega
        have hjl : j < ls.length := by omega
        rw [List.getElem?_eq_getElem hjd, List.getElem?_eq_getElem hjl]
        simp only
        rw [hno j _ hjk (List.getElem?_eq_getElem hjl)]
        simp
      rw [goFrom_yes hd hl hm]
      simp
theorem goFrom_le (ds : List Dest) (ls : List Leg) : ∀ f k, (goFrom ds ls f k).length ≤ f
  | 0, k => by simp [goFrom]
  | f + 1, k => by
    have := goFrom_le ds ls f (k + 1)
    rw [goFrom]
    split
    · split
      · simp; omega
      · omega
    · simp
theorem next_end {ds : List Dest} {ls : List Leg} (h : Lined ds ls) : ((next 3 ds ls).length == 0) = terminal 3 ls := by
  rw [next, if_pos rfl, nextGo_lined h, goFrom_empty h.len _ 0 (by omega) fun j x hj => by omega]
  simp [terminal]
theorem next_lined {ds : List Dest} {ls : List Leg} (h : Lined ds ls) : next 3 ds ls = goFrom ds ls ds.length 0 := by
  rw [next, if_pos rfl, nextGo_lined h]
end Go.Proofs.Ytjbhlojfmcldjab.P
