/- What may go next, told by two loops. No Go in sight. -/
import Derived.Test.YtjbhlojfmcldjabPlainPrune
namespace Go.Proofs.Ytjbhlojfmcldjab.P
set_option linter.unusedVariables false
/-- Is the leg at place i open, and none before it of its chain? -/
def mayAt (ds : List Dest) (ls : List Leg) (k : Nat) (d : Dest) (l : Leg) : Bool :=
  l.isOpen && !((List.range k).any fun j => match ds[j]?, ls[j]? with | some e, some x => e.chain == d.chain && x.isOpen | _, _ => false)
/-- What may go, from place k on. -/
def goFrom (ds : List Dest) (ls : List Leg) : Nat → Nat → List ByteArray
  | 0, k => []
  | f + 1, k => match ds[k]?, ls[k]? with
    | some d, some l => if mayAt ds ls k d l then d.name :: goFrom ds ls f (k + 1) else goFrom ds ls f (k + 1)
    | _, _ => []
/-- Each leg bears the name of the destination of its place, and the names are all different. -/
structure Lined (ds : List Dest) (ls : List Leg) : Prop where
  len : ls.length = ds.length
  same : ∀ (i : Nat) (d : Dest) (l : Leg), ds[i]? = some d → ls[i]? = some l → l.name.data.toList = d.name.data.toList
  apart : ∀ (i j : Nat) (d e : Dest), i < j → ds[i]? = some d → ds[j]? = some e → d.name.data.toList ≠ e.name.data.toList
theorem Lined.at_ {ds : List Dest} {ls : List Leg} (h : Lined ds ls) {k : Nat} {d : Dest} (hd : ds[k]? = some d) : ∃ l, ls[k]? = some l ∧ legAt ls d.name = some k := by
  have hk : k < ds.length := by
    rcases Nat.lt_or_ge k ds.length with h1 | h1
    · exact h1
    · rw [List.getElem?_eq_none h1] at hd; cases hd
  have hkl : k < ls.length := by rw [h.len]; exact hk
  refine ⟨ls[k], List.getElem?_eq_getElem hkl, ?_⟩
  unfold legAt
  rw [List.findIdx?_eq_some_iff_getElem]
  refine ⟨hkl, ?_, fun j hj => ?_⟩
  · have := h.same k d _ hd (List.getElem?_eq_getElem hkl)
    simpa using this
  · have hjd : j < ds.length := by omega
    have h1 := h.same j _ _ (List.getElem?_eq_getElem hjd) (List.getElem?_eq_getElem (by omega : j < ls.length))
    have h2 := h.apart j k _ _ hj (List.getElem?_eq_getElem hjd) hd
    simp only [Bool.not_eq_true, beq_eq_false_iff_ne]
    rw [h1]
    exact h2
/-- The chains that have an open leg before place k. -/
def Busy (ds : List Dest) (ls : List Leg) (k : Nat) (busy : List Int) : Prop :=
  ∀ c, busy.contains c = (List.range k).any fun j => match ds[j]?, ls[j]? with | some e, some x => e.chain == c && x.isOpen | _, _ => false
theorem nextGo_from {ds : List Dest} {ls : List Leg} (h : Lined ds ls) : ∀ (f k : Nat) (busy : List Int), k + f = ds.length → Busy ds ls k busy → nextGo ls (ds.drop k) busy = goFrom ds ls f k
  | 0, k, busy, hk, hb => by
    rw [List.drop_eq_nil_of_le (by omega)]
    rfl
  | f + 1, k, busy, hk, hb => by
    have hkd : k < ds.length := by omega
    have hd : ds[k]? = some ds[k] := List.getElem?_eq_getElem hkd
    obtain ⟨l, hl, ha⟩ := h.at_ hd
    rw [List.drop_eq_getElem_cons hkd, nextGo, goFrom, ha, hd]
    simp only [hl]
    have hbc := hb ds[k].chain
    by_cases ho : l.isOpen = true
    · have hb' : Busy ds ls (k + 1) (ds[k].chain :: busy) := fun c => by
        rw [List.range_succ, List.any_append, ← hb c]
        simp only [List.any_cons, List.any_nil, Bool.or_false, hd, hl, ho, Bool.and_true, List.contains_cons]
        rw [Bool.or_comm]
        congr 1
        exact Bool.beq_comm
      rw [if_pos ho, nextGo_from h f (k + 1) _ (by omega) hb']
      unfold mayAt
      rw [← hbc, ho]
      cases busy.contains ds[k].chain <;> simp
    · have hf : l.isOpen = false := by simpa using ho
      have hb' : Busy ds ls (k + 1) busy := fun c => by
        rw [List.range_succ, List.any_append, ← hb c]
        simp [hd, hl, hf]
      rw [if_neg ho, nextGo_from h f (k + 1) _ (by omega) hb']
      unfold mayAt
      rw [hf]
      simp
theorem nextGo_lined {ds : List Dest} {ls : List Leg} (h : Lined ds ls) : nextGo ls ds [] = goFrom ds ls ds.length 0 := by
  have := nextGo_from h ds.length 0 [] (by omega) (fun c => by simp)
  simpa using this
end Go.Proofs.Ytjbhlojfmcldjab.P
