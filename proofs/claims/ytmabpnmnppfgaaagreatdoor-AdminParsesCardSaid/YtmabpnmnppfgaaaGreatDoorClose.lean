/- What a call reaches, told by a list that names each function with what it leads to: one pass over the list shows it. Plain lemmas. -/
import GoSem.ClaimFn
namespace Go.Proofs.YtmabpnmnppfgaaaGreatDoor
open Go
set_option linter.unusedVariables false
def goT : Nat → List (Nat × List Nat) → List Nat → Nat → Bool
  | 0, T, todo, _ => T.isEmpty && todo.isEmpty
  | n + 1, T, [], _ => T.isEmpty
  | n + 1, T, f :: todo, m => if m.testBit f then goT n T todo m else match T with
    | [] => false
    | (g, l) :: T' => g == f && goT n T' (l ++ todo) (m ||| 2 ^ f)
theorem closureVia_nil (P : Program) (N : Nat) (seen : List FuncId) : P.closureVia N [] seen = seen.reverse := by
  cases N <;> rfl
theorem goT_ok (P : Program) : ∀ (n : Nat) (T : List (Nat × List Nat)) (todo : List Nat) (m : Nat) (seen : List Nat), (∀ g, seen.contains g = m.testBit g) →
    (∀ e ∈ T, (P.funcs[e.1]?).elim [] P.leadsTo = e.2) → goT n T todo m = true → ∀ N, n ≤ N → P.closureVia N todo seen = seen.reverse ++ T.map Prod.fst := by
  intro n
  induction n with
  | zero =>
    intro T todo m seen hm hT h N hN
    simp only [goT, Bool.and_eq_true, List.isEmpty_iff] at h
    obtain ⟨rfl, rfl⟩ := h
    rw [closureVia_nil]
    simp
  | succ n ih =>
    intro T todo m seen hm hT h N hN
    obtain ⟨N', rfl⟩ : ∃ k, N = k + 1 := ⟨N - 1, by omega⟩
    cases todo with
    | nil =>
      simp only [goT, List.isEmpty_iff] at h
      subst h
      rw [closureVia_nil]
      simp
    | cons f todo =>
      simp only [goT] at h
      simp only [Program.closureVia, hm f]
      split at h
      · rename_i hb
        rw [if_pos hb]
        exact ih T todo m seen hm hT h N' (by omega)
      · rename_i hb
        rw [if_neg hb]
        cases T with
        | nil => cases h
        | cons e T' =>
          obtain ⟨g, l⟩ := e
          simp only [Bool.and_eq_true, beq_iff_eq] at h
          obtain ⟨rfl, h⟩ := h
          have hl : (P.funcs[g]?).elim [] P.leadsTo = l := hT (g, l) (by simp)
          rw [hl]
          rw [ih T' (l ++ todo) (m ||| 2 ^ g) (g :: seen) (fun x => ?_) (fun e he => hT e (List.mem_cons_of_mem _ he)) h N' (by omega)]
          · simp
          · rw [Nat.testBit_or, ← hm x, List.contains_cons, Nat.testBit_two_pow, Bool.or_comm]
            congr 1
            by_cases hx : x = g
            · subst hx; simp
            · have : ¬ g = x := fun h => hx h.symm
              simp [hx, this]
theorem closure_of (P : Program) (f : FuncId) (T : List (Nat × List Nat)) (n : Nat) (hT : ∀ e ∈ T, (P.funcs[e.1]?).elim [] P.leadsTo = e.2) (h : goT n T [f] 0 = true)
    (hf : n ≤ 1 + (P.funcs.toList.map fun g => (P.leadsTo g).length + 1).sum) : P.closure f = T.map Prod.fst := by
  unfold Program.closure
  rw [goT_ok P n T [f] 0 [] (fun g => by simp) hT h _ hf]
  rfl
theorem all_leads {P : Program} {T : List (Nat × List Nat)} (h : T.all (fun e => (P.funcs[e.1]?).elim [] P.leadsTo == e.2) = true) : ∀ e ∈ T, (P.funcs[e.1]?).elim [] P.leadsTo = e.2 :=
  fun e he => eq_of_beq (List.all_eq_true.1 h e he)
end Go.Proofs.YtmabpnmnppfgaaaGreatDoor
