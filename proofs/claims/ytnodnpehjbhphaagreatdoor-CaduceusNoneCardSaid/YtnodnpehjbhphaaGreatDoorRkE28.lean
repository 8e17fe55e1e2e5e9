/- strings.Join, told ahead; a closed call. Plain lemmas. -/
import Derived.Test.YtnodnpehjbhphaaGreatDoorRkE27
namespace Go.Proofs.YtnodnpehjbhphaaGreatDoor.Rk
open Go Go.RowKit
set_option linter.unusedVariables false
section
variable {P : Program} {ρ : Env} {T : Nat → Nat → Prop} {s s' : St} {w w' : World}
def bs (l : List Nat) : ByteArray := ⟨(l.map UInt8.ofNat).toArray⟩
theorem strsA_ok : ∀ {cs : List AV} {xs : List (List Nat)} {vs : List Value}, strsA cs = some xs → VRL ρ cs vs → vs = xs.map (fun l => Value.string (bs l)) ∧ ∀ l ∈ xs, ∀ x ∈ l, x < 256
  | [], xs, _, h, .nil => by simp [strsA] at h; subst h; exact ⟨rfl, by simp⟩
  | a :: cs, xs, _, h, .cons _ v _ vs hv ht => by
    unfold strsA at h
    split at h
    · rename_i he; cases he
    · rename_i l r he
      cases he
      split at h
      · rename_i ls hls
        cases h
        obtain ⟨h1, h2⟩ := strsA_ok hls ht
        cases hv with
        | str _ hl =>
        refine ⟨by rw [h1]; rfl, fun l' hl' => ?_⟩
        rcases List.mem_cons.1 hl' with rfl | hl'
        · exact hl
        · exact h2 l' hl'
      · cases h
    · cases h
theorem joinA_ok (sep : List Nat) : ∀ xs : List (List Nat), (joinA sep xs).map UInt8.ofNat = Lib.join (xs.map fun l => (bs l).data.toList) (bs sep).data.toList
  | [] => by simp [joinA, Lib.join, List.intercalate]
  | [x] => by simp [joinA, Lib.join_one, bs]
  | x :: y :: r => by
    have ih := joinA_ok sep (y :: r)
    simp only [joinA, List.map_append, List.map_cons] at ih ⊢
    rw [ih]
    simp [Lib.join, List.intercalate, bs, List.intersperse, List.append_assoc]
theorem joinA_lt {sep : List Nat} (hs : ∀ x ∈ sep, x < 256) : ∀ {xs : List (List Nat)}, (∀ l ∈ xs, ∀ x ∈ l, x < 256) → ∀ x ∈ joinA sep xs, x < 256
  | [], _ => by simp [joinA]
  | [y], h => by simpa [joinA] using h y (by simp)
  | y :: z :: r, h => by
    intro x hx
    simp only [joinA, List.mem_append] at hx
    rcases hx with hx | hx | hx
    · exact h y (by simp) x hx
    · exact hs x hx
    · exact joinA_lt hs (xs := z :: r) (fun l hl => h l (List.mem_cons_of_mem _ hl)) x hx
theorem told_join {f : FuncId} (K0 : ∀ (a : Option Addr) (c : Nat) (sep : ByteArray) (w : World), Calls P f #[.slice a 0 c, .string sep] w fun e w' => e = .returned (.string ⟨#[]⟩) ∧ w' = w)
    (K : ∀ (bk o c : Nat) (xs : List ByteArray) (sep : ByteArray) (w : World), (∀ (j : Nat) x, xs[j]? = some x → w.cell? ⟨bk, o + j, none⟩ = some (.string x)) → bk < w.heap.size → xs.length ≤ 140737488355328 → xs.length ≤ c →
      (Lib.join (xs.map (·.data.toList)) sep.data.toList).length ≤ 140737488355328 →
      Calls P f #[.slice (some ⟨bk, o, none⟩) xs.length c, .string sep] w fun e w' => e = .returned (.string ⟨(Lib.join (xs.map (·.data.toList)) sep.data.toList).toArray⟩) ∧ Below w.heap.size w w') : Told1 P f oJoin := by
  intro args s v s' h hwf
  unfold oJoin at h
  split at h
  · rename_i s0 sep
    cases h
    refine ⟨Mono.refl _, fun ρ T w vs hp hargs => ?_⟩
    obtain ⟨x', y', rfl, hx, hy⟩ := vrl2 hargs
    cases hx
    cases hy with
    | str _ hl =>
    refine (K0 none 0 _ w).mono ?_
    rintro e w' ⟨rfl, rfl⟩
    exact ⟨ρ, Post.refl hp, VR.str [] (by simp)⟩
  · rename_i s0 b off n mc sep
    split at h
    · rename_i hn
      split at h
      · rename_i cs s1 hr
        split at h
        · rename_i xs hxs
          split at h
          · rename_i hlen
            cases h
            obtain ⟨e1, m1⟩ := rd_mono hr
            refine ⟨m1, fun ρ T w vs hp hargs => ?_⟩
            obtain ⟨x', y', rfl, hx, hy⟩ := vrl2 hargs
            cases hx with
            | slice _ _ _ _ _ r ad cap hb k1 k2 k3 =>
            cases hy with
            | str _ hsep =>
            obtain ⟨vs, h1, h2, h3⟩ := rd_ok hr hp hb
            obtain ⟨h4, h5⟩ := strsA_ok hxs h2
            have hxn : xs.length = n := by rw [← h1, h4, List.length_map]
            obtain ⟨had, _⟩ := k3.resolve_left (by omega)
            subst had
            have hjo := joinA_ok sep xs
            have hjl : (Lib.join (xs.map fun l => (bs l).data.toList) (bs sep).data.toList).length < 1000000 := by
              rw [← hjo, List.length_map]; exact hlen
            have hmap : (xs.map bs).map (·.data.toList) = xs.map fun l => (bs l).data.toList := by rw [List.map_map]; rfl
            have := K r.blk (r.base + off) cap (xs.map bs) (bs sep) w (fun j x hj => by
              rw [List.getElem?_map, Option.map_eq_some_iff] at hj
              obtain ⟨l, hl, rfl⟩ := hj
              have h6 := h3 j (.string (bs l)) (by rw [h4, List.getElem?_map, hl]; rfl)
              rw [RB.at_add] at h6
              unfold RB.at at h6
              rwa [← Nat.add_assoc] at h6) (hp.good.old b r hb) (by simp; omega) (by simp; omega) (by rw [hmap]; omega)
            rw [List.length_map, hxn, hmap] at this
            refine Calls.mono this ?_
            rintro e w' ⟨rfl, hbw⟩
            refine ⟨ρ, Post.below hp.good (by rw [e1]; rfl) (by rw [e1]; rfl) hbw, ?_⟩
            rw [← hjo]
            exact .str _ (joinA_lt hsep h5)
          · cases h
        · cases h
      · cases h
    · cases h
  · cases h
/-- Is it told that the call returns true? -/
def ansTrue : Option (Res × St) → Bool
  | some (.ret (.bool true), _) => true
  | _ => false
/-- A closed call. -/
theorem closed_call {O : Told} {f : FuncId} {v : AV} {q : St} (hP : plainFuncs P = true) (hm : P.follows .mixedOrders = true) (hO : TSound P O) (fuel d : Nat)
    (h : call P O (dcall P fuel) fuel d f [] ⟨.leaf, 0, []⟩ = some (.ret v, q)) (w : World) : Calls P f #[] w (fun e w' => ∃ ρ v', e = .returned v' ∧ VR ρ v v' ∧ Below w.heap.size w w') := by
  have hwf : WfS ⟨.leaf, 0, []⟩ := fun b _ => rfl
  obtain ⟨_, k⟩ := call_ok hP hm hO (dsound hP hm fuel) fuel d f [] _ _ _ h hwf
  have hp : Pre (fun _ => none) (fun _ _ => False) ⟨.leaf, 0, []⟩ q w := by
    refine ⟨⟨fun b x hb => ?_, fun b b' r r' x x' hb => ?_, fun b r hb => ?_⟩, fun e he hb => ?_, fun b _ _ => rfl, hwf, fun b i hb => hb.elim⟩
    · cases hb
    · cases hb
    · cases hb
    · exact absurd hb (Nat.not_lt_zero _)
  obtain ⟨_, hc⟩ := k _ _ w #[] hp .nil
  refine (callsIn_wide.1 (hc 0)).mono ?_
  rintro e w' ⟨ρ', hpost, hres⟩
  cases e with
  | panicked ch => exact hres.elim
  | outgrown => exact hres.elim
  | returned v' =>
    have hu := hpost.unch
    refine ⟨ρ', v', rfl, hres, ⟨hu.os, hu.tape, hu.output, hu.size, fun B hB => hu.block B hB (fun o ⟨e, he, r, h1, _⟩ => by cases h1)⟩⟩
theorem closed_true {O : Told} {f : FuncId} (hP : plainFuncs P = true) (hm : P.follows .mixedOrders = true) (hO : TSound P O) (fuel d : Nat)
    (h : ansTrue (call P O (dcall P fuel) fuel d f [] ⟨.leaf, 0, []⟩) = true) (w : World) : Calls P f #[] w (fun e w' => e = .returned (.bool true) ∧ Below w.heap.size w w') := by
  unfold ansTrue at h
  split at h
  · rename_i q hq
    refine (closed_call hP hm hO fuel d hq w).mono ?_
    rintro e w' ⟨ρ, v', rfl, hv, hb⟩
    cases hv
    exact ⟨rfl, hb⟩
  · cases h
/-- A call on what is not known of, or known whole, with no memory in it. -/
theorem closed_args {O : Told} {f : FuncId} {args : List AV} (hP : plainFuncs P = true) (hm : P.follows .mixedOrders = true) (hO : TSound P O) (fuel d : Nat)
    (h : ansTrue (call P O (dcall P fuel) fuel d f args ⟨.leaf, 0, []⟩) = true) (vs : Array Value) (hv : VRL (fun _ => none) args vs.toList) (w : World) : Calls P f vs w (fun e w' => e = .returned (.bool true) ∧ Below w.heap.size w w') := by
  unfold ansTrue at h
  split at h
  · rename_i q hq
    have hwf : WfS ⟨.leaf, 0, []⟩ := fun b _ => rfl
    obtain ⟨_, k⟩ := call_ok hP hm hO (dsound hP hm fuel) fuel d f args _ _ _ hq hwf
    have hp : Pre (fun _ => none) (fun _ _ => False) ⟨.leaf, 0, []⟩ q w := by
      refine ⟨⟨fun b x hb => ?_, fun b b' r r' x x' hb => ?_, fun b r hb => ?_⟩, fun e he hb => ?_, fun b _ _ => rfl, hwf, fun b i hb => hb.elim⟩
      · cases hb
      · cases hb
      · cases hb
      · exact absurd hb (Nat.not_lt_zero _)
    obtain ⟨_, hc⟩ := k _ _ w vs hp hv
    refine (callsIn_wide.1 (hc 0)).mono ?_
    rintro e w' ⟨ρ', hpost, hres⟩
    cases e with
    | panicked ch => exact hres.elim
    | outgrown => exact hres.elim
    | returned v' =>
      have hu := hpost.unch
      replace hres : VR ρ' (.bool true) v' := hres
      cases hres
      exact ⟨rfl, ⟨hu.os, hu.tape, hu.output, hu.size, fun B hB => hu.block B hB (fun o ⟨e, he, r, h1, _⟩ => by cases h1)⟩⟩
  · cases h
theorem vrl_tops {ρ : Env} : ∀ l : List Value, VRL ρ (List.replicate l.length .top) l
  | [] => .nil
  | v :: l => .cons _ _ _ _ (.top v) (vrl_tops l)
end
end Go.Proofs.YtnodnpehjbhphaaGreatDoor.Rk
