/- Calls that are told ahead: strings.Index at one byte, strings.Clone, strings.Join, a builder's check. Plain lemmas. -/
import Derived.Test.YtnodnpehjbhphaaGreatDoorRkE25
import Derived.Lib.Bytealg
import Derived.Lib.Join
import Derived.Below
namespace Go.Proofs.YtnodnpehjbhphaaGreatDoor.Rk
open Go Go.RowKit
set_option linter.unusedVariables false
def idx1 (c : Nat) : List Nat → Nat → Int
  | [], _ => -1
  | x :: l, i => if x == c then i else idx1 c l (i + 1)
def oIndex : List AV → St → Option (AV × St)
  | [.str x, .str [c]], s => some (.int .i64 (idx1 c x 0), s)
  | _, _ => none
def oClone : List AV → St → Option (AV × St)
  | [.str x], s => if x.length < 1000000 then some (.str x, s) else none
  | _, _ => none
def oCheck (tb : TypeId) : List AV → St → Option (AV × St)
  | [.ptr b 0], s => match s.heap.get b with
    | some (.cells t [.nilp, z]) => if t = 2 * tb + 1 then some (.tuple [], (s.put b (.cells t [.ptr b 0, z])).note (.wr b 0 1)) else none
    | some (.cells t [.ptr b' 0, z]) => if t = 2 * tb + 1 ∧ b' = b then some (.tuple [], s.note (.rd b 0 1)) else none
    | _ => none
  | _, _ => none
def strsA : List AV → Option (List (List Nat))
  | [] => some []
  | .str l :: r => match strsA r with
    | some ls => some (l :: ls)
    | none => none
  | _ => none
def joinA (sep : List Nat) : List (List Nat) → List Nat
  | [] => []
  | [x] => x
  | x :: r => x ++ (sep ++ joinA sep r)
def oJoin : List AV → St → Option (AV × St)
  | [.nils, .str _], s => some (.str [], s)
  | [.slice b off n mc 1, .str sep], s => if 0 < n ∧ n < 1000000 then match rdCells s b off n with
      | some (cs, s1) => match strsA cs with
        | some xs => if (joinA sep xs).length < 1000000 then some (.str (joinA sep xs), s1) else none
        | none => none
      | none => none
    else none
  | _, _ => none
section
variable {P : Program} {ρ : Env} {T : Nat → Nat → Prop} {s s' : St} {w w' : World}
/-- Above what was there the model's world has turned. -/
theorem Post.below (h : Good ρ T s.heap.get w) (hs : s'.heap = s.heap) (hn : s'.n = s.n) (hw : Below w.heap.size w w') : Post ρ T s w ρ s' w' := by
  have hk : ∀ b r, ρ b = some r → w'.heap[r.blk]? = w.heap[r.blk]? := fun b r hb => hw.block _ (h.old b r hb)
  refine ⟨Env.le_refl ρ, fun b r h => .inl h, fun b r h1 h2 _ => (nomatch (h1.symm.trans h2)), ?_, ⟨hw.os, hw.tape, hw.output, hw.size, fun B hB _ => hw.block B hB, fun B c t fr hc _ => ⟨c, (hw.block B (lt_of_some hc)).trans hc, rfl, fun _ _ => rfl⟩⟩⟩
  rw [hn, Tn_same]
  exact ⟨fun b x hb hT => by rw [hs] at hb; exact (h.sat b x hb hT).mono (Env.le_refl ρ) (fun _ h => h) (fun r hr => hk b r hr), fun b b' r r' x x' hx hx' hl hl' ht ht' hr hr' e => by rw [hs] at hx hx'; exact h.inj b b' r r' x x' hx hx' hl hl' ht ht' hr hr' e, fun b r hb => Nat.lt_of_lt_of_le (h.old b r hb) hw.size⟩
/-- What is told of one function. -/
def Told1 (P : Program) (f : FuncId) (g : List AV → St → Option (AV × St)) : Prop := ∀ args s v s', g args s = some (v, s') → WfS s → Mono s s' ∧ ∀ (ρ : Env) (T : Nat → Nat → Prop) (w : World) (vs : Array Value), Pre ρ T s s' w → VRL ρ args vs.toList →
  Calls P f vs w (fun e w' => ∃ ρ', Post ρ T s w ρ' s' w' ∧ ResR ρ' (.ret v) e)
theorem tsound {O : Told} (hP : plainFuncs P = true) (h : ∀ f g, O f = some g → (P.funcs[f]?).any (·.body.isSome) = true ∧ Told1 P f g) : TSound P O := by
  intro f g hf args s v s' hg hwf
  obtain ⟨hb, h1⟩ := h f g hf
  obtain ⟨m, k⟩ := h1 args s v s' hg hwf
  refine ⟨m, fun ρ T w vs hp hargs => ⟨fun w1 => ?_, fun n => callsIn_wide.2 (k ρ T w vs hp hargs)⟩⟩
  cases hfn : P.funcs[f]? with
  | none => rw [hfn] at hb; cases hb
  | some fn =>
    rw [hfn] at hb
    obtain ⟨c, hc⟩ := Option.isSome_iff_exists.1 (by simpa using hb)
    exact enters hP hfn hc vs w1
theorem vrl1 {x : AV} {vs : Array Value} (h : VRL ρ [x] vs.toList) : ∃ x', vs = #[x'] ∧ VR ρ x x' := by
  rcases vs with ⟨l⟩
  cases h with
  | cons _ x' _ _ hx ht => cases ht; exact ⟨x', rfl, hx⟩
theorem vrl2 {x y : AV} {vs : Array Value} (h : VRL ρ [x, y] vs.toList) : ∃ x' y', vs = #[x', y'] ∧ VR ρ x x' ∧ VR ρ y y' := by
  rcases vs with ⟨l⟩
  cases h with
  | cons _ x' _ _ hx ht => cases ht with
    | cons _ y' _ _ hy ht => cases ht; exact ⟨x', y', rfl, hx, hy⟩
theorem idx1_eq (c : Nat) (hc : c < 256) : ∀ (l : List Nat) (i : Nat), (∀ x ∈ l, x < 256) → idx1 c l i = if Lib.indexByte (l.map UInt8.ofNat) (UInt8.ofNat c) = -1 then -1 else Lib.indexByte (l.map UInt8.ofNat) (UInt8.ofNat c) + i
  | [], i, _ => by simp [idx1, Lib.indexByte]
  | x :: l, i, h => by
    have ih := idx1_eq c hc l (i + 1) (fun y hy => h y (List.mem_cons_of_mem _ hy))
    have hx := h x (List.mem_cons_self ..)
    have hge := Lib.indexByte_ge (l.map UInt8.ofNat) (UInt8.ofNat c)
    have he : (UInt8.ofNat x == UInt8.ofNat c) = (x == c) := by
      rw [Bool.eq_iff_iff]
      simp only [beq_iff_eq]
      constructor
      · intro e
        have := congrArg UInt8.toNat e
        simpa [UInt8.toNat_ofNat', Nat.mod_eq_of_lt hx, Nat.mod_eq_of_lt hc] using this
      · intro e; rw [e]
    unfold idx1
    simp only [List.map_cons, Lib.indexByte, he]
    by_cases h1 : x == c
    · simp [h1]
    · simp only [h1, if_false, Bool.false_eq_true, ih, beq_iff_eq]
      by_cases h2 : Lib.indexByte (l.map UInt8.ofNat) (UInt8.ofNat c) = -1
      · simp [h2]
      · simp only [h2, if_false]
        rw [if_neg (by omega)]
        push_cast
        omega
theorem told_index {f : FuncId} (K : ∀ (s : ByteArray) (c : UInt8) (w : World), Calls P f #[.string s, .string ⟨#[c]⟩] w fun e w' => e = .returned (.int .i64 (Lib.indexByte s.data.toList c)) ∧ w' = w) : Told1 P f oIndex := by
  intro args s v s' h hwf
  unfold oIndex at h
  split at h
  · rename_i s0 x c
    cases h
    refine ⟨Mono.refl _, fun ρ T w vs hp hargs => ?_⟩
    obtain ⟨x', y', rfl, hx, hy⟩ := vrl2 hargs
    cases hx with
    | str _ hxl =>
    cases hy with
    | str _ hyl =>
    refine (K ⟨(x.map UInt8.ofNat).toArray⟩ (UInt8.ofNat c) w).mono ?_
    rintro e w' ⟨rfl, rfl⟩
    refine ⟨ρ, Post.refl hp, ?_⟩
    have := idx1_eq c (hyl c (by simp)) x 0 hxl
    rw [this]
    simp only [Int.natCast_zero, Int.add_zero]
    by_cases h2 : Lib.indexByte (x.map UInt8.ofNat) (UInt8.ofNat c) = -1
    · rw [if_pos h2]
      show VR ρ _ (.int .i64 (Lib.indexByte (x.map UInt8.ofNat).toArray.toList (UInt8.ofNat c)))
      rw [List.toList_toArray, h2]
      exact .int _ _
    · rw [if_neg h2]
      exact .int _ _
  · cases h
theorem told_clone {f : FuncId} (K : ∀ (s : ByteArray) (w : World), s.size ≤ 281474976710656 → Calls P f #[.string s] w fun e w' => e = .returned (.string s) ∧ Below w.heap.size w w') : Told1 P f oClone := by
  intro args s v s' h hwf
  unfold oClone at h
  split at h
  · rename_i s0 x
    split at h
    · rename_i hl
      cases h
      refine ⟨Mono.refl _, fun ρ T w vs hp hargs => ?_⟩
      obtain ⟨x', rfl, hx⟩ := vrl1 hargs
      cases hx with
      | str _ hxl =>
      refine (K ⟨(x.map UInt8.ofNat).toArray⟩ w (by simp [ByteArray.size]; omega)).mono ?_
      rintro e w' ⟨rfl, hb⟩
      exact ⟨ρ, Post.below hp.good rfl rfl hb, .str x hxl⟩
    · cases h
  · cases h
theorem told_check {f : FuncId} {tb : TypeId}
    (K1 : ∀ (b : Nat) (w : World), w.cell? ⟨b, 0, none⟩ = some (.pointer (some ⟨b, 0, none⟩)) → Calls P f #[.pointer (some ⟨b, 0, none⟩)] w fun e w' => e = .returned (.tuple #[]) ∧ w' = w)
    (K2 : ∀ (b : Nat) (w : World), w.cell? ⟨b, 0, none⟩ = some (.pointer none) → w.shape? b = some (tb, 2) → w.frozen? ⟨b, 0, none⟩ = false → Calls P f #[.pointer (some ⟨b, 0, none⟩)] w fun e w' => e = .returned (.tuple #[]) ∧ w' = w.setCell ⟨b, 0, none⟩ (.pointer (some ⟨b, 0, none⟩))) : Told1 P f (oCheck tb) := by
  intro args s v s' h hwf
  unfold oCheck at h
  split at h
  · rename_i s0 b
    split at h
    · rename_i t z hb
      split at h
      · rename_i ht
        subst ht
        cases h
        refine ⟨Mono.write (off := 0) (n := 1) _ _ hb rfl (fun i hi => ?_), fun ρ T w vs hp hargs => ?_⟩
        · cases i with
          | zero => omega
          | succ i => rfl
        · obtain ⟨x', rfl, hx⟩ := vrl1 hargs
          cases hx with
          | ptr _ _ r hr =>
          have hT0 : T b 0 := hp.cov (.wr b 0 1) (List.mem_cons_self ..) (lt_n hwf hb) b 0 ⟨rfl, Nat.le_refl _, Nat.lt_succ_self _⟩
          obtain ⟨r0, c, fr, q1, q2, q3, q4, q5, q6⟩ := hp.good.sat b _ hb ⟨0, hT0⟩
          have : r0 = r := Option.some.inj (q1.symm.trans hr)
          subst this
          obtain ⟨x1, x2⟩ := q4.2 (by omega)
          have hrn : r0.n = 2 := x2
          have hcs : c.size = 2 := by omega
          rw [two_half1] at q2
          have hat : r0.at 0 = ⟨r0.blk, 0, none⟩ := by unfold RB.at; rw [x1]
          obtain ⟨u, hu, hR⟩ := q6 0 .nilp rfl hT0
          cases hR
          rw [x1] at hu
          have hcell : w.cell? ⟨r0.blk, 0, none⟩ = some (.pointer none) := by rw [cell_in q2]; exact hu
          have hfz : w.frozen? ⟨r0.blk, 0, none⟩ = false := by
            simp only [World.frozen?, q2]
            exact q5 0 (by omega) (by omega)
          rw [hat]
          refine (K2 r0.blk w hcell (by simp [World.shape?, q2, hcs]) hfz).mono ?_
          rintro e w' ⟨rfl, rfl⟩
          obtain ⟨m1, m2, m3⟩ := heap_modify q2 0 (.pointer (some ⟨r0.blk, 0, none⟩))
          refine ⟨ρ, Post.write (n := 1) hp.good hb ⟨0, hT0⟩ hr (c := c) (c' := c.setIfInBounds 0 (.pointer (some ⟨r0.blk, 0, none⟩))) (by rw [two_half1]; exact q2) ⟨rfl, rfl, rfl, m3, by rw [two_half1]; exact m1, m2⟩ (by simp) (fun o ho => ?_) (Nat.lt_succ_self _) rfl (fun i a ha hTi => ?_), .tuple _ _ .nil⟩
          · rw [Array.getElem?_setIfInBounds_ne (by omega)]
          · rw [x1, Nat.zero_add]
            match i, ha with
            | 0, ha =>
              cases ha
              refine ⟨_, by rw [Array.getElem?_setIfInBounds_self_of_lt (by omega)], ?_⟩
              have := VR.ptr (ρ := ρ) b 0 r0 hr
              rwa [hat] at this
            | 1, ha =>
              obtain ⟨u1, g1, g2⟩ := q6 1 a ha hTi
              rw [x1] at g1
              exact ⟨u1, by rw [Array.getElem?_setIfInBounds_ne (by omega)]; simpa using g1, g2⟩
      · cases h
    · rename_i t b' z hb
      split at h
      · rename_i ht
        obtain ⟨ht, hbb⟩ := ht
        subst ht hbb
        cases h
        refine ⟨Mono.note _ _ ⟨_, hb, trivial⟩, fun ρ T w vs hp hargs => ?_⟩
        obtain ⟨x', rfl, hx⟩ := vrl1 hargs
        cases hx with
        | ptr _ _ r hr =>
        have hT0 := hp.cov (.rd _ 0 1) (List.mem_cons_self ..) (lt_n hwf hb) _ 0 ⟨rfl, Nat.le_refl _, Nat.lt_succ_self _⟩
        obtain ⟨r0, c, fr, q1, q2, q3, q4, q5, q6⟩ := hp.good.sat _ _ hb ⟨0, hT0⟩
        have : r0 = r := Option.some.inj (q1.symm.trans hr)
        subst this
        obtain ⟨x1, x2⟩ := q4.2 (by omega)
        have hat : r0.at 0 = ⟨r0.blk, 0, none⟩ := by unfold RB.at; rw [x1]
        obtain ⟨u, hu, hR⟩ := q6 0 _ rfl hT0
        cases hR with
        | ptr _ _ r1 hr1 =>
        have : r1 = r0 := Option.some.inj (hr1.symm.trans hr)
        subst this
        rw [x1, hat] at hu
        rw [hat]
        refine (K1 r1.blk w (by rw [cell_in q2]; exact hu)).mono ?_
        rintro e w' ⟨rfl, rfl⟩
        exact ⟨ρ, Post.same hp.good rfl rfl (Still.refl _), .tuple _ _ .nil⟩
      · cases h
    · cases h
  · cases h
end
end Go.Proofs.YtnodnpehjbhphaaGreatDoor.Rk
