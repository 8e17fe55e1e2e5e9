/- What the reckoner's operations on values say of the model's. Plain lemmas. -/
import Derived.Test.YtnodnpehjbhphaaGreatDoorRkE3
import Derived.Laws.Strings
import Derived.Laws.Entries
import Derived.Laws.Cells
namespace Go.Proofs.YtnodnpehjbhphaaGreatDoor.Rk
open Go
set_option linter.unusedVariables false
section
variable {P : Program} {ρ : Env} {w : World}
theorem run_info {t : TypeId} {i : TypeInfo} (h : P.info? t = some i) (w : World) : (typeInfo t).run P w = .ok i w := by
  simp [typeInfo, h]
theorem run_szOf {t : TypeId} {n : Nat} (h : szOf P t = some n) (w : World) : (sizeOf t).run P w = .ok n w := by
  unfold szOf at h
  cases hi : P.info? t with
  | none => rw [hi] at h; simp at h
  | some i => rw [hi] at h; simp at h; subst h; simp [sizeOf, run_info hi]
theorem run_agg {t : TypeId} {g : Bool} (h : aggT P t = some g) (w : World) : (isAgg t).run P w = .ok g w := by
  unfold aggT at h
  cases hd : P.underlying t with
  | none => rw [hd] at h; simp at h
  | some d =>
    rw [hd] at h
    simp only [Option.map_some, Option.some.injEq] at h
    subst h
    cases d <;> simp [isAgg, run_underlying hd, aggD]
theorem run_zero {t : TypeId} {z : AV} (h : zeroA P t = some z) (w : World) : ∃ v, (zeroValue t).run P w = .ok v w ∧ z = ofV 3 v ∧ VR ρ z v := by
  unfold zeroA at h
  cases hi : P.info? t with
  | none => rw [hi] at h; simp at h
  | some i =>
    rw [hi] at h
    cases hz : i.zero with
    | none => simp [hz] at h
    | some v =>
      simp [hz] at h
      exact ⟨v, by simp [zeroValue, run_info hi, hz], h.symm, h ▸ ofV_ok 3 v⟩
theorem map_ofNat_inj {l k : List Nat} (hl : ∀ x ∈ l, x < 256) (hk : ∀ x ∈ k, x < 256) : (l.map UInt8.ofNat = k.map UInt8.ofNat) ↔ l = k := by
  constructor
  · intro h
    have := congrArg (List.map UInt8.toNat) h
    rw [List.map_map, List.map_map] at this
    have e : ∀ m : List Nat, (∀ x ∈ m, x < 256) → m.map (UInt8.toNat ∘ UInt8.ofNat) = m := fun m hm => by
      conv => rhs; rw [← List.map_id m]
      refine List.map_congr_left fun x hx => ?_
      have := hm x hx
      simp; omega
    rwa [e l hl, e k hk] at this
  · rintro rfl; rfl
theorem u8_lt {a b : Nat} (ha : a < 256) (hb : b < 256) : (UInt8.ofNat a < UInt8.ofNat b) ↔ a < b := by
  rw [UInt8.lt_iff_toNat_lt]
  simp; omega
theorem u8_eq {a b : Nat} (ha : a < 256) (hb : b < 256) : (UInt8.ofNat a = UInt8.ofNat b) ↔ a = b := by
  rw [← UInt8.toNat_inj]
  simp; omega
theorem strLt_ok : ∀ (l k : List Nat), (∀ x ∈ l, x < 256) → (∀ x ∈ k, x < 256) → Op.bytesLess (l.map UInt8.ofNat) (k.map UInt8.ofNat) = strLt l k
  | l, [], _, _ => by cases l <;> simp [Op.bytesLess, strLt]
  | [], y :: k, _, _ => by simp [Op.bytesLess, strLt]
  | x :: l, y :: k, hl, hk => by
    have hx := hl x (by simp)
    have hy := hk y (by simp)
    have ih := strLt_ok l k (fun z hz => hl z (by simp [hz])) (fun z hz => hk z (by simp [hz]))
    simp only [List.map_cons, Op.bytesLess, strLt, ih]
    congr 1
    · exact decide_eq_decide.2 (u8_lt hx hy)
    · congr 1
      rw [Bool.eq_iff_iff]
      simp [u8_eq hx hy]
theorem str_eq (l k : List Nat) (hl : ∀ x ∈ l, x < 256) (hk : ∀ x ∈ k, x < 256) : ((⟨(l.map UInt8.ofNat).toArray⟩ : ByteArray).toList == (⟨(k.map UInt8.ofNat).toArray⟩ : ByteArray).toList) = decide (l = k) := by
  rw [ByteArray.toList_eq, ByteArray.toList_eq, Bool.eq_iff_iff]
  simp [map_ofNat_inj hl hk]
theorem iop_ok {op : BinOp} {k j : IntKind} {x y : Int} {t : TypeId} {v : AV} (h : iop op k x y = some v) (hk : (decide (k = j) || isShift op) = true) : ∃ v', (binOp op t (.int k x) (.int j y)).run P w = .ok v' w ∧ VR ρ v v' := by
  have hk2 : isShift op = false → k = j := fun h => by rw [h] at hk; simpa using hk
  cases op <;> simp only [iop, Option.some.injEq] at h
  case shl =>
    split at h
    · cases h
    · rename_i hy
      cases h
      exact ⟨_, by simp [binOp, Op.shift, hy], .int _ _⟩
  case shr =>
    split at h
    · cases h
    · rename_i hy
      cases h
      exact ⟨_, by simp [binOp, Op.shift, hy], .int _ _⟩
  case quo =>
    split at h
    · cases h
    · rename_i hy
      cases h
      have := hk2 rfl
      subst this
      exact ⟨_, by simp [binOp, Op.intDiv, hy], .int _ _⟩
  case rem =>
    split at h
    · cases h
    · rename_i hy
      cases h
      have := hk2 rfl
      subst this
      exact ⟨_, by simp [binOp, Op.intDiv, hy], .int _ _⟩
  all_goals
    have := hk2 rfl
    subst this
    subst h
    first
    | exact ⟨_, rfl, .int _ _⟩
    | exact ⟨_, rfl, .bool _⟩
    | (refine ⟨_, ?_, .int _ _⟩; simp only [binOp, ne_eq, not_true_eq_false, if_false]; rfl)
    | (refine ⟨_, ?_, .bool _⟩; simp only [binOp, ne_eq, not_true_eq_false, if_false]; rfl)
theorem sop_ok {op : BinOp} {x y : List Nat} {t : TypeId} {v : AV} (h : sop op x y = some v) (hx : ∀ z ∈ x, z < 256) (hy : ∀ z ∈ y, z < 256) :
    ∃ v', (binOp op t (.string ⟨(x.map UInt8.ofNat).toArray⟩) (.string ⟨(y.map UInt8.ofNat).toArray⟩)).run P w = .ok v' w ∧ VR ρ v v' := by
  have he := str_eq x y hx hy
  have hl : Op.bytesLess (⟨(x.map UInt8.ofNat).toArray⟩ : ByteArray).toList (⟨(y.map UInt8.ofNat).toArray⟩ : ByteArray).toList = strLt x y := by
    rw [ByteArray.toList_eq, ByteArray.toList_eq]; exact strLt_ok x y hx hy
  cases op <;> simp only [sop, Option.some.injEq, reduceCtorEq] at h
  case add =>
    split at h
    · rename_i hlen
      cases h
      refine ⟨.string (⟨(x.map UInt8.ofNat).toArray⟩ ++ ⟨(y.map UInt8.ofNat).toArray⟩), ?_, ?_⟩
      · have : ¬ (((⟨(x.map UInt8.ofNat).toArray⟩ : ByteArray).size + (⟨(y.map UInt8.ofNat).toArray⟩ : ByteArray).size : Nat) : Int) > IntKind.i64.max := by
          have h1 : (⟨(x.map UInt8.ofNat).toArray⟩ : ByteArray).size = x.length := by simp [ByteArray.size]
          have h2 : (⟨(y.map UInt8.ofNat).toArray⟩ : ByteArray).size = y.length := by simp [ByteArray.size]
          rw [h1, h2]
          have : IntKind.i64.max = 9223372036854775807 := by decide
          rw [this]
          omega
        simp only [binOp, Op.stringOp, if_neg this]
        rfl
      · have e : (⟨(x.map UInt8.ofNat).toArray⟩ : ByteArray) ++ ⟨(y.map UInt8.ofNat).toArray⟩ = ⟨((x ++ y).map UInt8.ofNat).toArray⟩ := by
          apply ByteArray.ext
          rw [ByteArray.data_append]
          simp
        rw [e]
        exact .str _ (fun z hz => by
          rcases List.mem_append.1 hz with h | h
          · exact hx z h
          · exact hy z h)
    · cases h
  all_goals
    subst h
    exact ⟨_, by simp only [binOp, Op.stringOp, he, hl, Sem.run_pure], .bool _⟩
theorem equal_run {t : TypeId} {d : TypeDesc} (hd : P.underlying t = some d) (x y : Value) : (Op.equal t x y).run P w = ((match d, x, y with
      | .bool, .bool a, .bool b => .ok (a == b) w
      | .pointer _, .pointer none, .pointer b => .ok b.isNone w
      | .pointer _, .pointer _, .pointer none => .ok false w
      | .interface _, .nilIface, .nilIface => .ok true w
      | .interface _, .nilIface, .iface _ _ => .ok false w
      | .interface _, .iface _ _, .nilIface => .ok false w
      | .slice _, .slice none _ _, .slice b _ _ => .ok b.isNone w
      | .slice _, .slice _ _ _, .slice none _ _ => .ok false w
      | .map _ _, .map none, .map b => .ok b.isNone w
      | .map _ _, .map _, .map none => .ok false w
      | .func _ _ _, .nilFunc, .nilFunc => .ok true w
      | .func _ _ _, .nilFunc, .func _ _ _ => .ok false w
      | .func _ _ _, .func _ _ _, .nilFunc => .ok false w
      | _, _, _ => (Op.equal t x y).run P w) : Result Bool) := by
  split <;> first | rfl | skip
  all_goals
    show (Op.equalIn (9999 + 1) t _ _).run P w = _
    unfold Op.equalIn
    rw [Sem.run_bind, run_underlying (by assumption)]
    try rfl
  all_goals
    first
    | (cases ‹Option Addr› <;> first | rfl | (exfalso; simp_all; done))
    | (cases ‹Option Nat› <;> first | rfl | (exfalso; simp_all; done))
theorem eqT_ok {d : TypeDesc} {known : Bool} {t : TypeId} {x y : AV} {x' y' : Value} {b : Bool} (h : eqT d known x y = some b) (hd : P.underlying t = some d) (hx : VR ρ x x') (hy : VR ρ y y') : (Op.equal t x' y').run P w = .ok b w := by
  rw [equal_run hd]
  unfold eqT at h
  split at h
  case h_4 =>
    split at h
    · cases hx; cases hy; cases h; rfl
    · cases h
  all_goals first | (cases h; done) | skip
  all_goals
    cases hx
    cases hy
    cases h
    rfl
theorem ite_both {α : Type} {c : Prop} [Decidable c] {x y r : α} (h1 : c → x = r) (h2 : ¬ c → y = r) : (if c then x else y) = r := by
  by_cases h : c
  · rw [if_pos h]; exact h1 h
  · rw [if_neg h]; exact h2 h
theorem guard_plain {op : BinOp} {t : TypeId} {X Y : Operand} {x' y' : Value} (ha : ∀ a b, ¬ (x' = .agg a ∧ y' = .agg b)) (hn : ¬ (x' = .nilIface ∧ y' = .nilIface)) : (eqGuard op t X Y x' y').run P w = .ok () w := by
  unfold eqGuard
  simp only [Sem.run_bind, Sem.run_ite, Sem.run_pure]
  refine ite_both (fun _ => rfl) (fun _ => ?_)
  split
  · exact absurd ⟨rfl, rfl⟩ hn
  · exact absurd ⟨rfl, rfl⟩ (ha _ _)
  · rfl
theorem guard_known {op : BinOp} {t : TypeId} {X Y : Operand} (h : (isConst X || isConst Y) = true) : (eqGuard op t X Y .nilIface .nilIface).run P w = .ok () w := by
  unfold eqGuard
  simp only [Sem.run_bind, Sem.run_ite, Sem.run_pure]
  refine ite_both (fun _ => rfl) (fun _ => ?_)
  cases X <;> cases Y <;> first | (simp [isConst] at h; done) | rfl | (simp; done)
theorem eqT_guard {d : TypeDesc} {op : BinOp} {t : TypeId} {X Y : Operand} {x y : AV} {x' y' : Value} {b : Bool} (h : eqT d (isConst X || isConst Y) x y = some b) (hx : VR ρ x x') (hy : VR ρ y y') : (eqGuard op t X Y x' y').run P w = .ok () w := by
  unfold eqT at h
  split at h
  case h_4 =>
    split at h
    · rename_i hk
      cases hx; cases hy
      exact guard_known hk
    · cases h
  all_goals first | (cases h; done) | skip
  all_goals
    cases hx
    cases hy
    exact guard_plain (fun a b h => by cases h.1) (fun h => by first | (cases h.1; done) | (cases h.2; done))
theorem bop_ok {op : BinOp} {t : TypeId} {X Y : Operand} {x y : AV} {x' y' : Value} {v : AV} (h : bop op (P.underlying t) (isConst X || isConst Y) x y = some v) (hx : VR ρ x x') (hy : VR ρ y y') :
    ∃ v', (do eqGuard op t X Y x' y'; binOp op t x' y' : Sem Value).run P w = .ok v' w ∧ VR ρ v v' := by
  unfold bop at h
  split at h
  · rename_i k a j c
    cases hx; cases hy
    split at h
    · rename_i hk
      obtain ⟨v', h1, h2⟩ := iop_ok (P := P) (ρ := ρ) (w := w) (t := t) h hk
      refine ⟨v', ?_, h2⟩
      have := guard_plain (P := P) (w := w) (op := op) (t := t) (X := X) (Y := Y) (x' := .int k a) (y' := .int j c) (fun a b h => by cases h.1) (fun h => by cases h.1)
      simp [this, h1]
    · cases h
  · rename_i l m
    cases hx with
    | str _ hl => cases hy with
      | str _ hm =>
        obtain ⟨v', h1, h2⟩ := sop_ok (P := P) (ρ := ρ) (w := w) (t := t) h hl hm
        refine ⟨v', ?_, h2⟩
        have := guard_plain (P := P) (w := w) (op := op) (t := t) (X := X) (Y := Y) (x' := .string ⟨(l.map UInt8.ofNat).toArray⟩) (y' := .string ⟨(m.map UInt8.ofNat).toArray⟩) (fun a b h => by cases h.1) (fun h => by cases h.1)
        simp [this, h1]
  · rename_i n1 n2
    cases hd : P.underlying t with
    | none => rw [hd] at h; cases op <;> simp at h
    | some d =>
      rw [hd] at h
      have hni : ∀ {b}, eqT d (isConst X || isConst Y) x y = some b → (∀ k a, x' ≠ .int k a) ∧ (∀ a, x' ≠ .string a) ∧ (∀ k a, x' ≠ .float k a) ∧ (∀ k a b, x' ≠ .complex k a b) := by
        intro b hb
        unfold eqT at hb
        split at hb <;> first | (cases hb; done) | skip
        all_goals
          cases hx
          simp
      cases op <;> simp only [reduceCtorEq] at h
      case eql =>
        split at h
        · rename_i b hb
          cases h
          obtain ⟨h1, h2, h3, h4⟩ := hni hb
          refine ⟨.bool b, ?_, .bool _⟩
          simp only [Sem.run_bind, eqT_guard hb hx hy, Result.andThen_ok]
          have he := eqT_ok (w := w) hb hd hx hy
          unfold binOp
          split <;> first | (exact absurd rfl (h1 _ _)) | (exact absurd rfl (h2 _)) | (exact absurd rfl (h3 _ _)) | (exact absurd rfl (h4 _ _ _)) | (simp_all; done) | skip
        · cases h
      case neq =>
        split at h
        · rename_i b hb
          cases h
          obtain ⟨h1, h2, h3, h4⟩ := hni hb
          refine ⟨.bool !b, ?_, .bool _⟩
          simp only [Sem.run_bind, eqT_guard hb hx hy, Result.andThen_ok]
          have he := eqT_ok (w := w) hb hd hx hy
          unfold binOp
          split <;> first | (exact absurd rfl (h1 _ _)) | (exact absurd rfl (h2 _)) | (exact absurd rfl (h3 _ _)) | (exact absurd rfl (h4 _ _ _)) | (simp_all; done) | skip
        · cases h
theorem uop_ok {op : UnOp} {x : AV} {x' : Value} {v : AV} (h : uop op x = some v) (hx : VR ρ x x') : ∃ v', (Op.unary op x').run P w = .ok v' w ∧ VR ρ v v' := by
  unfold uop at h
  split at h
  · cases hx; cases h; exact ⟨_, by simp [Op.unary, Op.intArith], .int _ _⟩
  · cases hx; cases h; exact ⟨_, by simp [Op.unary], .bool _⟩
  · cases h
end
end Go.Proofs.YtnodnpehjbhphaaGreatDoor.Rk
