/- Parts, joined. -/
import Derived.Test.YtjikgmbhnknojaaGreatDoorRk4
import Derived.Lib.Bytealg
import Derived.Lib.Join
import Derived.Below
import Derived.RecoverIn
/- Calls that are told ahead: strings.Index at one byte, strings.Clone, strings.Join, a builder's check. Plain lemmas. -/
namespace Go.Proofs.YtjikgmbhnknojaaGreatDoor.Rk
open Go Go.RowKit
set_option linter.unusedVariables false
def idx1 (c : Nat) : List Nat → Nat → Int
  | [], _ => -1
  | x :: l, i => if x == c then i else idx1 c l (i + 1)
def oIndex : List AV → St → Option (AV × St)
  | [.str x, .str [c]], s => some (.int .i64 (idx1 c x 0), s)
  | _, _ => none
def oClone : List AV → St → Option (AV × St)
  | [.str x], s => if x.length < 1000000 then some (.str x, s) else none
  | _, _ => none
/-- (*strings.Builder).copyCheck; l: the types of the blocks that begin with a Builder, how many cells they have. -/
def oCheck (l : List (TypeId × Nat)) : List AV → St → Option (AV × St)
  | [.ptr b 0], s => match s.heap.get b with
    | some (.cells t (.nilp :: z)) => if l.any (fun p => t == 2 * p.1 + 1 && z.length + 1 == p.2) then some (.tuple [], (s.put b (.cells t (.ptr b 0 :: z))).note (.wr b 0 1)) else none
    | some (.cells t (.ptr b' 0 :: z)) => if l.any (fun p => t == 2 * p.1 + 1 && z.length + 1 == p.2) ∧ b' = b then some (.tuple [], s.note (.rd b 0 1)) else none
    | _ => none
  | _, _ => none
/-- maps.Clone: a block of its own with what the map holds. -/
def oMapClone : List AV → St → Option (AV × St)
  | [.map b], s => match s.heap.get b with
    | some (.map es clock) => some (.map s.n, (s.note (.rd b 0 1)).new (.map es clock))
    | _ => none
  | _, _ => none
def countA (c : Nat) : List Nat → Nat
  | [] => 0
  | x :: l => if x = c then countA c l + 1 else countA c l
/-- strings.Count, of one byte. -/
def oCount : List AV → St → Option (AV × St)
  | [.str l, .str [c]], s => some (.int .i64 (Int.ofNat (countA c l)), s)
  | _, _ => none
/-- strings.IndexByte. -/
def oIndexByte : List AV → St → Option (AV × St)
  | [.str l, .int .u8 (.ofNat c)], s => if c < 256 then some (.int .i64 (idx1 c l 0), s) else none
  | _, _ => none
def cmpA : List Nat → List Nat → Int
  | [], [] => 0
  | [], _ :: _ => -1
  | _ :: _, [] => 1
  | a :: x, b :: y => if a < b then -1 else if b < a then 1 else cmpA x y
/-- strings.Compare. -/
def oCompare : List AV → St → Option (AV × St)
  | [.str x, .str y], s => some (.int .i64 (cmpA x y), s)
  | _, _ => none
/-- path.sealed: a map of its own, its two entries in an order that is not known. -/
def oSealed (k1 k2 v : AV) : List AV → St → Option (AV × St)
  | [], s => some (.map s.n, s.new (.pmap [⟨k1, v, 0⟩, ⟨k2, v, 1⟩]))
  | _, _ => none
/-- The stamps are all different, and below the clock. -/
def stampsOk : List ME → Nat → Bool
  | [], _ => true
  | e :: l, c => Nat.ble (e.born + 1) c && l.all (fun x => !Nat.beq x.born e.born) && stampsOk l c
def sumLen : List ME → Option Nat
  | [] => some 0
  | e :: l => match e.k, e.v, sumLen l with
    | .str a, .str b, some n => some (a.length + b.length + n)
    | _, _, _ => none
/-- kv.tooMuch. -/
def oMuch : List AV → St → Option (AV × St)
  | [.map b], s => match s.heap.get b with
    | some (.map es clock) => match sumLen es with
      | some n => if stampsOk es clock && Nat.ble n 1000000000 then some (.bool (decide (500000 < n)), s.note (.rd b 0 1)) else none
      | none => none
    | _ => none
  | _, _ => none
def insA (x : List Nat) : List (List Nat) → List (List Nat)
  | [] => [x]
  | y :: l => if cmpA x y ≤ 0 then x :: y :: l else y :: insA x l
def sortA : List (List Nat) → List (List Nat)
  | [] => []
  | x :: l => insA x (sortA l)
def keysA : List ME → Option (List (List Nat))
  | [] => some []
  | e :: l => match e.k, keysA l with
    | .str a, some r => if r.all (fun x => !decide (x = a)) && Nat.ble a.length 1000000 then some (a :: r) else none
    | _, _ => none
/-- slices.SortedFunc over maps.Keys, by bits.Compare; gs: the iterators, h: the order, st: string. -/
def oSorted (gs : List FuncId) (h : FuncId) (st : TypeId) : List AV → St → Option (AV × St)
  | [.func g [] [.ptr bm 0], .func h' [] []], s => if gs.contains g && Nat.beq h' h then match s.heap.get bm with
    | some (.cells t (.map b :: _)) => match s.heap.get b with
      | some (.map es clock) => match keysA es with
        | some ks => if Nat.beq (t % 2) 1 && stampsOk es clock && Nat.ble es.length 1000000 then
            (match sortA ks with
            | [] => some (.nils, (s.note (.rd bm 0 1)).note (.rd b 0 1))
            | l => some (.slice s.n 0 l.length l.length 1, ((s.note (.rd bm 0 1)).note (.rd b 0 1)).new (.cells (2 * st) (l.map .str))))
          else none
        | none => none
      | _ => none
    | _ => none else none
  | _, _ => none
def strsA : List AV → Option (List (List Nat))
  | [] => some []
  | .str l :: r => match strsA r with
    | some ls => some (l :: ls)
    | none => none
  | _ => none
def joinA (sep : List Nat) : List (List Nat) → List Nat
  | [] => []
  | [x] => x
  | x :: r => x ++ (sep ++ joinA sep r)
def oJoin : List AV → St → Option (AV × St)
  | [.nils, .str _], s => some (.str [], s)
  | [.slice b off n mc 1, .str sep], s => if 0 < n ∧ n < 1000000 then match rdCells s b off n with
      | some (cs, s1) => match strsA cs with
        | some xs => if (joinA sep xs).length < 1000000 then some (.str (joinA sep xs), s1) else none
        | none => none
      | none => none
    else none
  | _, _ => none
section
variable {P : Program} {ρ : Env} {T : Nat → Nat → Prop} {s s' : St} {w w' : World}
/-- Above what was there the model's world has turned. -/
theorem Post.below (h : Good ρ T s.heap.get w) (hs : s'.heap = s.heap) (hn : s'.n = s.n) (hw : Below w.heap.size w w') : Post ρ T s w ρ s' w' := by
  have hk : ∀ b r, ρ b = some r → w'.heap[r.blk]? = w.heap[r.blk]? := fun b r hb => hw.block _ (h.old b r hb)
  refine ⟨Env.le_refl ρ, fun b r h => .inl h, fun b r h1 h2 _ => (nomatch (h1.symm.trans h2)), ?_, ⟨hw.os, hw.tape, hw.output, hw.size, fun B hB _ => hw.block B hB, fun B c t fr hc _ => ⟨c, (hw.block B (lt_of_some hc)).trans hc, rfl, fun _ _ => rfl⟩⟩⟩
  rw [hn, Tn_same]
  exact ⟨fun b x hb hT => by rw [hs] at hb; exact (h.sat b x hb hT).mono (Env.le_refl ρ) (fun _ h => h) (fun r hr => hk b r hr), fun b b' r r' x x' hx hx' hl hl' ht ht' hr hr' e => by rw [hs] at hx hx'; exact h.inj b b' r r' x x' hx hx' hl hl' ht ht' hr hr' e, fun b r hb => Nat.lt_of_lt_of_le (h.old b r hb) hw.size⟩
/-- What is told of one function. -/
def Told1 (P : Program) (f : FuncId) (g : List AV → St → Option (AV × St)) : Prop := ∀ args s v s', g args s = some (v, s') → WfS s → Mono s s' ∧ ∀ (ρ : Env) (T : Nat → Nat → Prop) (w : World) (vs : Array Value), Pre ρ T s s' w → VRL ρ args vs.toList →
  Calls P f vs w (fun e w' => ∃ ρ', Post ρ T s w ρ' s' w' ∧ ResR ρ' (.ret v) e)
theorem tsound {O : Told} (hP : plainFuncs P = true) (h : ∀ f g, O f = some g → (P.funcs[f]?).any (·.body.isSome) = true ∧ Told1 P f g) : TSound P O := by
  intro f g hf args s v s' hg hwf
  obtain ⟨hb, h1⟩ := h f g hf
  obtain ⟨m, k⟩ := h1 args s v s' hg hwf
  refine ⟨m, fun ρ T w vs hp hargs => ⟨fun w1 => ?_, fun n => callsIn_wide.2 (k ρ T w vs hp hargs)⟩⟩
  cases hfn : P.funcs[f]? with
  | none => rw [hfn] at hb; cases hb
  | some fn =>
    rw [hfn] at hb
    obtain ⟨c, hc⟩ := Option.isSome_iff_exists.1 (by simpa using hb)
    exact enters hP hfn hc vs w1
theorem vrl1 {x : AV} {vs : Array Value} (h : VRL ρ [x] vs.toList) : ∃ x', vs = #[x'] ∧ VR ρ x x' := by
  rcases vs with ⟨l⟩
  cases h with
  | cons _ x' _ _ hx ht => cases ht; exact ⟨x', rfl, hx⟩
theorem vrl2 {x y : AV} {vs : Array Value} (h : VRL ρ [x, y] vs.toList) : ∃ x' y', vs = #[x', y'] ∧ VR ρ x x' ∧ VR ρ y y' := by
  rcases vs with ⟨l⟩
  cases h with
  | cons _ x' _ _ hx ht => cases ht with
    | cons _ y' _ _ hy ht => cases ht; exact ⟨x', y', rfl, hx, hy⟩
theorem idx1_eq (c : Nat) (hc : c < 256) : ∀ (l : List Nat) (i : Nat), (∀ x ∈ l, x < 256) → idx1 c l i = if Lib.indexByte (l.map UInt8.ofNat) (UInt8.ofNat c) = -1 then -1 else Lib.indexByte (l.map UInt8.ofNat) (UInt8.ofNat c) + i
  | [], i, _ => by simp [idx1, Lib.indexByte]
  | x :: l, i, h => by
    have ih := idx1_eq c hc l (i + 1) (fun y hy => h y (List.mem_cons_of_mem _ hy))
    have hx := h x (List.mem_cons_self ..)
    have hge := Lib.indexByte_ge (l.map UInt8.ofNat) (UInt8.ofNat c)
    have he : (UInt8.ofNat x == UInt8.ofNat c) = (x == c) := by
      rw [Bool.eq_iff_iff]
      simp only [beq_iff_eq]
      constructor
      · intro e
        have := congrArg UInt8.toNat e
        simpa [UInt8.toNat_ofNat', Nat.mod_eq_of_lt hx, Nat.mod_eq_of_lt hc] using this
      · intro e; rw [e]
    unfold idx1
    simp only [List.map_cons, Lib.indexByte, he]
    by_cases h1 : x == c
    · simp [h1]
    · simp only [h1, if_false, Bool.false_eq_true, ih, beq_iff_eq]
      by_cases h2 : Lib.indexByte (l.map UInt8.ofNat) (UInt8.ofNat c) = -1
      · simp [h2]
      · simp only [h2, if_false]
        rw [if_neg (by omega)]
        push_cast
        omega
theorem told_index {f : FuncId} (K : ∀ (s : ByteArray) (c : UInt8) (w : World), Calls P f #[.string s, .string ⟨#[c]⟩] w fun e w' => e = .returned (.int .i64 (Lib.indexByte s.data.toList c)) ∧ w' = w) : Told1 P f oIndex := by
  intro args s v s' h hwf
  unfold oIndex at h
  split at h
  · rename_i s0 x c
    cases h
    refine ⟨Mono.refl _, fun ρ T w vs hp hargs => ?_⟩
    obtain ⟨x', y', rfl, hx, hy⟩ := vrl2 hargs
    cases hx with
    | str _ hxl =>
    cases hy with
    | str _ hyl =>
    refine (K ⟨(x.map UInt8.ofNat).toArray⟩ (UInt8.ofNat c) w).mono ?_
    rintro e w' ⟨rfl, rfl⟩
    refine ⟨ρ, Post.refl hp, ?_⟩
    have := idx1_eq c (hyl c (by simp)) x 0 hxl
    rw [this]
    simp only [Int.natCast_zero, Int.add_zero]
    by_cases h2 : Lib.indexByte (x.map UInt8.ofNat) (UInt8.ofNat c) = -1
    · rw [if_pos h2]
      show VR ρ _ (.int .i64 (Lib.indexByte (x.map UInt8.ofNat).toArray.toList (UInt8.ofNat c)))
      rw [List.toList_toArray, h2]
      exact .int _ _
    · rw [if_neg h2]
      exact .int _ _
  · cases h
theorem told_clone {f : FuncId} (K : ∀ (s : ByteArray) (w : World), s.size ≤ 281474976710656 → Calls P f #[.string s] w fun e w' => e = .returned (.string s) ∧ Below w.heap.size w w') : Told1 P f oClone := by
  intro args s v s' h hwf
  unfold oClone at h
  split at h
  · rename_i s0 x
    split at h
    · rename_i hl
      cases h
      refine ⟨Mono.refl _, fun ρ T w vs hp hargs => ?_⟩
      obtain ⟨x', rfl, hx⟩ := vrl1 hargs
      cases hx with
      | str _ hxl =>
      refine (K ⟨(x.map UInt8.ofNat).toArray⟩ w (by simp [ByteArray.size]; omega)).mono ?_
      rintro e w' ⟨rfl, hb⟩
      exact ⟨ρ, Post.below hp.good rfl rfl hb, .str x hxl⟩
    · cases h
  · cases h
theorem told_check {f : FuncId} {l : List (TypeId × Nat)}
    (K1 : ∀ (b : Nat) (w : World), w.cell? ⟨b, 0, none⟩ = some (.pointer (some ⟨b, 0, none⟩)) → Calls P f #[.pointer (some ⟨b, 0, none⟩)] w fun e w' => e = .returned (.tuple #[]) ∧ w' = w)
    (K2 : ∀ (p : TypeId × Nat), p ∈ l → ∀ (b : Nat) (w : World), w.cell? ⟨b, 0, none⟩ = some (.pointer none) → w.shape? b = some (p.1, p.2) → w.frozen? ⟨b, 0, none⟩ = false → Calls P f #[.pointer (some ⟨b, 0, none⟩)] w fun e w' => e = .returned (.tuple #[]) ∧ w' = w.setCell ⟨b, 0, none⟩ (.pointer (some ⟨b, 0, none⟩))) : Told1 P f (oCheck l) := by
  intro args s v s' h hwf
  unfold oCheck at h
  split at h
  · rename_i s0 b
    split at h
    · rename_i t z hb
      split at h
      · rename_i ht
        obtain ⟨p, hpl, hpt⟩ := List.any_eq_true.1 ht
        simp only [Bool.and_eq_true, beq_iff_eq] at hpt
        obtain ⟨ht, hz⟩ := hpt
        subst ht
        cases h
        refine ⟨Mono.write (off := 0) (n := 1) _ _ hb rfl (fun i hi => ?_), fun ρ T w vs hp hargs => ?_⟩
        · cases i with
          | zero => omega
          | succ i => rfl
        · obtain ⟨x', rfl, hx⟩ := vrl1 hargs
          cases hx with
          | ptr _ _ r hr =>
          have hT0 : T b 0 := hp.cov (.wr b 0 1) (List.mem_cons_self ..) (lt_n hwf hb) b 0 ⟨rfl, Nat.le_refl _, Nat.lt_succ_self _⟩
          obtain ⟨r0, c, fr, q1, q2, q3, q4, q5, q6⟩ := hp.good.sat b _ hb ⟨0, hT0⟩
          have : r0 = r := Option.some.inj (q1.symm.trans hr)
          subst this
          obtain ⟨x1, x2⟩ := q4.2 (by omega)
          have hrn : r0.n = z.length + 1 := by simpa using x2
          have hcs : c.size = p.2 := by omega
          rw [two_half1] at q2
          have hat : r0.at 0 = ⟨r0.blk, 0, none⟩ := by unfold RB.at; rw [x1]
          obtain ⟨u, hu, hR⟩ := q6 0 .nilp rfl hT0
          cases hR
          rw [x1] at hu
          have hcell : w.cell? ⟨r0.blk, 0, none⟩ = some (.pointer none) := by rw [cell_in q2]; exact hu
          have hfz : w.frozen? ⟨r0.blk, 0, none⟩ = false := by
            simp only [World.frozen?, q2]
            exact q5 0 (by omega) (by omega)
          rw [hat]
          refine (K2 p hpl r0.blk w hcell (by simp [World.shape?, q2, hcs]) hfz).mono ?_
          rintro e w' ⟨rfl, rfl⟩
          obtain ⟨m1, m2, m3⟩ := heap_modify q2 0 (.pointer (some ⟨r0.blk, 0, none⟩))
          refine ⟨ρ, Post.write (n := 1) hp.good hb ⟨0, hT0⟩ hr (c := c) (c' := c.setIfInBounds 0 (.pointer (some ⟨r0.blk, 0, none⟩))) (by rw [two_half1]; exact q2) ⟨rfl, rfl, rfl, m3, by rw [two_half1]; exact m1, m2⟩ (by simp) (fun o ho => ?_) (Nat.lt_succ_self _) rfl (fun i a ha hTi => ?_), .tuple _ _ .nil⟩
          · rw [Array.getElem?_setIfInBounds_ne (by omega)]
          · rw [x1, Nat.zero_add]
            match i, ha with
            | 0, ha =>
              cases ha
              refine ⟨_, by rw [Array.getElem?_setIfInBounds_self_of_lt (by omega)], ?_⟩
              have := VR.ptr (ρ := ρ) b 0 r0 hr
              rwa [hat] at this
            | i + 1, ha =>
              obtain ⟨u1, g1, g2⟩ := q6 (i + 1) a ha hTi
              rw [x1] at g1
              exact ⟨u1, by rw [Array.getElem?_setIfInBounds_ne (by omega)]; simpa using g1, g2⟩
      · cases h
    · rename_i t b' z hb
      split at h
      · rename_i ht
        obtain ⟨ht, hbb⟩ := ht
        obtain ⟨p, hpl, hpt⟩ := List.any_eq_true.1 ht
        simp only [Bool.and_eq_true, beq_iff_eq] at hpt
        obtain ⟨ht, hz⟩ := hpt
        subst ht hbb
        cases h
        refine ⟨Mono.note _ _ ⟨_, hb, trivial⟩, fun ρ T w vs hp hargs => ?_⟩
        obtain ⟨x', rfl, hx⟩ := vrl1 hargs
        cases hx with
        | ptr _ _ r hr =>
        have hT0 := hp.cov (.rd _ 0 1) (List.mem_cons_self ..) (lt_n hwf hb) _ 0 ⟨rfl, Nat.le_refl _, Nat.lt_succ_self _⟩
        obtain ⟨r0, c, fr, q1, q2, q3, q4, q5, q6⟩ := hp.good.sat _ _ hb ⟨0, hT0⟩
        have : r0 = r := Option.some.inj (q1.symm.trans hr)
        subst this
        obtain ⟨x1, x2⟩ := q4.2 (by omega)
        have hat : r0.at 0 = ⟨r0.blk, 0, none⟩ := by unfold RB.at; rw [x1]
        obtain ⟨u, hu, hR⟩ := q6 0 _ rfl hT0
        cases hR with
        | ptr _ _ r1 hr1 =>
        have : r1 = r0 := Option.some.inj (hr1.symm.trans hr)
        subst this
        rw [x1, hat] at hu
        rw [hat]
        refine (K1 r1.blk w (by rw [cell_in q2]; exact hu)).mono ?_
        rintro e w' ⟨rfl, rfl⟩
        exact ⟨ρ, Post.same hp.good rfl rfl (Still.refl _), .tuple _ _ .nil⟩
      · cases h
    · cases h
  · cases h
theorem told_mapclone {f : FuncId} (K : ∀ (b : Nat) (es : Array MapEntry) (clock : Nat) (w : World), w.heap[b]? = some (.map es clock) → Calls P f #[.map (some b)] w fun e w' => e = .returned (.map (some w.heap.size)) ∧ w' = w.alloc (.map es clock)) : Told1 P f oMapClone := by
  intro args s v s' h hwf
  unfold oMapClone at h
  split at h
  · rename_i s0 b
    split at h
    · rename_i es clock hb
      cases h
      have hm1 : Mono s (s.note (.rd b 0 1)) := Mono.note _ _ ⟨_, hb, trivial⟩
      refine ⟨hm1.trans (Mono.new _ _), fun ρ T w vs hp hargs => ?_⟩
      obtain ⟨x', rfl, hx⟩ := vrl1 hargs
      cases hx with
      | map _ r hbr =>
      have hT : T b 0 := hp.cov (.rd b 0 1) (List.mem_cons_self ..) (lt_n hp.wf hb) b 0 ⟨rfl, Nat.le_refl _, Nat.one_pos⟩
      obtain ⟨r0, l, q1, q2, q3⟩ := hp.good.sat b _ hb ⟨0, hT⟩
      have : r0 = r := Option.some.inj (q1.symm.trans hbr)
      subst this
      have hf : ρ s.n = none := hp.fresh s.n (Nat.le_refl _) (Nat.lt_succ_self _)
      have hpost : Post ρ T s w ρ (s.note (.rd b 0 1)) w := Post.same hp.good rfl rfl (Still.refl w)
      have hpre := hp.next hm1 (Mono.new _ (.map es clock)) hpost
      refine (K r0.blk l clock w q2).mono ?_
      rintro e w' ⟨rfl, rfl⟩
      refine ⟨_, hpost.trans hm1 (Mono.new _ _) (Post.made (o := .map l clock) (r := ⟨w.heap.size, 0, 0⟩) hpre.good hpre.wf hf hpre.tn (Add.push w _) rfl ⟨_, l, Env.add_self _ _, (Add.push w _).here, VRL.mono (Env.add_le hf) q3.1, VRL.mono (Env.add_le hf) q3.2.1, q3.2.2⟩), ?_⟩
      exact VR.map s.n _ (Env.add_self _ _)
    · cases h
  · cases h
theorem count_ok (c : Nat) (hc : c < 256) : ∀ l : List Nat, (∀ x ∈ l, x < 256) → Lib.countByte (l.map UInt8.ofNat) (UInt8.ofNat c) = countA c l
  | [], _ => rfl
  | x :: l, h => by
    have ih := count_ok c hc l (fun y hy => h y (List.mem_cons_of_mem _ hy))
    have hx := h x (List.mem_cons_self ..)
    unfold Lib.countByte at ih ⊢
    rw [List.map_cons, List.count_cons, ih, show countA c (x :: l) = if x = c then countA c l + 1 else countA c l from rfl]
    have he : (UInt8.ofNat x == UInt8.ofNat c) = decide (x = c) := by
      rw [Bool.eq_iff_iff]
      simp only [beq_iff_eq, decide_eq_true_eq]
      constructor
      · intro e
        have := congrArg UInt8.toNat e
        simpa [UInt8.toNat_ofNat', Nat.mod_eq_of_lt hx, Nat.mod_eq_of_lt hc] using this
      · intro e; rw [e]
    rw [he]
    by_cases h1 : x = c <;> simp [h1]
theorem told_count {f : FuncId} (K : ∀ (s : ByteArray) (c : UInt8) (w : World), Calls P f #[.string s, .string ⟨#[c]⟩] w fun e w' => e = .returned (.int .i64 (Lib.countByte s.data.toList c)) ∧ w' = w) : Told1 P f oCount := by
  intro args s v s' h hwf
  unfold oCount at h
  split at h
  · rename_i s0 x c
    cases h
    refine ⟨Mono.refl _, fun ρ T w vs hp hargs => ?_⟩
    obtain ⟨x', y', rfl, hx, hy⟩ := vrl2 hargs
    cases hx with
    | str _ hxl =>
    cases hy with
    | str _ hyl =>
    refine (K ⟨(x.map UInt8.ofNat).toArray⟩ (UInt8.ofNat c) w).mono ?_
    rintro e w' ⟨rfl, rfl⟩
    refine ⟨ρ, Post.refl hp, ?_⟩
    rw [show Lib.countByte (⟨(x.map UInt8.ofNat).toArray⟩ : ByteArray).data.toList (UInt8.ofNat c) = countA c x by rw [List.toList_toArray]; exact count_ok c (hyl c (by simp)) x hxl]
    exact .int _ _
  · cases h
theorem told_indexbyte {f : FuncId} (K : ∀ (s : ByteArray) (c : Int) (w : World), Calls P f #[.string s, .int .u8 c] w fun e w' => e = .returned (.int .i64 (Lib.indexByte s.data.toList c.toNat.toUInt8)) ∧ w' = w) : Told1 P f oIndexByte := by
  intro args s v s' h hwf
  unfold oIndexByte at h
  split at h
  · rename_i s0 x c
    split at h
    · rename_i hc
      cases h
      refine ⟨Mono.refl _, fun ρ T w vs hp hargs => ?_⟩
      obtain ⟨x', y', rfl, hx, hy⟩ := vrl2 hargs
      cases hx with
      | str _ hxl =>
      cases hy
      refine (K ⟨(x.map UInt8.ofNat).toArray⟩ (Int.ofNat c) w).mono ?_
      rintro e w' ⟨rfl, rfl⟩
      refine ⟨ρ, Post.refl hp, ?_⟩
      have := idx1_eq c hc x 0 hxl
      rw [this]
      simp only [Int.natCast_zero, Int.add_zero]
      have hcc : (Int.ofNat c).toNat.toUInt8 = UInt8.ofNat c := rfl
      by_cases h2 : Lib.indexByte (x.map UInt8.ofNat) (UInt8.ofNat c) = -1
      · rw [if_pos h2]
        show VR ρ _ (.int .i64 (Lib.indexByte (x.map UInt8.ofNat).toArray.toList (Int.ofNat c).toNat.toUInt8))
        rw [List.toList_toArray, hcc, h2]
        exact .int _ _
      · rw [if_neg h2]
        show VR ρ _ (.int .i64 (Lib.indexByte (x.map UInt8.ofNat).toArray.toList (Int.ofNat c).toNat.toUInt8))
        rw [List.toList_toArray, hcc]
        exact .int _ _
    · cases h
  · cases h
theorem cmpA_ok : ∀ (x y : List Nat), (∀ a ∈ x, a < 256) → (∀ a ∈ y, a < 256) → Lib.compareBytes (x.map UInt8.ofNat) (y.map UInt8.ofNat) = cmpA x y
  | [], [], _, _ => rfl
  | [], _ :: _, _, _ => rfl
  | _ :: _, [], _, _ => rfl
  | a :: x, b :: y, hx, hy => by
    have ih := cmpA_ok x y (fun z hz => hx z (List.mem_cons_of_mem _ hz)) (fun z hz => hy z (List.mem_cons_of_mem _ hz))
    have ha := hx a (List.mem_cons_self ..)
    have hb := hy b (List.mem_cons_self ..)
    unfold cmpA
    simp only [List.map_cons, Lib.compareBytes, ih]
    have e1 : (UInt8.ofNat a < UInt8.ofNat b) ↔ a < b := u8_lt ha hb
    have e2 : (UInt8.ofNat b < UInt8.ofNat a) ↔ b < a := u8_lt hb ha
    by_cases h1 : a < b
    · rw [if_pos (e1.2 h1), if_pos h1]
    · rw [if_neg (fun h => h1 (e1.1 h)), if_neg h1]
      by_cases h2 : b < a
      · rw [if_pos (e2.2 h2), if_pos h2]
      · rw [if_neg (fun h => h2 (e2.1 h)), if_neg h2]
theorem told_compare {f : FuncId} (K : ∀ (a b : ByteArray) (w : World), Calls P f #[.string a, .string b] w fun e w' => e = .returned (.int .i64 (Lib.compareBytes a.data.toList b.data.toList)) ∧ w' = w) : Told1 P f oCompare := by
  intro args s v s' h hwf
  unfold oCompare at h
  split at h
  · rename_i s0 x y
    cases h
    refine ⟨Mono.refl _, fun ρ T w vs hp hargs => ?_⟩
    obtain ⟨x', y', rfl, hx, hy⟩ := vrl2 hargs
    cases hx with
    | str _ hxl =>
    cases hy with
    | str _ hyl =>
    refine (K _ _ w).mono ?_
    rintro e w' ⟨rfl, rfl⟩
    refine ⟨ρ, Post.refl hp, ?_⟩
    rw [show Lib.compareBytes (⟨(x.map UInt8.ofNat).toArray⟩ : ByteArray).data.toList (⟨(y.map UInt8.ofNat).toArray⟩ : ByteArray).data.toList = cmpA x y by rw [List.toList_toArray, List.toList_toArray]; exact cmpA_ok x y hxl hyl]
    exact .int _ _
  · cases h
end
end Go.Proofs.YtjikgmbhnknojaaGreatDoor.Rk

/- Deferred calls that recover. Plain lemmas. -/
namespace Go.Proofs.YtjikgmbhnknojaaGreatDoor.Rk
open Go
set_option linter.unusedVariables false
/-- The beginning of a deferred function: 'x := recover()'. -/
def recHead (o0 o1 : Oper) : Option (Tmp × Tmp) :=
  match o0.op, o0.dst, o0.guard, o1.op, o1.dst, o1.guard with
  | .call { callee := .builtin .recover, args := ⟨[]⟩, .. }, some d0, none, .assign (.tmp t), some d1, none => if t = d0 then some (d0, d1) else none
  | _, _, _, _, _, _ => none
def dcall (P : Program) (fuel : Nat) : DCallee := fun f args p s =>
  match P.funcs[f]? with
  | some fn => match fn.body with
    | some (.seq (.region _ ⟨[o0, o1]⟩ false) rest) => match recHead o0 o1 with
      | some (d0, d1) => if args.length ≤ fn.ntmps ∧ fn.results.toList.isEmpty then
          match ev P (fun _ _ _ => none) fuel false rest (((initT args 0 ⟨fn.ntmps, .leaf, []⟩).putT d0 (p.getD .nili)).putT d1 (((initT args 0 ⟨fn.ntmps, .leaf, []⟩).putT d0 (p.getD .nili)).get d0)) { s with log := [] } with
          | some (e, a, s1) => match e, a.defs with
            | .normal, [] => some (none, s.cut s1)
            | .ret, [] => some (none, s.cut s1)
            | _, _ => none
          | none => none
        else none
      | none => none
    | _ => none
  | none => none
section
variable {P : Program}
theorem csound_none : CSound P (fun _ _ _ => none) := fun f args s res s' h => by cases h
theorem get_put_self {ρ : Env} {aa : AAct} {a : Act} {x : AV} {v : Value} {d : Tmp} (ha : ActR ρ aa a) (hx : VR ρ x v) (hd : d < aa.sz) : (a.put (some d) v).tmps.getD d undef = v := by
  have : d < a.tmps.size := by rw [ha.size]; exact hd
  simp [Act.put, Array.getD_eq_getD_getElem?, this]
theorem dsound (hP : plainFuncs P = true) (hm : P.follows .mixedOrders = true) (fuel : Nat) : DSound P (dcall P fuel) := by
  intro f args p s p' s' h hwf
  unfold dcall at h
  split at h
  · rename_i fn hf
    split at h
    · rename_i id o0 o1 rest hb
      split at h
      · rename_i d0 d1 hh
        split at h
        · rename_i hlen
          obtain ⟨hlen, hres⟩ := hlen
          split at h
          · rename_i e aa1 s1 hev
            obtain ⟨m1, k1⟩ := (ev_ok hm csound_none fuel).1 false _ _ _ _ _ _ hev hwf
            have main : (e = .normal ∨ e = .ret) → aa1.defs = [] → p' = none → s' = s.cut s1 → Mono s s' ∧ ∀ (ρ : Env) (T : Nat → Nat → Prop) (w : World) (vs : Array Value) (u : FrameMode), Pre ρ T s s' w → VRL ρ args vs.toList → DM ρ p u →
                (∀ w1, (callFunc f vs).run P w1 = .ok (.enter f vs) w1) ∧ ∀ n, CallsDIn Fence.wide n P f vs u w (fun e u' w' => (∃ v, e = .returned v) ∧ ∃ ρ', Post ρ T s w ρ' s' w' ∧ DM ρ' p' (settle u')) := by
              intro he hdef hp' hs'
              subst hp' hs'
              refine ⟨m1.cut hwf, fun ρ T w vs u hp hargs hu => ⟨fun w1 => enters hP hf hb vs w1, fun n => ?_⟩⟩
              have hp0 := hp.cut m1
              refine callsDIn_of_wpSIn hf hb trivial (fun c₀ cs hc0 => ?_)
              -- what recover answers
              obtain ⟨rv, cs1, u1, hrv, hcs1, hu1, hrec⟩ : ∃ rv cs1 u1, VR ρ (p.getD .nili) rv ∧ cs1 = { c₀ with mode := u1 } :: cs ∧ DM ρ none (settle u1) ∧ (recoverD (c₀ :: cs) = some (rv, cs1) ∨ recoverD (c₀ :: cs) = none ∧ rv = .nilIface ∧ cs1 = c₀ :: cs) := by
                cases p with
                | none =>
                  cases u with
                  | run => exact hu.elim
                  | panicking ch => exact hu.elim
                  | returning =>
                    refine ⟨.nilIface, c₀ :: cs, .returning, .nili, by rw [← hc0], trivial, .inr ⟨?_, rfl, rfl⟩⟩
                    simp [recoverD, hc0]
                | some v =>
                  cases u with
                  | run => exact hu.elim
                  | returning => exact hu.elim
                  | panicking ch =>
                    obtain ⟨v', rfl, hv⟩ := hu
                    refine ⟨v', _, .panicking [{ v := v', recovered := true }], hv, rfl, trivial, .inl ?_⟩
                    simp [recoverD, hc0]
              unfold recHead at hh
              split at hh
              · rename_i at0 d0' t d1' ho0 hd0 hg0 ho1 hd1 hg1
                split at hh
                · rename_i htd
                  subst htd
                  cases hh
                  refine wpSIn_seq (wpSIn_region ?_)
                  have hst := start_ok (m := fn.ntmps) hargs hlen
                  have hput : ∀ (a : Act) (aa : AAct) (d : Tmp) (v : AV) (v' : Value), ActR ρ aa a → VR ρ v v' → ActR ρ (aa.putT d v) (a.put (some d) v') := fun a aa d v v' ha hv => by
                    have := ha.put (some d) hv
                    exact this
                  have h1 := hput _ _ d0 (p.getD .nili) rv hst hrv
                  have h2 := hput _ _ d1 _ _ h1 (h1.get d0)
                  have hev0 : ∀ a : Act, (execOp a.eval o0).run P w = .ok .recover w := fun a => by
                    unfold execOp
                    rw [ho0]
                    simp [resolve, invoke, builtin]
                    try rfl
                  have hw0 : ∀ ts, Region.wanted o0 (yielded #[o0, o1] ts) = true := fun ts => by unfold Region.wanted; rw [hg0]
                  have hw1 : ∀ ts, Region.wanted o1 (yielded #[o0, o1] ts) = true := fun ts => by unfold Region.wanted; rw [hg1]
                  have hev1 : ∀ a : Act, (execOp a.eval o1).run P w = .ok (.value (a.eval (.tmp d0))) w := fun a => by
                    unfold execOp
                    rw [ho1]
                    rfl
                  have e0 : (#[o0, o1] : Array Oper)[0]? = some o0 := rfl
                  have e1 : (#[o0, o1] : Array Oper)[1]? = some o1 := rfl
                  have second : wpOpsSIn Fence.wide n P #[o0, o1] (Exit.thenS (rest.wpSIn Fence.wide n P (bodyPostS P fn c₀ cs fun e u' w' => (∃ v, e = Ending.returned v) ∧ ∃ ρ', Post ρ T s w ρ' (s.cut s1) w' ∧ DM ρ' none (settle u'))) (bodyPostS P fn c₀ cs fun e u' w' => (∃ v, e = Ending.returned v) ∧ ∃ ρ', Post ρ T s w ρ' (s.cut s1) w' ∧ DM ρ' none (settle u'))) [1]
                      (({ tmps := vs ++ Array.replicate (fn.ntmps - vs.size) undef, defers := [] } : Act).put (some d0) rv) cs1 w := by
                    simp only [wpOpsSIn, e1, hw1, if_true, hev1, hd1]
                    refine ⟨fun _ _ => trivial, ?_⟩
                    refine wpSIn_of_wpIn rfl (wpIn_mono (k1 ρ T w _ none n (fun _ => rfl) hp0 h2) ?_)
                    rintro E a2 w2 ⟨ρ2, g1, g2, g3⟩
                    have hpost := Post.cut m1 hp g1
                    have hds : a2.defers = [] := by
                      have := g2.defs
                      rw [hdef] at this
                      generalize a2.defers = dd at this
                      cases this
                      rfl
                    have hfr : fn.results = #[] := by
                      have : fn.results.toList = [] := by simpa using hres
                      rw [← Array.toList_inj]; exact this
                    have r1 := results_none hfr a2.tmps P w2
                    have fin : a2.defers = [] ∧ ∃ u', cs1 = { c₀ with mode := u' } :: cs ∧ ∃ v, (results fn a2.tmps).run P w2 = .ok v w2 ∧ ((∃ v', Ending.returned v = .returned v') ∧ ∃ ρ', Post ρ T s w ρ' (s.cut s1) w2 ∧ DM ρ' none (settle u')) :=
                      ⟨hds, u1, hcs1, _, r1, ⟨_, rfl⟩, ρ2, hpost, hu1.mono g1.ext⟩
                    rcases he with rfl | rfl
                    · cases E <;> first | exact g3.elim | exact fin
                    · cases E <;> first | exact g3.elim | exact fin
                  show wpOpsSIn Fence.wide n P #[o0, o1] _ [0, 1] _ _ _
                  rw [wpOpsSIn]
                  simp only [e0, hw0, if_true, hev0, hd0]
                  refine ⟨fun _ _ => trivial, ?_⟩
                  rcases hrec with hrec | ⟨hrec, hrv0, hcs0⟩
                  · simp only [hrec]
                    exact second
                  · simp only [hrec]
                    rw [← hrv0, ← hcs0]
                    exact second
                · cases hh
              · cases hh
            split at h
            · rename_i hd
              cases h
              exact main (.inl rfl) hd rfl rfl
            · rename_i hd
              cases h
              exact main (.inr rfl) hd rfl rfl
            · cases h
          · cases h
        · cases h
      · cases h
    · cases h
  · cases h
end
end Go.Proofs.YtjikgmbhnknojaaGreatDoor.Rk

/- strings.Join, told ahead; a closed call. Plain lemmas. -/
namespace Go.Proofs.YtjikgmbhnknojaaGreatDoor.Rk
open Go Go.RowKit
set_option linter.unusedVariables false
section
variable {P : Program} {ρ : Env} {T : Nat → Nat → Prop} {s s' : St} {w w' : World}
def bs (l : List Nat) : ByteArray := ⟨(l.map UInt8.ofNat).toArray⟩
theorem strsA_ok : ∀ {cs : List AV} {xs : List (List Nat)} {vs : List Value}, strsA cs = some xs → VRL ρ cs vs → vs = xs.map (fun l => Value.string (bs l)) ∧ ∀ l ∈ xs, ∀ x ∈ l, x < 256
  | [], xs, _, h, .nil => by simp [strsA] at h; subst h; exact ⟨rfl, by simp⟩
  | a :: cs, xs, _, h, .cons _ v _ vs hv ht => by
    unfold strsA at h
    split at h
    · rename_i he; cases he
    · rename_i l r he
      cases he
      split at h
      · rename_i ls hls
        cases h
        obtain ⟨h1, h2⟩ := strsA_ok hls ht
        cases hv with
        | str _ hl =>
        refine ⟨by rw [h1]; rfl, fun l' hl' => ?_⟩
        rcases List.mem_cons.1 hl' with rfl | hl'
        · exact hl
        · exact h2 l' hl'
      · cases h
    · cases h
theorem joinA_ok (sep : List Nat) : ∀ xs : List (List Nat), (joinA sep xs).map UInt8.ofNat = Lib.join (xs.map fun l => (bs l).data.toList) (bs sep).data.toList
  | [] => by simp [joinA, Lib.join, List.intercalate]
  | [x] => by simp [joinA, Lib.join_one, bs]
  | x :: y :: r => by
    have ih := joinA_ok sep (y :: r)
    simp only [joinA, List.map_append, List.map_cons] at ih ⊢
    rw [ih]
    simp [Lib.join, List.intercalate, bs, List.intersperse]
theorem joinA_lt {sep : List Nat} (hs : ∀ x ∈ sep, x < 256) : ∀ {xs : List (List Nat)}, (∀ l ∈ xs, ∀ x ∈ l, x < 256) → ∀ x ∈ joinA sep xs, x < 256
  | [], _ => by simp [joinA]
  | [y], h => by simpa [joinA] using h y (by simp)
  | y :: z :: r, h => by
    intro x hx
    simp only [joinA, List.mem_append] at hx
    rcases hx with hx | hx | hx
    · exact h y (by simp) x hx
    · exact hs x hx
    · exact joinA_lt hs (xs := z :: r) (fun l hl => h l (List.mem_cons_of_mem _ hl)) x hx
theorem told_join {f : FuncId} (K0 : ∀ (a : Option Addr) (c : Nat) (sep : ByteArray) (w : World), Calls P f #[.slice a 0 c, .string sep] w fun e w' => e = .returned (.string ⟨#[]⟩) ∧ w' = w)
    (K : ∀ (bk o c : Nat) (xs : List ByteArray) (sep : ByteArray) (w : World), (∀ (j : Nat) x, xs[j]? = some x → w.cell? ⟨bk, o + j, none⟩ = some (.string x)) → bk < w.heap.size → xs.length ≤ 140737488355328 → xs.length ≤ c →
      (Lib.join (xs.map (·.data.toList)) sep.data.toList).length ≤ 140737488355328 →
      Calls P f #[.slice (some ⟨bk, o, none⟩) xs.length c, .string sep] w fun e w' => e = .returned (.string ⟨(Lib.join (xs.map (·.data.toList)) sep.data.toList).toArray⟩) ∧ Below w.heap.size w w') : Told1 P f oJoin := by
  intro args s v s' h hwf
  unfold oJoin at h
  split at h
  · rename_i s0 sep
    cases h
    refine ⟨Mono.refl _, fun ρ T w vs hp hargs => ?_⟩
    obtain ⟨x', y', rfl, hx, hy⟩ := vrl2 hargs
    cases hx
    cases hy with
    | str _ hl =>
    refine (K0 none 0 _ w).mono ?_
    rintro e w' ⟨rfl, rfl⟩
    exact ⟨ρ, Post.refl hp, VR.str [] (by simp)⟩
  · rename_i s0 b off n mc sep
    split at h
    · rename_i hn
      split at h
      · rename_i cs s1 hr
        split at h
        · rename_i xs hxs
          split at h
          · rename_i hlen
            cases h
            obtain ⟨e1, m1⟩ := rd_mono hr
            refine ⟨m1, fun ρ T w vs hp hargs => ?_⟩
            obtain ⟨x', y', rfl, hx, hy⟩ := vrl2 hargs
            cases hx with
            | slice _ _ _ _ _ r ad cap hb k1 k2 k3 =>
            cases hy with
            | str _ hsep =>
            obtain ⟨vs, h1, h2, h3⟩ := rd_ok hr hp hb
            obtain ⟨h4, h5⟩ := strsA_ok hxs h2
            have hxn : xs.length = n := by rw [← h1, h4, List.length_map]
            obtain ⟨had, _⟩ := k3.resolve_left (by omega)
            subst had
            have hjo := joinA_ok sep xs
            have hjl : (Lib.join (xs.map fun l => (bs l).data.toList) (bs sep).data.toList).length < 1000000 := by
              rw [← hjo, List.length_map]; exact hlen
            have hmap : (xs.map bs).map (·.data.toList) = xs.map fun l => (bs l).data.toList := by rw [List.map_map]; rfl
            have := K r.blk (r.base + off) cap (xs.map bs) (bs sep) w (fun j x hj => by
              rw [List.getElem?_map, Option.map_eq_some_iff] at hj
              obtain ⟨l, hl, rfl⟩ := hj
              have h6 := h3 j (.string (bs l)) (by rw [h4, List.getElem?_map, hl]; rfl)
              rw [RB.at_add] at h6
              unfold RB.at at h6
              rwa [← Nat.add_assoc] at h6) (hp.good.old b r hb) (by simp; omega) (by simp; omega) (by rw [hmap]; omega)
            rw [List.length_map, hxn, hmap] at this
            refine Calls.mono this ?_
            rintro e w' ⟨rfl, hbw⟩
            refine ⟨ρ, Post.below hp.good (by rw [e1]; rfl) (by rw [e1]; rfl) hbw, ?_⟩
            rw [← hjo]
            exact .str _ (joinA_lt hsep h5)
          · cases h
        · cases h
      · cases h
    · cases h
  · cases h
/-- Is it told that the call returns true? -/
def ansTrue : Option (Res × St) → Bool
  | some (.ret (.bool true), _) => true
  | _ => false
/-- A closed call. -/
theorem closed_call {O : Told} {f : FuncId} {v : AV} {q : St} (hP : plainFuncs P = true) (hm : P.follows .mixedOrders = true) (hO : TSound P O) (fuel d : Nat)
    (h : call P O (dcall P fuel) fuel d f [] ⟨.leaf, 0, []⟩ = some (.ret v, q)) (w : World) : Calls P f #[] w (fun e w' => ∃ ρ v', e = .returned v' ∧ VR ρ v v' ∧ Below w.heap.size w w') := by
  have hwf : WfS ⟨.leaf, 0, []⟩ := fun b _ => rfl
  obtain ⟨_, k⟩ := call_ok hP hm hO (dsound hP hm fuel) fuel d f [] _ _ _ h hwf
  have hp : Pre (fun _ => none) (fun _ _ => False) ⟨.leaf, 0, []⟩ q w := by
    refine ⟨⟨fun b x hb => ?_, fun b b' r r' x x' hb => ?_, fun b r hb => ?_⟩, fun e he hb => ?_, fun b _ _ => rfl, hwf, fun b i hb => hb.elim⟩
    · cases hb
    · cases hb
    · cases hb
    · exact absurd hb (Nat.not_lt_zero _)
  obtain ⟨_, hc⟩ := k _ _ w #[] hp .nil
  refine (callsIn_wide.1 (hc 0)).mono ?_
  rintro e w' ⟨ρ', hpost, hres⟩
  cases e with
  | panicked ch => exact hres.elim
  | outgrown => exact hres.elim
  | returned v' =>
    have hu := hpost.unch
    refine ⟨ρ', v', rfl, hres, ⟨hu.os, hu.tape, hu.output, hu.size, fun B hB => hu.block B hB (fun o ⟨e, he, r, h1, _⟩ => by cases h1)⟩⟩
theorem closed_true {O : Told} {f : FuncId} (hP : plainFuncs P = true) (hm : P.follows .mixedOrders = true) (hO : TSound P O) (fuel d : Nat)
    (h : ansTrue (call P O (dcall P fuel) fuel d f [] ⟨.leaf, 0, []⟩) = true) (w : World) : Calls P f #[] w (fun e w' => e = .returned (.bool true) ∧ Below w.heap.size w w') := by
  unfold ansTrue at h
  split at h
  · rename_i q hq
    refine (closed_call hP hm hO fuel d hq w).mono ?_
    rintro e w' ⟨ρ, v', rfl, hv, hb⟩
    cases hv
    exact ⟨rfl, hb⟩
  · cases h
/-- A call on what is not known of, or known whole, with no memory in it. -/
theorem closed_args {O : Told} {f : FuncId} {args : List AV} (hP : plainFuncs P = true) (hm : P.follows .mixedOrders = true) (hO : TSound P O) (fuel d : Nat)
    (h : ansTrue (call P O (dcall P fuel) fuel d f args ⟨.leaf, 0, []⟩) = true) (vs : Array Value) (hv : VRL (fun _ => none) args vs.toList) (w : World) : Calls P f vs w (fun e w' => e = .returned (.bool true) ∧ Below w.heap.size w w') := by
  unfold ansTrue at h
  split at h
  · rename_i q hq
    have hwf : WfS ⟨.leaf, 0, []⟩ := fun b _ => rfl
    obtain ⟨_, k⟩ := call_ok hP hm hO (dsound hP hm fuel) fuel d f args _ _ _ hq hwf
    have hp : Pre (fun _ => none) (fun _ _ => False) ⟨.leaf, 0, []⟩ q w := by
      refine ⟨⟨fun b x hb => ?_, fun b b' r r' x x' hb => ?_, fun b r hb => ?_⟩, fun e he hb => ?_, fun b _ _ => rfl, hwf, fun b i hb => hb.elim⟩
      · cases hb
      · cases hb
      · cases hb
      · exact absurd hb (Nat.not_lt_zero _)
    obtain ⟨_, hc⟩ := k _ _ w vs hp hv
    refine (callsIn_wide.1 (hc 0)).mono ?_
    rintro e w' ⟨ρ', hpost, hres⟩
    cases e with
    | panicked ch => exact hres.elim
    | outgrown => exact hres.elim
    | returned v' =>
      have hu := hpost.unch
      replace hres : VR ρ' (.bool true) v' := hres
      cases hres
      exact ⟨rfl, ⟨hu.os, hu.tape, hu.output, hu.size, fun B hB => hu.block B hB (fun o ⟨e, he, r, h1, _⟩ => by cases h1)⟩⟩
  · cases h
theorem vrl_tops {ρ : Env} : ∀ l : List Value, VRL ρ (List.replicate l.length .top) l
  | [] => .nil
  | v :: l => .cons _ _ _ _ (.top v) (vrl_tops l)
end
end Go.Proofs.YtjikgmbhnknojaaGreatDoor.Rk

/- A call that was reckoned by itself, out of the blocks that it touches, is told ahead. Plain lemmas. -/
namespace Go.Proofs.YtjikgmbhnknojaaGreatDoor.Rk
open Go Go.RowKit
set_option linter.unusedVariables false
mutual
def eqA : AV → AV → Bool
  | .top, .top => true
  | .bool a, .bool b => a == b
  | .int k a, .int j b => decide (k = j) && a == b
  | .str a, .str b => decide (a = b)
  | .ptr a b, .ptr c d => Nat.beq a c && Nat.beq b d
  | .nilp, .nilp => true
  | .slice a b c d e, .slice a' b' c' d' e' => Nat.beq a a' && Nat.beq b b' && Nat.beq c c' && Nat.beq d d' && Nat.beq e e'
  | .nils, .nils => true
  | .map a, .map b => Nat.beq a b
  | .nilm, .nilm => true
  | .func f k l, .func g m n => Nat.beq f g && eqL k m && eqL l n
  | .nilf, .nilf => true
  | .iface t a, .iface u b => Nat.beq t u && eqA a b
  | .nili, .nili => true
  | .agg a, .agg b => eqL a b
  | .tuple a, .tuple b => eqL a b
  | _, _ => false
def eqL : List AV → List AV → Bool
  | [], [] => true
  | a :: l, b :: m => eqA a b && eqL l m
  | _, _ => false
end
theorem nbeq {a b : Nat} (h : Nat.beq a b = true) : a = b := Nat.eq_of_beq_eq_true h
mutual
theorem eqA_ok : ∀ (a b : AV), eqA a b = true → a = b
  | .top, b, h => by cases b <;> first | rfl | (simp [eqA] at h; done)
  | .bool a, b, h => by cases b <;> first | (simp [eqA] at h; done) | (simp only [eqA, beq_iff_eq] at h; rw [h])
  | .int k a, b, h => by cases b <;> first | (simp [eqA] at h; done) | (simp only [eqA, Bool.and_eq_true, decide_eq_true_eq, beq_iff_eq] at h; rw [h.1, h.2])
  | .str a, b, h => by cases b <;> first | (simp [eqA] at h; done) | (simp only [eqA, decide_eq_true_eq] at h; rw [h])
  | .ptr a c, b, h => by cases b <;> first | (simp only [eqA, Bool.and_eq_true] at h; rw [nbeq h.1, nbeq h.2]) | (simp [eqA] at h; done)
  | .nilp, b, h => by cases b <;> first | rfl | (simp [eqA] at h; done)
  | .slice a1 a2 a3 a4 a5, b, h => by cases b <;> first | (simp only [eqA, Bool.and_eq_true] at h; rw [nbeq h.1.1.1.1, nbeq h.1.1.1.2, nbeq h.1.1.2, nbeq h.1.2, nbeq h.2]) | (simp [eqA] at h; done)
  | .nils, b, h => by cases b <;> first | rfl | (simp [eqA] at h; done)
  | .map a, b, h => by cases b <;> first | (simp only [eqA] at h; rw [nbeq h]) | (simp [eqA] at h; done)
  | .nilm, b, h => by cases b <;> first | rfl | (simp [eqA] at h; done)
  | .func f k l, .func g m n, h => by simp only [eqA, Bool.and_eq_true] at h; rw [nbeq h.1.1, eqL_ok k m h.1.2, eqL_ok l n h.2]
  | .nilf, b, h => by cases b <;> first | rfl | (simp [eqA] at h; done)
  | .iface t a, .iface u c, h => by simp only [eqA, Bool.and_eq_true] at h; rw [nbeq h.1, eqA_ok a c h.2]
  | .nili, b, h => by cases b <;> first | rfl | (simp [eqA] at h; done)
  | .agg a, .agg c, h => by simp only [eqA] at h; rw [eqL_ok a c h]
  | .tuple a, .tuple c, h => by simp only [eqA] at h; rw [eqL_ok a c h]
  | .yield a, b, h => by cases b <;> simp [eqA] at h
theorem eqL_ok : ∀ (l m : List AV), eqL l m = true → l = m
  | [], [], _ => rfl
  | a :: l, b :: m, h => by simp only [eqL, Bool.and_eq_true] at h; rw [eqA_ok a b h.1, eqL_ok l m h.2]
  | [], _ :: _, h => by simp [eqL] at h
  | _ :: _, [], h => by simp [eqL] at h
end
def eqM : List ME → List ME → Bool
  | [], [] => true
  | a :: l, b :: m => eqA a.k b.k && eqA a.v b.v && Nat.beq a.born b.born && eqM l m
  | _, _ => false
theorem eqM_ok : ∀ (l m : List ME), eqM l m = true → l = m
  | [], [], _ => rfl
  | ⟨k, v, n⟩ :: l, ⟨k', v', n'⟩ :: m, h => by
    simp only [eqM, Bool.and_eq_true] at h
    rw [eqA_ok _ _ h.1.1.1, eqA_ok _ _ h.1.1.2, nbeq h.1.2, eqM_ok l m h.2]
  | [], _ :: _, h => by simp [eqM] at h
  | _ :: _, [], h => by simp [eqM] at h
def eqB : ABlk → ABlk → Bool
  | .cells t cs, .cells u ds => Nat.beq t u && eqL cs ds
  | .map es c, .map fs d => Nat.beq c d && eqM es fs
  | .miter m a b c, .miter m' a' b' c' => decide (m = m') && decide (a = a') && decide (b = b') && decide (c = c')
  | .siter l p, .siter m q => decide (l = m) && decide (p = q)
  | .pmap es, .pmap fs => eqM es fs
  | .defd, .defd => true
  | .dead, .dead => true
  | _, _ => false
theorem eqB_ok : ∀ (x y : ABlk), eqB x y = true → x = y
  | .cells t cs, .cells u ds, h => by simp only [eqB, Bool.and_eq_true] at h; rw [nbeq h.1, eqL_ok _ _ h.2]
  | .map es c, .map fs d, h => by simp only [eqB, Bool.and_eq_true] at h; rw [nbeq h.1, eqM_ok _ _ h.2]
  | .miter m a b c, .miter m' a' b' c', h => by simp only [eqB, Bool.and_eq_true, decide_eq_true_eq] at h; rw [h.1.1.1, h.1.1.2, h.1.2, h.2]
  | .siter l p, .siter m q, h => by simp only [eqB, Bool.and_eq_true, decide_eq_true_eq] at h; rw [h.1, h.2]
  | .pmap es, .pmap fs, h => by simp only [eqB] at h; rw [eqM_ok _ _ h]
  | .defd, y, h => by cases y <;> first | rfl | (simp [eqB] at h; done)
  | .dead, y, h => by cases y <;> first | rfl | (simp [eqB] at h; done)
  | .loop .., y, h => by cases y <;> simp [eqB] at h
/-- A block that was there: as it was, as it is behind the call; is it written? -/
structure OE where
  b : Nat
  pre : ABlk
  post : ABlk
  wr : Bool
structure Memo where
  f : FuncId
  args : List AV
  n0 : Nat
  old : List OE
  v : AV
  n1 : Nat
  new : List (Nat × ABlk)
def lenB : ABlk → Nat
  | .cells _ cs => cs.length
  | _ => 1
def OE.le (o : OE) : LE := if o.wr then .all o.b else .rd o.b 0 (lenB o.pre)
def putAll {α : Type} (h : Tr α) : List (Nat × α) → Tr α
  | [] => h
  | p :: l => putAll (h.set p.1 p.2) l
def Memo.posts (M : Memo) : List (Nat × ABlk) := M.old.map (fun o => (o.b, o.post)) ++ M.new
def Memo.start (M : Memo) : St := ⟨putAll .leaf (M.old.map fun o => (o.b, o.pre)), M.n0, []⟩
def sameAt (h : Tr ABlk) (b : Nat) (x : ABlk) : Bool := match h.get b with
  | some y => eqB y x
  | none => false
def oMemo (M : Memo) (args : List AV) (s : St) : Option (AV × St) :=
  if Nat.beq s.n M.n0 && eqL args M.args && M.old.all (fun o => sameAt s.heap o.b o.pre) then some (M.v, ⟨putAll s.heap M.posts, M.n1, M.old.map OE.le ++ s.log⟩) else none
def isLive : ABlk → Bool
  | .dead => false
  | _ => true
/-- What the one looks into, or changes, the other does too. -/
def covers : LE → LE → Bool
  | .all b, e => Nat.beq b e.blk
  | .rd b i n, .rd c j k => Nat.beq b c && Nat.ble i j && Nat.ble (j + k) (i + n)
  | _, _ => false
def covered (c : Tr LE) (e : LE) : Bool := match c.get e.blk with
  | some m => covers m e
  | none => false
def Memo.check (M : Memo) (r : Option (Res × St)) : Bool := match r with
  | some (.ret v, q) => eqA v M.v && Nat.beq q.n M.n1 && q.log.all (covered (putAll .leaf (M.old.map fun o => (o.b, o.le)))) && M.posts.all (fun p => sameAt q.heap p.1 p.2) && M.old.all (fun o => isLive o.pre && Nat.ble (o.b + 1) M.n0 && (o.wr || eqB o.post o.pre)) && M.new.all (fun p => Nat.ble M.n0 p.1 && Nat.ble (p.1 + 1) M.n1) && Nat.ble M.n0 M.n1
  | _ => false
theorem putAll_get {α : Type} {b : Nat} {y : α} : ∀ {l : List (Nat × α)} {h : Tr α}, (putAll h l).get b = some y → (b, y) ∈ l ∨ (h.get b = some y ∧ ∀ z, (b, z) ∉ l)
  | [], h, hg => .inr ⟨hg, fun z hz => by cases hz⟩
  | (c, x) :: l, h, hg => by
    rcases putAll_get (l := l) hg with h1 | ⟨h1, h2⟩
    · exact .inl (List.mem_cons_of_mem _ h1)
    · rw [Tr.get_set] at h1
      by_cases hbc : b = c
      · rw [if_pos hbc] at h1
        cases h1
        subst hbc
        exact .inl (List.mem_cons_self ..)
      · rw [if_neg hbc] at h1
        refine .inr ⟨h1, fun z hz => ?_⟩
        rcases List.mem_cons.1 hz with h3 | h3
        · cases h3; exact hbc rfl
        · exact h2 z h3
theorem covers_at {m e : LE} (h : covers m e = true) {b i : Nat} (he : e.at b i) : m.at b i := by
  cases m with
  | wr c j n => cases e <;> cases h
  | all c =>
    have hb : c = e.blk := nbeq h
    cases e with
    | rd d j n => obtain ⟨rfl, _⟩ := he; exact hb
    | wr d j n => obtain ⟨rfl, _⟩ := he; exact hb
    | all d => cases he; exact hb
  | rd c j n =>
    cases e with
    | wr _ _ _ => cases h
    | all _ => cases h
    | rd d k l =>
      simp only [covers, Bool.and_eq_true] at h
      have hb := nbeq h.1.1
      have h1 := Nat.le_of_ble_eq_true h.1.2
      have h2 := Nat.le_of_ble_eq_true h.2
      obtain ⟨rfl, h3, h4⟩ := he
      exact ⟨hb, by omega, by omega⟩
theorem covers_blk {m e : LE} (h : covers m e = true) : m.blk = e.blk := by
  cases m with
  | wr c j n => cases e <;> cases h
  | all c => exact nbeq h
  | rd c j n =>
    cases e with
    | wr _ _ _ => cases h
    | all _ => cases h
    | rd d k l =>
      simp only [covers, Bool.and_eq_true] at h
      exact nbeq h.1.1
theorem covers_all {m : LE} {b : Nat} (h : covers m (.all b) = true) : m = .all b := by
  cases m with
  | wr c j n => cases h
  | rd c j n => cases h
  | all c => rw [show c = b from nbeq h]
theorem covers_wr {m : LE} {b i n : Nat} (h : covers m (.wr b i n) = true) : m = .all b := by
  cases m with
  | wr c j n => cases h
  | rd c j n => cases h
  | all c => rw [show c = b from nbeq h]
theorem sameAt_ok {h : Tr ABlk} {b : Nat} {x : ABlk} (hs : sameAt h b x = true) : h.get b = some x := by
  unfold sameAt at hs
  split at hs
  · rename_i y hy
    rw [hy, eqB_ok _ _ hs]
  · cases hs
theorem isLive_ok {x : ABlk} (h : isLive x = true) : live x := by cases x <;> first | trivial | cases h
section
variable {P : Program} {ρ : Env} {T : Nat → Nat → Prop} {s s' : St} {w w' : World}
theorem Good.sub {h h2 : Nat → Option ABlk} (hG : Good ρ T h w) (hs : ∀ b y, h2 b = some y → h b = some y) : Good ρ T h2 w :=
  ⟨fun b x hb => hG.sat b x (hs b x hb), fun b b' r r' x x' hx hx' => hG.inj b b' r r' x x' (hs b x hx) (hs b' x' hx'), hG.old⟩
/-- What is told of one function, in the callers' word. -/
def ToldT (P : Program) (f : FuncId) (g : List AV → St → Option (AV × St)) : Prop := ∀ args s v s', g args s = some (v, s') → WfS s → Mono s s' ∧ ∀ (ρ : Env) (T : Nat → Nat → Prop) (w : World) (vs : Array Value), Pre ρ T s s' w → VRL ρ args vs.toList →
  (∀ w1, (callFunc f vs).run P w1 = .ok (.enter f vs) w1) ∧ ∀ n, CallsIn Fence.wide n P f vs w (fun e w' => ∃ ρ', Post ρ T s w ρ' s' w' ∧ ResR ρ' (.ret v) e)
def oOr (g1 g2 : List AV → St → Option (AV × St)) : List AV → St → Option (AV × St) := fun args s => match g1 args s with
  | some r => some r
  | none => g2 args s
theorem ToldT.or {f : FuncId} {g1 g2 : List AV → St → Option (AV × St)} (h1 : ToldT P f g1) (h2 : ToldT P f g2) : ToldT P f (oOr g1 g2) := by
  intro args s v s' h hwf
  unfold oOr at h
  split at h
  · rename_i r hr
    cases h
    exact h1 args s v s' hr hwf
  · exact h2 args s v s' h hwf
def addT (O : Told) (f0 : FuncId) (g : List AV → St → Option (AV × St)) : Told := fun f => bif Nat.beq f f0 then some (match O f with
  | some g0 => oOr g g0
  | none => g) else O f
theorem TSound.add {O : Told} {f0 : FuncId} {g : List AV → St → Option (AV × St)} (hO : TSound P O) (hg : ToldT P f0 g) : TSound P (addT O f0 g) := by
  intro f g1 h
  unfold addT at h
  cases hb : Nat.beq f f0 with
  | false => rw [hb] at h; exact hO f g1 h
  | true =>
    rw [hb] at h
    have hf := nbeq hb
    subst hf
    simp only [cond_true, Option.some.injEq] at h
    cases hO0 : O f with
    | none => rw [hO0] at h; subst h; exact hg
    | some g0 => rw [hO0] at h; subst h; exact hg.or (hO f g0 hO0)
theorem told_memo {O : Told} (hP : plainFuncs P = true) (hm : P.follows .mixedOrders = true) (hO : TSound P O) (fuel d : Nat) (M : Memo)
    (hc : M.check (call P O (dcall P fuel) fuel d M.f M.args M.start) = true) : ToldT P M.f (oMemo M) := by
  unfold Memo.check at hc
  split at hc
  · rename_i r0 v0 q hq
    simp only [Bool.and_eq_true, List.all_eq_true] at hc
    obtain ⟨⟨⟨⟨⟨⟨c1, c2⟩, c3⟩, c4⟩, c5⟩, c6⟩, c7⟩ := hc
    have e1 := eqA_ok _ _ c1
    have e2 := nbeq c2
    have e7 := Nat.le_of_ble_eq_true c7
    subst e1
    have hold : ∀ o ∈ M.old, live o.pre ∧ o.b < M.n0 ∧ (o.wr = true ∨ o.post = o.pre) := fun o ho => by
      have := c5 o ho
      simp only [Bool.or_eq_true] at this
      exact ⟨isLive_ok this.1.1, Nat.le_of_ble_eq_true this.1.2, this.2.elim .inl (fun h => .inr (eqB_ok _ _ h))⟩
    have hposts : ∀ b y, (b, y) ∈ M.posts → q.heap.get b = some y ∧ ((∃ o ∈ M.old, o.b = b ∧ o.post = y) ∨ (M.n0 ≤ b ∧ b < M.n1)) := fun b y hy => by
      refine ⟨sameAt_ok (c4 (b, y) hy), ?_⟩
      rcases List.mem_append.1 hy with h1 | h1
      · obtain ⟨o, ho, he⟩ := List.mem_map.1 h1
        cases he
        exact .inl ⟨o, ho, rfl, rfl⟩
      · have := c6 (b, y) h1
        exact .inr ⟨Nat.le_of_ble_eq_true this.1, Nat.le_of_ble_eq_true this.2⟩
    have hpostin : ∀ o ∈ M.old, (o.b, o.post) ∈ M.posts := fun o ho => List.mem_append_left _ (List.mem_map.2 ⟨o, ho, rfl⟩)
    have hcov : ∀ e ∈ q.log, ∃ o ∈ M.old, covers o.le e = true := fun e he => by
      have := c3 e he
      unfold covered at this
      split at this
      · rename_i m hm1
        rcases putAll_get hm1 with h1 | ⟨h1, _⟩
        · obtain ⟨o, ho, he2⟩ := List.mem_map.1 h1
          have := (Prod.mk.inj he2).2
          subst this
          exact ⟨o, ho, by assumption⟩
        · cases h1
      · cases this
    have hleblk : ∀ o : OE, o.le.blk = o.b := fun o => by unfold OE.le; split <;> rfl
    have hst : ∀ b x, M.start.heap.get b = some x → ∃ o ∈ M.old, o.b = b ∧ o.pre = x := fun b x hb => by
      rcases putAll_get hb with h1 | ⟨h1, _⟩
      · obtain ⟨o, ho, he⟩ := List.mem_map.1 h1
        cases he
        exact ⟨o, ho, rfl, rfl⟩
      · cases h1
    have hwf0 : WfS M.start := fun b hb => by
      cases hx : M.start.heap.get b with
      | none => rfl
      | some x =>
        obtain ⟨o, ho, rfl, _⟩ := hst b x hx
        have h1 : M.n0 ≤ o.b := hb
        have := (hold o ho).2.1
        omega
    obtain ⟨m0, k⟩ := call_ok hP hm hO (dsound hP hm fuel) fuel d M.f M.args _ _ _ hq hwf0
    intro args s v s' h hwf
    unfold oMemo at h
    split at h
    · rename_i hcond
      cases h
      simp only [Bool.and_eq_true, List.all_eq_true] at hcond
      obtain ⟨⟨d2, d1⟩, d3⟩ := hcond
      have f1 := eqL_ok _ _ d1
      have f2 := nbeq d2
      subst f1
      have hsold : ∀ o ∈ M.old, s.heap.get o.b = some o.pre := fun o ho => sameAt_ok (d3 o ho)
      have hget : ∀ b y, (putAll s.heap M.posts).get b = some y → (q.heap.get b = some y ∧ ((∃ o ∈ M.old, o.b = b ∧ o.post = y) ∨ (M.n0 ≤ b ∧ b < M.n1))) ∨ (s.heap.get b = some y ∧ ∀ o ∈ M.old, o.b ≠ b) := fun b y hy => by
        rcases putAll_get hy with h1 | ⟨h1, h2⟩
        · exact .inl (hposts b y h1)
        · exact .inr ⟨h1, fun o ho e => h2 o.post (by rw [← e]; exact hpostin o ho)⟩
      have hgetsome : ∀ b y, s.heap.get b = some y → (∀ o ∈ M.old, o.b ≠ b) → b < M.n0 → (putAll s.heap M.posts).get b = some y := fun b y hy hno hb => by
        have : ∀ (l : List (Nat × ABlk)) (h : Tr ABlk), (∀ z, (b, z) ∉ l) → (putAll h l).get b = h.get b := by
          intro l
          induction l with
          | nil => intro h _; rfl
          | cons p l ih =>
            intro h hn
            show (putAll (h.set p.1 p.2) l).get b = _
            rw [ih _ (fun z hz => hn z (List.mem_cons_of_mem _ hz)), Tr.get_set, if_neg (fun e => hn p.2 (by rw [e]; exact List.mem_cons_self ..))]
        rw [this _ _ (fun z hz => by
          rcases (hposts b z hz).2 with ⟨o, ho, h1, _⟩ | h1
          · exact hno o ho h1
          · omega)]
        exact hy
      have hgetold : ∀ o ∈ M.old, (putAll s.heap M.posts).get o.b = some o.post := fun o ho => by
        have hex : ∀ (l : List (Nat × ABlk)) (h : Tr ABlk) (x : ABlk), (o.b, x) ∈ l → ∃ y, (putAll h l).get o.b = some y := by
          intro l
          induction l with
          | nil => intro h x hx; cases hx
          | cons p l ih =>
            intro h x hx
            by_cases hin : ∃ z, (o.b, z) ∈ l
            · obtain ⟨z, hz⟩ := hin
              exact ih _ z hz
            · rcases List.mem_cons.1 hx with h1 | h1
              · have : ∀ (l : List (Nat × ABlk)) (h : Tr ABlk), (∀ z, (o.b, z) ∉ l) → (putAll h l).get o.b = h.get o.b := by
                  intro l
                  induction l with
                  | nil => intro h _; rfl
                  | cons p l ih =>
                    intro h hn
                    show (putAll (h.set p.1 p.2) l).get o.b = _
                    rw [ih _ (fun z hz => hn z (List.mem_cons_of_mem _ hz)), Tr.get_set, if_neg (fun e => hn p.2 (by rw [e]; exact List.mem_cons_self ..))]
                subst h1
                refine ⟨x, ?_⟩
                show (putAll (h.set o.b x) l).get o.b = _
                rw [this _ _ (fun z hz => hin ⟨z, hz⟩), Tr.get_set, if_pos rfl]
              · exact absurd ⟨x, h1⟩ hin
        obtain ⟨y, hy⟩ := hex M.posts s.heap o.post (hpostin o ho)
        rcases hget _ _ hy with ⟨h1, _⟩ | ⟨_, h1⟩
        · rw [hy, ← h1, (hposts _ _ (hpostin o ho)).1]
        · exact absurd rfl (h1 o ho)
      refine ⟨⟨by show s.n ≤ M.n1; omega, fun e he => List.mem_append_right _ he, fun _ b hb => ?_, fun _ b x hx hn => ?_, fun _ b x' hb hx hl => ?_, fun _ e he => ?_, fun _ hb e he => ?_⟩, fun ρ T w vs hp hargs => ?_⟩
      · show (putAll s.heap M.posts).get b = none
        cases hx : (putAll s.heap M.posts).get b with
        | none => rfl
        | some y =>
          have h1 : M.n1 ≤ b := hb
          rcases hget b y hx with ⟨_, ⟨o, ho, rfl, _⟩ | h2⟩ | ⟨h2, _⟩
          · have := (hold o ho).2.1; omega
          · omega
          · rw [hwf b (by omega)] at h2; cases h2
      · show Keep _ b x ((putAll s.heap M.posts).get b)
        by_cases hin : ∃ o ∈ M.old, o.b = b
        · obtain ⟨o, ho, rfl⟩ := hin
          rw [hsold o ho] at hx
          cases hx
          rw [hgetold o ho]
          rcases (hold o ho).2.2 with h1 | h1
          · exact absurd (List.mem_append_left _ (List.mem_map.2 ⟨o, ho, by unfold OE.le; rw [if_pos h1]⟩)) hn
          · rw [h1]; exact Keep.refl _ _ _
        · have hno : ∀ o ∈ M.old, o.b ≠ b := fun o ho e => hin ⟨o, ho, e⟩
          rw [hgetsome b x hx hno (by have := lt_n hwf hx; omega)]
          exact Keep.refl _ _ _
      · rcases hget b x' hx with ⟨_, ⟨o, ho, rfl, _⟩ | h2⟩ | ⟨h2, _⟩
        · exact ⟨_, hsold o ho, (hold o ho).1⟩
        · omega
        · exact ⟨x', h2, hl⟩
      · rcases List.mem_append.1 he with h1 | h1
        · obtain ⟨o, ho, rfl⟩ := List.mem_map.1 h1
          exact .inr (.inr ⟨_, by rw [hleblk]; exact hsold o ho, (hold o ho).1⟩)
        · exact .inl h1
      · show e.blk < M.n1
        rcases List.mem_append.1 he with h1 | h1
        · obtain ⟨o, ho, rfl⟩ := List.mem_map.1 h1
          rw [hleblk]
          have := (hold o ho).2.1
          omega
        · have := hb e h1; omega
      · have hlein : ∀ o ∈ M.old, o.le ∈ M.old.map OE.le ++ s.log := fun o ho => List.mem_append_left _ (List.mem_map.2 ⟨o, ho, rfl⟩)
        have hcovT : ∀ e ∈ q.log, ∀ b i, e.at b i → T b i ∧ ∃ o ∈ M.old, o.b = b := fun e he b i hi => by
          obtain ⟨o, ho, hco⟩ := hcov e he
          have h1 := covers_at hco hi
          have h2 := at_blk' hi
          have h3 := covers_blk hco
          rw [hleblk] at h3
          exact ⟨hp.cov o.le (hlein o ho) (by rw [hleblk]; have := (hold o ho).2.1; omega) b i h1, o, ho, h3.trans h2⟩
        have hpre : Pre ρ (fun b i => T b i ∧ ∃ o ∈ M.old, o.b = b) M.start q w := by
          refine ⟨⟨fun b x hx hT => ?_, fun b b' r r' x x' hx hx' hl hl' hT hT' => ?_, hp.good.old⟩, fun e he hb b i hi => hcovT e he b i hi, fun b h1 h2 => hp.fresh b (by have : M.n0 ≤ b := h1; omega) (by show b < M.n1; omega), hwf0, fun b i hi => by have := hp.tn b i hi.1; show b < M.n0; omega⟩
          · obtain ⟨o, ho, rfl, rfl⟩ := hst b x hx
            obtain ⟨i, hi, _⟩ := hT
            exact (hp.good.sat _ _ (hsold o ho) ⟨i, hi⟩).mono (Env.le_refl _) (fun _ h => h.1) (fun _ _ => rfl)
          · obtain ⟨o, ho, rfl, rfl⟩ := hst b x hx
            obtain ⟨o', ho', rfl, rfl⟩ := hst b' x' hx'
            obtain ⟨i, hi, _⟩ := hT
            obtain ⟨i', hi', _⟩ := hT'
            exact hp.good.inj _ _ r r' _ _ (hsold o ho) (hsold o' ho') hl hl' ⟨i, hi⟩ ⟨i', hi'⟩
        obtain ⟨hen, hca⟩ := k ρ _ w vs hpre hargs
        refine ⟨hen, fun n => (hca n).mono ?_⟩
        rintro e w' ⟨ρ', hpost, hres⟩
        refine ⟨ρ', ⟨hpost.ext, fun b r hr => ?_, fun b r h1 h2 h3 => ?_, ?_, ?_⟩, hres⟩
        · rcases hpost.new b r hr with h1 | ⟨h1, h2⟩
          · exact .inl h1
          · exact .inr ⟨by have : M.n0 ≤ b := h1; omega, by show b < M.n1; omega⟩
        · obtain ⟨b1, r1, g1, g2, g3⟩ := hpost.fr b r h1 h2 h3
          obtain ⟨o, ho, hco⟩ := hcov _ g1
          have : o.le = .all b1 := covers_all hco
          exact ⟨b1, r1, by rw [← this]; exact hlein o ho, g2, g3⟩
        · haveI := fun b => Classical.propDecidable ((∃ o ∈ M.old, o.b = b) ∨ (M.n0 ≤ b ∧ b < M.n1))
          have hfull := good_frame (h' := fun b => if (∃ o ∈ M.old, o.b = b) ∨ (M.n0 ≤ b ∧ b < M.n1) then q.heap.get b else s.heap.get b) hp.good hpre hpost m0 rfl (fun b i h => h.1) (fun b ⟨i, _, o, ho, hb⟩ => by
              subst hb
              exact ⟨_, hsold o ho, (hold o ho).1⟩) (fun b i h1 h2 h3 => by
              have := hp.tn b i h3
              have h4 : M.n0 ≤ b := h1
              omega) (fun e he hb i hi => hcovT e he _ i hi) (fun b h1 h2 => if_pos (.inr ⟨h1, by omega⟩)) (fun b y hT hn hy hl => by
              obtain ⟨i, hi⟩ := hT
              rw [if_neg] at hy
              · exact hy
              · rintro (h1 | h1)
                · exact hn i ⟨hi, h1⟩
                · have := hp.tn b i hi
                  omega) (fun b y' hT hy hl => by
              obtain ⟨i, hi, o, ho, hb⟩ := hT
              rw [if_pos (.inl ⟨o, ho, hb⟩)] at hy
              refine ⟨y', hy, hl, ?_⟩
              subst hb
              have hz : s.heap.get o.b = some o.pre := hsold o ho
              cases y' with
              | cells t cs' =>
                refine ⟨cs', rfl, rfl, fun _ _ => rfl, ?_⟩
                by_cases hall : LE.all o.b ∈ q.log
                · exact .inl (fun j => hcovT _ hall _ j rfl)
                · cases hstart : M.start.heap.get o.b with
                  | none =>
                    obtain ⟨z, hz1, _⟩ := m0.lv hwf0 o.b _ (hold o ho).2.1 hy hl
                    rw [hstart] at hz1
                    cases hz1
                  | some x =>
                    obtain ⟨o2, ho2, h5, h6⟩ := hst _ _ hstart
                    have hx : s.heap.get o.b = some x := by rw [← h5, ← h6]; exact hsold o2 ho2
                    have hkp := m0.keep hwf0 o.b x hstart hall
                    have hxl : live x := by rw [← h6]; exact (hold o2 ho2).1
                    cases x with
                    | cells t0 cs0 =>
                      obtain ⟨cs2, k1, k2, k3⟩ := hkp
                      rw [hy] at k1
                      cases k1
                      exact .inr ⟨cs0, hx, fun j hj => k3 j (fun e he hw => hj (hcovT e he _ j (by
                        cases e with
                        | rd => exact hw.elim
                        | all => exact hw.elim
                        | wr c j n => exact hw)))⟩
                    | map a b => rw [hkp] at hy; cases hy
                    | miter a b c d => rw [hkp] at hy; cases hy
                    | siter a b => rw [hkp] at hy; cases hy
                    | pmap a => rw [hkp] at hy; cases hy
                    | defd => rw [hkp] at hy; cases hy
                    | loop a1 a2 a3 a4 a5 a6 a7 a8 => rw [hkp] at hy; cases hy
                    | dead => exact hxl.elim
              | _ => rfl)
          have hn0 : M.start.n = s.n := f2.symm
          rw [hn0, e2] at hfull
          refine hfull.sub (fun b y hy => ?_)
          show (if _ then _ else _) = _
          rcases hget b y hy with ⟨h1, ⟨o, ho, hb, _⟩ | h2⟩ | ⟨h1, h2⟩
          · rw [if_pos (.inl ⟨o, ho, hb⟩)]; exact h1
          · rw [if_pos (.inr h2)]; exact h1
          · rw [if_neg]
            · exact h1
            · rintro (⟨o, ho, hb⟩ | h3)
              · exact h2 o ho hb
              · rw [hwf b (by omega)] at h1; cases h1
        · have hW : ∀ B o, Wrt ρ q.log B o → Wrt ρ (M.old.map OE.le ++ s.log) B o := by
            rintro B o ⟨e, he, r, h1, h2, h3⟩
            obtain ⟨o2, ho2, hco⟩ := hcov e he
            cases e with
            | rd b i n => exact h3.elim
            | wr b i n => exact ⟨.all b, by rw [← covers_wr hco]; exact hlein o2 ho2, r, h1, h2, trivial⟩
            | all b => exact ⟨.all b, by rw [← covers_all hco]; exact hlein o2 ho2, r, h1, h2, trivial⟩
          have hA : ∀ B, All ρ q.log B → All ρ (M.old.map OE.le ++ s.log) B := by
            rintro B ⟨b, r, h1, h2, h3⟩
            obtain ⟨o2, ho2, hco⟩ := hcov _ h1
            exact ⟨b, r, by rw [← covers_all hco]; exact hlein o2 ho2, h2, h3⟩
          have hu := hpost.unch
          refine ⟨hu.os, hu.tape, hu.output, hu.size, fun B hB hn => hu.block B hB (fun o ho => hn o (hW B o ho)), fun B c t fr hc hna => ?_⟩
          obtain ⟨c', g1, g2, g3⟩ := hu.cells B c t fr hc (fun h => hna (hA B h))
          exact ⟨c', g1, g2, fun o ho => g3 o (fun h => ho (hW B o h))⟩
    · cases h
  · cases hc
end
end Go.Proofs.YtjikgmbhnknojaaGreatDoor.Rk

/- Two functions told ahead by contracts on maps: a map's size in bytes; a map of two entries in an order that the tape tells. Plain lemmas. -/
namespace Go.Proofs.YtjikgmbhnknojaaGreatDoor.Rk
open Go Go.RowKit
set_option linter.unusedVariables false
/-- How long an entry's key and value are. -/
def lenE (e : MapEntry) : Nat := match e.key, e.val with
  | .string a, .string b => a.size + b.size
  | _, _ => 0
def sumE (l : List MapEntry) : Nat := (l.map lenE).sum
section
variable {P : Program} {ρ : Env} {T : Nat → Nat → Prop} {s s' : St} {w w' : World}
theorem Told1.toT {f : FuncId} {g : List AV → St → Option (AV × St)} (hP : plainFuncs P = true) (hb : (P.funcs[f]?).any (·.body.isSome) = true) (h : Told1 P f g) : ToldT P f g := by
  intro args s v s' hg hwf
  obtain ⟨m, k⟩ := h args s v s' hg hwf
  refine ⟨m, fun ρ T w vs hp hargs => ⟨fun w1 => ?_, fun n => callsIn_wide.2 (k ρ T w vs hp hargs)⟩⟩
  cases hfn : P.funcs[f]? with
  | none => rw [hfn] at hb; cases hb
  | some fn =>
    rw [hfn] at hb
    obtain ⟨c, hc⟩ := Option.isSome_iff_exists.1 (by simpa using hb)
    exact enters hP hfn hc vs w1
theorem TSound.none : TSound P (fun _ => none) := fun f g h => by cases h
theorem sumLen_ok : ∀ {es : List ME} {l : List MapEntry} {n : Nat}, sumLen es = some n → MR ρ es l → (∀ x ∈ l, ∃ k v, x.key = .string k ∧ x.val = .string v) ∧ sumE l = n
  | [], l, n, h, hm => by
    simp [sumLen] at h
    subst h
    rw [hm.inv_nil]
    exact ⟨fun x hx => (by cases hx), rfl⟩
  | e :: es, l, n, h, hm => by
    obtain ⟨e', l', rfl, g1, g2, g3, g4⟩ := hm.inv
    unfold sumLen at h
    split at h
    · rename_i a b m e1 e2 e3
      cases h
      rw [e1] at g1
      rw [e2] at g2
      obtain ⟨h1, h2⟩ := sumLen_ok e3 g4
      obtain ⟨_, k1⟩ := g1.str_inv
      obtain ⟨_, k2⟩ := g2.str_inv
      refine ⟨fun x hx => ?_, ?_⟩
      · rcases List.mem_cons.1 hx with rfl | hx
        · exact ⟨_, _, k1, k2⟩
        · exact h1 x hx
      · have : lenE e' = a.length + b.length := by
          unfold lenE
          rw [k1, k2]
          simp [ByteArray.size]
        unfold sumE at h2 ⊢
        rw [List.map_cons, List.sum_cons, h2, this]
    · cases h
theorem stamps_ok : ∀ {es : List ME} {l : List MapEntry} {c : Nat}, stampsOk es c = true → es.map (·.born) = l.map (·.born) → (∀ x ∈ l, x.born < c) ∧ (l.map (·.born)).Nodup
  | [], [], c, h, hm => ⟨fun x hx => (by cases hx), List.nodup_nil⟩
  | [], _ :: _, c, h, hm => by cases hm
  | _ :: _, [], c, h, hm => by cases hm
  | e :: es, x :: l, c, h, hm => by
    simp only [List.map_cons, List.cons.injEq] at hm
    simp only [stampsOk, Bool.and_eq_true, List.all_eq_true, Bool.not_eq_true'] at h
    obtain ⟨⟨h1, h2⟩, h3⟩ := h
    obtain ⟨g1, g2⟩ := stamps_ok h3 hm.2
    have h4 := Nat.le_of_ble_eq_true h1
    refine ⟨fun y hy => ?_, ?_⟩
    · rcases List.mem_cons.1 hy with rfl | hy
      · rw [← hm.1]; omega
      · exact g1 y hy
    · rw [List.map_cons, List.nodup_cons]
      refine ⟨fun hin => ?_, g2⟩
      rw [← hm.2, ← hm.1] at hin
      obtain ⟨z, hz, he⟩ := List.mem_map.1 hin
      have := h2 z hz
      rw [he] at this
      simp at this
theorem told_much {f : FuncId} (K : ∀ (b clock : Nat) (es : Array MapEntry) (w : World), w.heap[b]? = some (.map es clock) → (∀ x ∈ es.toList, x.born < clock) → (es.toList.map (·.born)).Nodup → (∀ x ∈ es.toList, ∃ k v, x.key = .string k ∧ x.val = .string v) → sumE es.toList ≤ 1000000000 →
    Calls P f #[.map (some b)] w fun e w' => e = .returned (.bool (decide (500000 < sumE es.toList))) ∧ Below w.heap.size w w') : Told1 P f oMuch := by
  intro args s v s' h hwf
  unfold oMuch at h
  split at h
  · rename_i s0 b
    split at h
    · rename_i es clock hb
      split at h
      · rename_i n hn
        split at h
        · rename_i hc
          cases h
          simp only [Bool.and_eq_true] at hc
          refine ⟨Mono.note _ _ ⟨_, hb, trivial⟩, fun ρ T w vs hp hargs => ?_⟩
          obtain ⟨x', rfl, hx⟩ := vrl1 hargs
          cases hx with
          | map _ r hbr =>
          have hT : T b 0 := hp.cov (.rd b 0 1) (List.mem_cons_self ..) (lt_n hp.wf hb) b 0 ⟨rfl, Nat.le_refl _, Nat.one_pos⟩
          obtain ⟨r0, l, q1, q2, q3⟩ := hp.good.sat b _ hb ⟨0, hT⟩
          have : r0 = r := Option.some.inj (q1.symm.trans hbr)
          subst this
          obtain ⟨s1, s2⟩ := stamps_ok hc.1 q3.2.2
          obtain ⟨t1, t2⟩ := sumLen_ok hn q3
          refine (K r0.blk clock l w q2 s1 s2 t1 (by rw [t2]; exact Nat.le_of_ble_eq_true hc.2)).mono ?_
          rintro e w' ⟨rfl, hbw⟩
          refine ⟨ρ, Post.below hp.good rfl rfl hbw, ?_⟩
          rw [t2]
          exact .bool _
        · cases h
      · cases h
    · cases h
  · cases h
theorem told_sealed {f : FuncId} {k1 k2 v0 : AV} {k1' k2' v' : Value} (h1 : ∀ ρ, VR ρ k1 k1') (h2 : ∀ ρ, VR ρ k2 k2') (h3 : ∀ ρ, VR ρ v0 v')
    (K : ∀ w : World, Calls P f #[] w fun e w' => e = .returned (.map (some w.heap.size)) ∧ ∃ l : Array MapEntry, Add w w' (.map l 2) ∧ (l = #[⟨k1', v', 0⟩, ⟨k2', v', 1⟩] ∨ l = #[⟨k2', v', 0⟩, ⟨k1', v', 1⟩])) : Told1 P f (oSealed k1 k2 v0) := by
  intro args s v s' h hwf
  unfold oSealed at h
  split at h
  · cases h
    refine ⟨Mono.new _ _, fun ρ T w vs hp hargs => ?_⟩
    have hvs : vs = #[] := by
      rcases vs with ⟨l⟩
      cases hargs
      rfl
    subst hvs
    have hf : ρ s.n = none := hp.fresh s.n (Nat.le_refl _) (Nat.lt_succ_self _)
    refine (K w).mono ?_
    rintro e w' ⟨rfl, l, hA, hl⟩
    refine ⟨_, Post.made (o := .map l 2) (r := ⟨w.heap.size, 0, 0⟩) hp.good hp.wf hf hp.tn hA rfl ?_, VR.map s.n _ (Env.add_self _ _)⟩
    rcases hl with rfl | rfl
    · exact ⟨_, _, [⟨k1, v0, 0⟩, ⟨k2, v0, 1⟩], 2, Env.add_self _ _, hA.here, List.Perm.refl _, .cons _ _ _ _ (h1 _) (.cons _ _ _ _ (h2 _) .nil), .cons _ _ _ _ (h3 _) (.cons _ _ _ _ (h3 _) .nil)⟩
    · exact ⟨_, _, [⟨k2, v0, 1⟩, ⟨k1, v0, 0⟩], 2, Env.add_self _ _, hA.here, List.Perm.swap _ _ _, .cons _ _ _ _ (h2 _) (.cons _ _ _ _ (h1 _) .nil), .cons _ _ _ _ (h3 _) (.cons _ _ _ _ (h3 _) .nil)⟩
  · cases h
end
end Go.Proofs.YtjikgmbhnknojaaGreatDoor.Rk

/- A sorted list of a map's keys, told ahead. Plain lemmas. -/
namespace Go.Proofs.YtjikgmbhnknojaaGreatDoor.Rk
open Go Go.RowKit
set_option linter.unusedVariables false
theorem cmpA_refl : ∀ x : List Nat, cmpA x x = 0
  | [] => rfl
  | a :: x => by unfold cmpA; simp [cmpA_refl x]
theorem cmpA_le_total : ∀ x y : List Nat, cmpA x y ≤ 0 ∨ cmpA y x ≤ 0
  | [], [] => .inl (by decide)
  | [], _ :: _ => .inl (by simp [cmpA])
  | _ :: _, [] => .inr (by simp [cmpA])
  | a :: x, b :: y => by
    unfold cmpA
    rcases Nat.lt_trichotomy a b with h | h | h
    · left; simp [h]
    · subst h
      simpa using cmpA_le_total x y
    · right; simp [h]
theorem cmpA_le_antisymm : ∀ x y : List Nat, cmpA x y ≤ 0 → cmpA y x ≤ 0 → x = y
  | [], [], _, _ => rfl
  | [], _ :: _, _, h => by simp [cmpA] at h
  | _ :: _, [], h, _ => by simp [cmpA] at h
  | a :: x, b :: y, h1, h2 => by
    unfold cmpA at h1 h2
    rcases Nat.lt_trichotomy a b with h | h | h
    · simp [h, Nat.lt_asymm h] at h2
    · subst h
      simp at h1 h2
      rw [cmpA_le_antisymm x y h1 h2]
    · simp [h, Nat.lt_asymm h] at h1
theorem cmpA_le_trans : ∀ x y z : List Nat, cmpA x y ≤ 0 → cmpA y z ≤ 0 → cmpA x z ≤ 0
  | [], _, [], _, _ => by simp [cmpA]
  | [], _, _ :: _, _, _ => by simp [cmpA]
  | _ :: _, [], _, h, _ => by simp [cmpA] at h
  | _ :: _, _ :: _, [], _, h => by simp [cmpA] at h
  | a :: x, b :: y, c :: z, h1, h2 => by
    have ih := cmpA_le_trans x y z
    unfold cmpA at h1 h2 ⊢
    rcases Nat.lt_trichotomy a b with h | h | h
    · rcases Nat.lt_trichotomy b c with k | k | k
      · simp [show a < c by omega]
      · subst k; simp [h]
      · simp [k, Nat.lt_asymm k] at h2
    · subst h
      simp at h1
      rcases Nat.lt_trichotomy a c with k | k | k
      · simp [k]
      · subst k
        simp at h2 ⊢
        exact ih h1 h2
      · simp [k, Nat.lt_asymm k] at h2
    · simp [h, Nat.lt_asymm h] at h1
theorem insA_perm (x : List Nat) : ∀ l, (insA x l).Perm (x :: l)
  | [] => List.Perm.refl _
  | y :: l => by
    unfold insA
    split
    · exact List.Perm.refl _
    · exact ((insA_perm x l).cons y).trans (List.Perm.swap _ _ _)
theorem sortA_perm : ∀ l, (sortA l).Perm l
  | [] => List.Perm.refl _
  | x :: l => (insA_perm x (sortA l)).trans ((sortA_perm l).cons x)
theorem insA_sorted (x : List Nat) : ∀ {l : List (List Nat)}, l.Pairwise (fun a b => cmpA a b ≤ 0) → (insA x l).Pairwise (fun a b => cmpA a b ≤ 0)
  | [], _ => List.pairwise_singleton _ _
  | y :: l, h => by
    obtain ⟨h1, h2⟩ := List.pairwise_cons.1 h
    unfold insA
    split
    · rename_i hxy
      exact List.pairwise_cons.2 ⟨fun z hz => by
        rcases List.mem_cons.1 hz with rfl | hz
        · exact hxy
        · exact cmpA_le_trans _ _ _ hxy (h1 z hz), h⟩
    · rename_i hxy
      have hyx : cmpA y x ≤ 0 := (cmpA_le_total x y).resolve_left hxy
      refine List.pairwise_cons.2 ⟨fun z hz => ?_, insA_sorted x h2⟩
      rcases List.mem_cons.1 ((insA_perm x l).mem_iff.1 hz) with rfl | hz
      · exact hyx
      · exact h1 z hz
theorem sortA_sorted : ∀ l, (sortA l).Pairwise (fun a b => cmpA a b ≤ 0)
  | [] => List.Pairwise.nil
  | x :: l => insA_sorted x (sortA_sorted l)
def toA (b : ByteArray) : List Nat := b.data.toList.map UInt8.toNat
theorem toA_bs (l : List Nat) (h : ∀ x ∈ l, x < 256) : toA (bs l) = l := by
  unfold toA bs
  simp only [List.map_map]
  conv => rhs; rw [← List.map_id l]
  refine List.map_congr_left (fun x hx => ?_)
  have := h x hx
  simp only [Function.comp, UInt8.toNat_ofNat', id]
  omega
theorem bs_toA (b : ByteArray) : bs (toA b) = b := by
  obtain ⟨⟨l⟩⟩ := b
  unfold toA bs
  have : (UInt8.ofNat ∘ UInt8.toNat) = id := by funext x; simp
  simp [this]
theorem toA_lt (b : ByteArray) : ∀ x ∈ toA b, x < 256 := by
  intro x hx
  obtain ⟨u, _, rfl⟩ := List.mem_map.1 hx
  exact u.toNat_lt
section
variable {P : Program} {ρ : Env} {T : Nat → Nat → Prop} {s s' : St} {w w' : World}
theorem keysA_ok : ∀ {es : List ME} {l : List MapEntry} {ks : List (List Nat)}, keysA es = some ks → VRL ρ (es.map (·.k)) (l.map (·.key)) → l.map (·.key) = ks.map (fun k => Value.string (bs k)) ∧ ks.Nodup ∧ ∀ k ∈ ks, k.length ≤ 1000000 ∧ ∀ x ∈ k, x < 256
  | [], [], ks, h, hm => by simp [keysA] at h; subst h; exact ⟨rfl, List.nodup_nil, fun k hk => by cases hk⟩
  | [], _ :: _, ks, h, hm => by cases hm
  | _ :: _, [], ks, h, hm => by cases hm
  | e :: es, x :: l, ks, h, hm => by
    simp only [List.map_cons] at hm
    unfold keysA at h
    split at h
    · rename_i a r e1 e2
      split at h
      · rename_i hc
        cases h
        rw [e1] at hm
        cases hm with
        | cons _ v _ vs h1 h2 =>
          obtain ⟨g1, g2, g3⟩ := keysA_ok e2 h2
          obtain ⟨k1, k2⟩ := h1.str_inv
          simp only [Bool.and_eq_true, List.all_eq_true, Bool.not_eq_true', decide_eq_false_iff_not] at hc
          refine ⟨by rw [List.map_cons, List.map_cons, g1, k2]; rfl, List.nodup_cons.2 ⟨fun hin => hc.1 a hin rfl, g2⟩, fun k hk => ?_⟩
          rcases List.mem_cons.1 hk with rfl | hk
          · exact ⟨Nat.le_of_ble_eq_true hc.2, k1⟩
          · exact g3 k hk
      · cases h
    · cases h
/-- Above what was there a block is made, among others. -/
theorem Post.grown {st : TypeId} {cs : List AV} {cur : Array Value} {g : Nat} {s1 : St} (hp : Pre ρ T s s' w) (h1 : s1.heap = s.heap) (h2 : s1.n = s.n) (hs : s' = s1.new (.cells (2 * st) cs)) (hw : Below w.heap.size w w') (hg : w.heap.size ≤ g) (hb : w'.heap[g]? = some (.cells cur st (0, 0))) (hl : cs.length ≤ cur.size)
    (hv : ∀ (i : Nat) (a : AV), cs[i]? = some a → ∃ v, cur[i]? = some v ∧ VR ρ a v) : Post ρ T s w (ρ.add s.n ⟨g, 0, cur.size⟩) s' w' := by
  have hn : s'.n = s.n + 1 := by rw [hs]; show s1.n + 1 = _; rw [h2]
  have hheap : ∀ b, s'.heap.get b = if b = s.n then some (.cells (2 * st) cs) else s.heap.get b := fun b => by
    rw [hs]
    show (s1.heap.set s1.n _).get b = _
    rw [Tr.get_set, h1, h2]
  have hf : ρ s.n = none := hp.fresh s.n (Nat.le_refl _) (by omega)
  have hgl : g < w'.heap.size := (Array.getElem?_eq_some_iff.1 hb).1
  have hk : ∀ b r, ρ b = some r → w'.heap[r.blk]? = w.heap[r.blk]? := fun b r hb => hw.block _ (hp.good.old b r hb)
  have hself : (ρ.add s.n ⟨g, 0, cur.size⟩) s.n = some ⟨g, 0, cur.size⟩ := Env.add_self _ _
  have hle : ρ.le (ρ.add s.n ⟨g, 0, cur.size⟩) := Env.add_le hf
  have hne : ∀ b, b ≠ s.n → (ρ.add s.n ⟨g, 0, cur.size⟩) b = ρ b := fun b hb => by unfold Env.add; rw [if_neg hb]
  have hTn : ∀ b, (∃ i, Tn T s.n s'.n b i) → b ≠ s.n → ∃ i, T b i := fun b ⟨i, hi⟩ hb => by
    rcases hi with hi | hi
    · exact ⟨i, hi⟩
    · omega
  refine ⟨hle, fun b r hr => ?_, fun b r h3 h4 h5 => ?_, ⟨fun b x hx hT => ?_, fun b b' r r' x x' hx hx' hl hl' ht ht' hr hr' e => ?_, fun b r hr => ?_⟩, ⟨hw.os, hw.tape, hw.output, hw.size, fun B hB _ => hw.block B hB, fun B c t fr hc _ => ⟨c, (hw.block B (lt_of_some hc)).trans hc, rfl, fun _ _ => rfl⟩⟩⟩
  · by_cases hb : b = s.n
    · exact .inr (by omega)
    · rw [hne b hb] at hr; exact .inl hr
  · by_cases hb : b = s.n
    · subst hb
      rw [hself] at h4
      cases h4
      exact absurd h5 (Nat.not_lt.2 hg)
    · rw [hne b hb, h3] at h4; cases h4
  · rw [hheap] at hx
    by_cases hbn : b = s.n
    · subst hbn
      rw [if_pos rfl] at hx
      cases hx
      refine ⟨⟨g, 0, cur.size⟩, cur, (0, 0), hself, (by rw [two_half]; exact hb), (by simp), Fits.even st hl, fun o _ _ => by simp, fun i a ha _ => ?_⟩
      obtain ⟨v, k1, k2⟩ := hv i a ha
      exact ⟨v, by simpa using k1, k2.mono hle⟩
    · rw [if_neg hbn] at hx
      have hT' := hTn b hT hbn
      exact (hp.good.sat b x hx hT').mono hle (fun i hi => by
        rcases hi with hi | hi
        · exact hi
        · omega) (fun r hr => hk b r hr)
  · by_cases hbn : b = s.n
    · by_cases hbn' : b' = s.n
      · rw [hbn, hbn']
      · rw [hbn, hself] at hr
        rw [hne b' hbn'] at hr'
        cases hr
        have h6 := hp.good.old b' r' hr'
        have h7 : g = r'.blk := e
        omega
    · by_cases hbn' : b' = s.n
      · rw [hbn', hself] at hr'
        rw [hne b hbn] at hr
        cases hr'
        have h6 := hp.good.old b r hr
        have h7 : r.blk = g := e
        omega
      · rw [hheap, if_neg hbn] at hx
        rw [hheap, if_neg hbn'] at hx'
        rw [hne b hbn] at hr
        rw [hne b' hbn'] at hr'
        exact hp.good.inj b b' r r' x x' hx hx' hl hl' (hTn b ht hbn) (hTn b' ht' hbn') hr hr' e
  · by_cases hb : b = s.n
    · subst hb
      rw [hself] at hr
      cases hr
      exact hgl
    · rw [hne b hb] at hr
      exact Nat.lt_of_lt_of_le (hp.good.old b r hr) hw.size
theorem cmp_toA (a b : ByteArray) : Lib.compareBytes a.data.toList b.data.toList = cmpA (toA a) (toA b) := by
  have := cmpA_ok (toA a) (toA b) (toA_lt a) (toA_lt b)
  have e : ∀ c : ByteArray, (toA c).map UInt8.ofNat = c.data.toList := fun c => by
    have := bs_toA c
    have h2 := congrArg (fun x : ByteArray => x.data.toList) this
    simpa [bs] using h2
  rw [e, e] at this
  exact this
def unS : Value → List Nat
  | .string b => toA b
  | _ => []
theorem told_sorted {f h0 : FuncId} {gs : List FuncId} {st : TypeId} (K : ∀ g ∈ gs, ∀ (bm b clock : Nat) (es : Array MapEntry) (w : World), w.cell? ⟨bm, 0, none⟩ = some (.map (some b)) → w.heap[b]? = some (.map es clock) → (∀ x ∈ es.toList, x.born < clock) → (es.toList.map (·.born)).Nodup →
      (∀ x ∈ es.toList, ∃ k, x.key = .string k ∧ k.size ≤ 1000000) → (es.toList.map (·.key)).Nodup → es.size ≤ 1000000 →
      Calls P f #[.func (.func g) #[] #[.pointer (some ⟨bm, 0, none⟩)], .func (.func h0) #[] #[]] w fun e w' => Below w.heap.size w w' ∧ ∃ xs : List ByteArray, (xs.map Value.string).Perm (es.toList.map (·.key)) ∧ xs.Pairwise (fun a b => Lib.compareBytes a.data.toList b.data.toList ≤ 0) ∧
        ((xs = [] ∧ e = .returned (.slice none 0 0)) ∨ (xs ≠ [] ∧ ∃ gb cap cur, e = .returned (.slice (some ⟨gb, 0, none⟩) xs.length cap) ∧ w.heap.size ≤ gb ∧ w'.heap[gb]? = some (.cells cur st (0, 0)) ∧ xs.length ≤ cap ∧ cap ≤ cur.size ∧ ∀ (j : Nat) x, xs[j]? = some x → cur[j]? = some (.string x)))) : Told1 P f (oSorted gs h0 st) := by
  intro args s v s' h hwf
  unfold oSorted at h
  split at h
  · rename_i s0 g bm hh
    split at h
    · rename_i hc0
      simp only [Bool.and_eq_true, List.contains_iff_mem] at hc0
      obtain ⟨hg, hh0⟩ := hc0
      have := nbeq hh0
      subst this
      split at h
      · rename_i t b rest hbm
        split at h
        · rename_i es clock hb
          split at h
          · rename_i ks hks
            split at h
            · rename_i hc
              simp only [Bool.and_eq_true] at hc
              obtain ⟨⟨hc1, hc2⟩, hc3⟩ := hc
              have hm2 : Mono s ((s.note (.rd bm 0 1)).note (.rd b 0 1)) := (Mono.note s (.rd bm 0 1) ⟨_, hbm, trivial⟩).trans (Mono.note (s.note (.rd bm 0 1)) (.rd b 0 1) ⟨.map es clock, hb, trivial⟩)
              -- what the model's call gives
              have main : ∀ (ρ : Env) (T : Nat → Nat → Prop) (w : World) (vs : Array Value), LE.rd bm 0 1 ∈ s'.log → LE.rd b 0 1 ∈ s'.log → Pre ρ T s s' w → VRL ρ [.func g [] [.ptr bm 0], .func hh [] []] vs.toList →
                  Calls P f vs w fun e w' => Below w.heap.size w w' ∧ ∃ xs : List ByteArray, xs.map toA = sortA ks ∧ ((xs = [] ∧ e = .returned (.slice none 0 0)) ∨ (xs ≠ [] ∧ ∃ gb cap cur, e = .returned (.slice (some ⟨gb, 0, none⟩) xs.length cap) ∧ w.heap.size ≤ gb ∧ w'.heap[gb]? = some (.cells cur st (0, 0)) ∧ xs.length ≤ cap ∧ cap ≤ cur.size ∧ ∀ (j : Nat) x, xs[j]? = some x → cur[j]? = some (.string x))) := by
                intro ρ T w vs hl1 hl2 hp hargs
                obtain ⟨x', y', rfl, hx, hy⟩ := vrl2 hargs
                cases hy with
                | func _ _ _ k1 l1 a1 a2 =>
                cases hx with
                | func _ _ _ k2 l2 a3 a4 =>
                have z1 : k1 = #[] := by rcases k1 with ⟨l⟩; cases a1; rfl
                have z2 : l1 = #[] := by rcases l1 with ⟨l⟩; cases a2; rfl
                have z3 : k2 = #[] := by rcases k2 with ⟨l⟩; cases a3; rfl
                subst z1 z2 z3
                obtain ⟨x1, z4, hx1⟩ := vrl1 a4
                subst z4
                cases hx1 with
                | ptr _ _ r hr =>
                have hT1 : T bm 0 := hp.cov (.rd bm 0 1) hl1 (lt_n hp.wf hbm) bm 0 ⟨rfl, Nat.le_refl _, Nat.one_pos⟩
                have hT2 : T b 0 := hp.cov (.rd b 0 1) hl2 (lt_n hp.wf hb) b 0 ⟨rfl, Nat.le_refl _, Nat.one_pos⟩
                obtain ⟨r0, c, fr, q1, q2, q3, q4, q5, q6⟩ := hp.good.sat bm _ hbm ⟨0, hT1⟩
                have : r0 = r := Option.some.inj (q1.symm.trans hr)
                subst this
                obtain ⟨x1, _⟩ := q4.2 (nbeq hc1)
                obtain ⟨u, hu, hR⟩ := q6 0 (.map b) rfl hT1
                cases hR with
                | map _ rb hrb =>
                obtain ⟨r1, l, p1, p2, p3⟩ := hp.good.sat b _ hb ⟨0, hT2⟩
                have : r1 = rb := Option.some.inj (p1.symm.trans hrb)
                subst this
                obtain ⟨s1, s2⟩ := stamps_ok hc2 p3.2.2
                obtain ⟨k1, k2, k3⟩ := keysA_ok hks p3.1
                have hat : r0.at 0 = ⟨r0.blk, 0, none⟩ := by unfold RB.at; rw [x1]
                rw [x1] at hu
                rw [hat]
                refine (K g hg r0.blk r1.blk clock l w (by rw [cell_in q2]; exact hu) p2 s1 s2 (fun x hx => ?_) ?_ ?_).mono ?_
                · have hin : x.key ∈ l.toList.map (·.key) := List.mem_map.2 ⟨x, hx, rfl⟩
                  rw [k1] at hin
                  obtain ⟨k, hk, e⟩ := List.mem_map.1 hin
                  exact ⟨bs k, e.symm, by simp only [bs, ByteArray.size]; simpa using (k3 k hk).1⟩
                · rw [k1]
                  refine List.Pairwise.map _ (fun a b hab => ?_) (List.Pairwise.imp_of_mem (fun {a b} ha hb hab => (⟨hab, (k3 a ha).2, (k3 b hb).2⟩ : a ≠ b ∧ (∀ x ∈ a, x < 256) ∧ ∀ x ∈ b, x < 256)) k2)
                  intro he
                  have h5 := congrArg unS he
                  simp only [unS, toA_bs a hab.2.1, toA_bs b hab.2.2] at h5
                  exact hab.1 h5
                · have := p3.2.2
                  have h5 : l.toList.length = es.length := by
                    have := congrArg List.length this
                    simpa using this.symm
                  have := Nat.le_of_ble_eq_true hc3
                  rw [← Array.length_toList]
                  omega
                · rintro e w' ⟨hbw, xs, y1, y2, y3⟩
                  refine ⟨hbw, xs, ?_, y3⟩
                  refine List.Perm.eq_of_pairwise (le := fun a b => cmpA a b ≤ 0) (fun a b _ _ => cmpA_le_antisymm a b) ?_ (sortA_sorted ks) ?_
                  · exact List.Pairwise.map _ (fun a b hab => by rw [← cmp_toA]; exact hab) y2
                  · have h6 := y1.map unS
                    rw [k1, List.map_map, List.map_map] at h6
                    have e1 : xs.map (unS ∘ Value.string) = xs.map toA := rfl
                    have e2 : ks.map (unS ∘ fun k => Value.string (bs k)) = ks := by
                      conv => rhs; rw [← List.map_id ks]
                      exact List.map_congr_left (fun k hk => toA_bs k (k3 k hk).2)
                    rw [e1, e2] at h6
                    exact h6.trans (sortA_perm ks).symm
              split at h
              · rename_i hnil
                cases h
                refine ⟨hm2, fun ρ T w vs hp hargs => (main ρ T w vs (List.mem_cons_of_mem _ (List.mem_cons_self ..)) (List.mem_cons_self ..) hp hargs).mono ?_⟩
                rintro e w' ⟨hbw, xs, y1, y2⟩
                rw [hnil] at y1
                have hxs : xs = [] := List.map_eq_nil_iff.1 y1
                rcases y2 with ⟨_, rfl⟩ | ⟨hne, _⟩
                · exact ⟨ρ, Post.below hp.good rfl rfl hbw, .nils⟩
                · exact absurd hxs hne
              · rename_i l hne
                cases h
                refine ⟨hm2.trans (Mono.new _ _), fun ρ T w vs hp hargs => (main ρ T w vs (List.mem_cons_of_mem _ (List.mem_cons_self ..)) (List.mem_cons_self ..) hp hargs).mono ?_⟩
                rintro e w' ⟨hbw, xs, y1, y2⟩
                have hlen : xs.length = (sortA ks).length := by rw [← y1, List.length_map]
                rcases y2 with ⟨rfl, _⟩ | ⟨_, gb, cap, cur, rfl, g1, g2, g3, g4, g5⟩
                · simp only [List.map_nil] at y1
                  exact absurd y1.symm (by assumption)
                · refine ⟨_, Post.grown (s1 := (s.note (.rd bm 0 1)).note (.rd b 0 1)) hp rfl rfl rfl hbw g1 g2 (by rw [List.length_map]; omega) (fun i a ha => ?_), ?_⟩
                  · rw [List.getElem?_map, Option.map_eq_some_iff] at ha
                    obtain ⟨k, hk, rfl⟩ := ha
                    rw [← y1, List.getElem?_map, Option.map_eq_some_iff] at hk
                    obtain ⟨x, hx, rfl⟩ := hk
                    refine ⟨.string x, g5 i x hx, ?_⟩
                    have := VR.str (ρ := ρ) (toA x) (toA_lt x)
                    have e : (⟨((toA x).map UInt8.ofNat).toArray⟩ : ByteArray) = x := bs_toA x
                    rwa [e] at this
                  · rw [← hlen]
                    exact .slice s.n 0 _ _ _ _ _ cap (Env.add_self _ _) (Nat.le_refl _) g3 (.inr ⟨rfl, by simpa using g4⟩)
            · cases h
          · cases h
        · cases h
      · cases h
    · cases h
  · cases h
end
end Go.Proofs.YtjikgmbhnknojaaGreatDoor.Rk

/- bits.Crc, told ahead. Plain lemmas. -/
namespace Go.Proofs.YtjikgmbhnknojaaGreatDoor.Rk
open Go Go.RowKit
set_option linter.unusedVariables false
def crcBitN (x : Nat) : Nat := bif Nat.beq (x % 2) 1 then (x / 2) ^^^ 3988292384 else x / 2
def crcBitsN : Nat → Nat → Nat
  | 0, x => x
  | n + 1, x => crcBitsN n (crcBitN x)
def crcFromN : Nat → List Nat → Nat
  | x, [] => x
  | x, b :: l => crcFromN (crcBitsN 8 (x ^^^ b)) l
def crcN (l : List Nat) : Nat := crcFromN 4294967295 l ^^^ 4294967295
/-- bits.Crc. -/
def oCrc : List AV → St → Option (AV × St)
  | [.str l], s => if Nat.ble l.length 1000000 then some (.int .i64 (Int.ofNat (crcN l)), s) else none
  | _, _ => none
section
variable {P : Program} {ρ : Env} {T : Nat → Nat → Prop} {s s' : St} {w w' : World}
theorem told_crc {f : FuncId} (K : ∀ (b : ByteArray) (w : World), b.size ≤ 1000000 → Calls P f #[.string b] w fun e w' => e = .returned (.int .i64 (crcN (toA b) : Nat)) ∧ w = w') : Told1 P f oCrc := by
  intro args s v s' h hwf
  unfold oCrc at h
  split at h
  · rename_i s0 x
    split at h
    · rename_i hl
      cases h
      refine ⟨Mono.refl _, fun ρ T w vs hp hargs => ?_⟩
      obtain ⟨x', rfl, hx⟩ := vrl1 hargs
      cases hx with
      | str _ hxl =>
      refine (K ⟨(x.map UInt8.ofNat).toArray⟩ w (by simp only [ByteArray.size, List.size_toArray, List.length_map]; exact Nat.le_of_ble_eq_true hl)).mono ?_
      rintro e w' ⟨rfl, rfl⟩
      refine ⟨ρ, Post.refl hp, ?_⟩
      have := toA_bs x hxl
      unfold bs at this
      rw [this]
      exact .int _ _
    · cases h
  · cases h
end
end Go.Proofs.YtjikgmbhnknojaaGreatDoor.Rk
