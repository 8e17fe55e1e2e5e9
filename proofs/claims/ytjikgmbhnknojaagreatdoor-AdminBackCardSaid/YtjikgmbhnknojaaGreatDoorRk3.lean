/- Parts, joined. -/
import Derived.Test.YtjikgmbhnknojaaGreatDoorRk2
import Derived.Lib.UnsafeStr
import Derived.RangeFuncRecord
import Derived.OrdersIn
import Derived.TacticsIn
/- unsafe.SliceData and unsafe.String. Plain lemmas. -/
namespace Go.Proofs.YtjikgmbhnknojaaGreatDoor.Rk
open Go
set_option linter.unusedVariables false
section
variable {P : Program} {ρ : Env} {T : Nat → Nat → Prop} {s s' : St} {w w' : World}
theorem sliceDataA_ok {ts : Array TypeId} {ty : TypeId} {x v : AV} {x' : Value} (h : sliceDataA [x] = some v) (hp : Pre ρ T s s w) (hx : VR ρ x x') : OK1 P (Builtin.unsafeSliceData_ ts ty #[x']) ρ T s w v s := by
  unfold sliceDataA at h
  split at h
  · rename_i he
    cases he
    cases h
    cases hx
    exact OK1.pure hp rfl .nilp
  · rename_i b off len mc es he
    cases he
    split at h
    · rename_i hl
      cases h
      cases hx with
      | slice _ _ _ _ _ r ad cap hb h1 h2 h3 =>
      have hc : cap ≠ 0 := by omega
      obtain ⟨had, _⟩ := h3.resolve_left hc
      subst had
      exact OK1.pure hp (Lib.run_unsafeSliceData_row w ts ty _ _ _ hc) (.ptr b off r hb)
    · cases h
  · cases h
/-- n bytes of a row, wherever. -/
theorem liesAt_bytes' {e : TypeId} (hc : P.cellsOf e = 1) (count off n : Nat) (hn : off + n ≤ count) : liesAt P P.depth e count off e n = true := by
  have hd : P.depth = (2 * (P.types.size + Made.depth) + 1) + 1 := rfl
  rw [hd]
  simp only [liesAt, Bool.or_eq_true]
  left
  rw [hd]
  simp [rowAt, hc, hn, sameLayout, Nat.mod_one]
theorem loadBytes_ok : ∀ (xs : List Int) (a : Addr) (acc : ByteArray), (∀ (j : Nat) x, xs[j]? = some x → w.cell? (a.add j) = some (.int .u8 x)) →
    (loadBytes a acc xs.length).run P w = .ok ⟨acc.data ++ (xs.map fun n => UInt8.ofNat n.toNat).toArray⟩ w
  | [], a, acc, _ => by simp [loadBytes]
  | x :: l, a, acc, h => by
    have h0 : w.cell? a = some (.int .u8 x) := by
      have := h 0 x rfl
      simpa [Addr.add] using this
    have ih := loadBytes_ok l (a.add 1) (acc.push x.toNat.toUInt8) (fun j y hy => by
      have := h (j + 1) y (by simpa using hy)
      have e : (a.add 1).add j = a.add (j + 1) := by
        unfold Addr.add
        by_cases hj : j = 0
        · subst hj; simp
        · simp [hj]; omega
      rw [e]; exact this)
    simp only [List.length_cons, loadBytes, Sem.run_bind, run_load, h0, Result.andThen]
    rw [ih]
    congr 1
    apply ByteArray.ext
    simp [ByteArray.push]
theorem stringA_mono {t : TypeId} {args : List AV} {v : AV} (h : stringA P t args s = some (v, s')) : Mono s s' := by
  unfold stringA at h
  split at h
  · split at h
    · cases h; exact Mono.refl _
    · cases h
  · split at h
    · rename_i t0 cs0 hu hb
      split at h
      · split at h
        · rename_i cs s1 hr
          split at h
          · cases h
            obtain ⟨e1, m1⟩ := rd_mono hr
            refine m1.trans (Mono.put_note _ _ _ ⟨.cells t0 cs0, ?_, trivial⟩)
            rw [e1]
            exact hb
          · cases h
        · cases h
      · cases h
    · cases h
  · cases h
theorem freeze_alt {w : World} {B : Nat} {c : Array Value} {t : TypeId} {fr : Nat × Nat} (h : w.heap[B]? = some (.cells c t fr)) (o n : Nat) (hn : n ≠ 0) : ∃ fr', Alt w (w.freeze ⟨B, o, none⟩ n) B (.cells c t fr') := by
  unfold World.freeze
  rw [if_neg hn]
  obtain ⟨lo, hi⟩ := fr
  refine ⟨if lo == hi then (o, o + n) else (min lo o, max hi (o + n)), rfl, rfl, rfl, by simp, ?_, fun B' hB => ?_⟩
  · simp [Array.getElem?_modify, h]
  · simp [Array.getElem?_modify, Ne.symm hB]
theorem stringA_ok {pt it ty : TypeId} {x y v : AV} {x' y' : Value} (h : stringA P pt [x, y] s = some (v, s')) (hp : Pre ρ T s s' w) (hx : VR ρ x x') (hy : VR ρ y y') : OK1 P (Builtin.unsafeString_ #[pt, it] ty #[x', y']) ρ T s w v s' := by
  unfold stringA at h
  split at h
  · rename_i n he
    cases he
    split at h
    · rename_i hn
      cases h
      subst hn
      cases hx
      cases hy
      exact OK1.pure hp (Lib.run_unsafeString_none (P := P) w pt it ty none) (VR.string ByteArray.empty)
    · cases h
  · rename_i b off n he
    cases he
    split at h
    · rename_i e t0 cs0 hu hb
      split at h
      · rename_i hc
        obtain ⟨c1, c2, c3, c4⟩ := hc
        subst c1
        split at h
        · rename_i cs s1 hr
          split at h
          · rename_i l hl
            cases h
            cases hx with
            | ptr _ _ r hbr =>
            cases hy
            obtain ⟨e1, m1⟩ := rd_mono hr
            have hb1 : s1.heap.get b = some (.cells t0 cs0) := by rw [e1]; exact hb
            have m2 : Mono s1 ((s1.put b .dead).note (.all b)) := Mono.put_note _ _ _ ⟨_, hb1, trivial⟩
            obtain ⟨vs, h1, h2, h3⟩ := rd_ok hr (hp.first m2) hbr
            obtain ⟨xs, x1, x2, x3, x4⟩ := byteAt_ok hl h2
            have hT : ∃ i, T b i := ⟨0, hp.cov (.all b) (List.mem_cons_self ..) (lt_n hp.wf hb) b 0 rfl⟩
            obtain ⟨r0, c, fr, q1, q2, q3, q4, q5, q6⟩ := hp.good.sat b _ hb hT
            have : r0 = r := Option.some.inj (q1.symm.trans hbr)
            subst this
            have hxl : xs.length = n := by rw [← h1, x2, List.length_map]
            have hcsl : off + n ≤ cs0.length := by
              have hr' := hr
              unfold rdCells at hr'
              rw [hb] at hr'
              simp only at hr'
              split at hr'
              · rename_i l1 hcut
                obtain ⟨_, z2⟩ := cutL_ok hcut
                exact z2.resolve_left (by omega)
              · cases hr'
            have hpost1 : Post ρ T s w ρ s1 w := Post.same hp.good (by rw [e1]; rfl) (by rw [e1]; rfl) (Still.refl w)
            have hp1 := hp.next m1 m2 hpost1
            obtain ⟨fr', halt⟩ := freeze_alt q2 (r0.base + off) n (by omega)
            have hpost2 : Post ρ (Tn T s.n s1.n) s1 w ρ ((s1.put b .dead).note (.all b)) (w.freeze ⟨r0.blk, r0.base + off, none⟩ n) :=
              Post.alt (x' := .dead) hp1.good hb1 trivial (let ⟨i, hi⟩ := hT; ⟨i, .inl hi⟩) hbr halt trivial
            refine ⟨ρ, _, .string ⟨(l.map UInt8.ofNat).toArray⟩, ?_, hpost1.trans m1 m2 hpost2, .str l x3⟩
            have hlb := loadBytes_ok (P := P) (w := w) xs (r0.at off) .empty (fun j x hj => h3 j _ (by rw [x2, List.getElem?_map, hj]; rfl))
            have hsh : w.shape? r0.blk = some (t0 / 2, c.size) := by simp [World.shape?, q2]
            have hlies := liesAt_bytes' (P := P) c2 (c.size / P.cellsOf (t0 / 2)) (r0.base + off) n (by
              rw [c2, Nat.div_one]
              have := q4.1
              omega)
            have h63 : ¬ (9223372036854775807 : Int) < (n : Int) := by omega
            have hn0 : ¬ n = 0 := by omega
            have hneg : ¬ (n : Int) < 0 := by omega
            have hmax : IntKind.i64.max = 9223372036854775807 := rfl
            have hdef : Builtin.unsafeString_ #[pt, it] ty #[.pointer (some (r0.at off)), .int .i64 (n : Int)] =
                (do
                  let n ← asInt (.int .i64 (n : Int))
                  if n < 0 then runtimePanic (.error "unsafe.String: len out of range")
                  if n > IntKind.i64.max then unsupported (.unsafePointer "String: a length above the largest int")
                  if n = 0 then pure (.string .empty)
                  else if ← variablesAt (r0.at off) (← elemOf pt) n.toNat then do
                    let s ← loadBytes (r0.at off) .empty n.toNat
                    freeze (r0.at off) n.toNat
                    pure (.string s)
                  else unsupported (.unsafePointer "String: not so many bytes at ptr")) := rfl
            show (Builtin.unsafeString_ #[pt, it] ty #[.pointer (some (r0.at off)), .int .i64 (n : Int)]).run P w = _
            rw [hdef]
            rw [hxl] at hlb
            have hat : (r0.at off).off = r0.base + off := rfl
            have hat2 : (r0.at off).block = r0.blk := rfl
            rw [x4] at hlb
            simp [asInt, asIntOf, hmax, h63, hneg, hn0, variablesAt, hsh, elemOf, run_underlying hu, hlies, hlb, hat, hat2]
            rfl
          · cases h
        · cases h
      · cases h
    · cases h
  · cases h
end
end Go.Proofs.YtjikgmbhnknojaaGreatDoor.Rk

/- What the reckoner's operations say of the model's, all together. Plain lemmas. -/
namespace Go.Proofs.YtjikgmbhnknojaaGreatDoor.Rk
open Go
set_option linter.unusedVariables false
inductive DefR (ρ : Env) : DE → Deferred → Prop
  | fn (f : FuncId) (args : List AV) (cap as : Array Value) (h : VRL ρ args (as ++ cap).toList) : DefR ρ (.fn f args) { target := .fn (.func f) cap, args := as }
  | mark (b : Nat) (r : RB) (h : ρ b = some r) : DefR ρ (.mark b) { target := .collected r.blk, args := #[] }
inductive DefsR (ρ : Env) : List DE → List Deferred → Prop
  | nil : DefsR ρ [] []
  | cons (e : DE) (d : Deferred) (l : List DE) (k : List Deferred) (h : DefR ρ e d) (t : DefsR ρ l k) : DefsR ρ (e :: l) (d :: k)
theorem DefsR.mono {ρ ρ' : Env} (hr : ρ.le ρ') : ∀ {l : List DE} {k : List Deferred}, DefsR ρ l k → DefsR ρ' l k
  | _, _, .nil => .nil
  | _, _, .cons _ _ _ _ h t => .cons _ _ _ _ (by
      cases h with
      | fn f args cap as h => exact .fn f args cap as (VRL.mono hr h)
      | mark b r h => exact .mark b r (hr _ _ h)) (DefsR.mono hr t)
structure ActR (ρ : Env) (aa : AAct) (a : Act) : Prop where
  size : a.tmps.size = aa.sz
  get : ∀ t, VR ρ (aa.get t) (a.tmps.getD t undef)
  defs : DefsR ρ aa.defs a.defers
section
variable {P : Program} {ρ : Env} {T : Nat → Nat → Prop} {s s' : St} {w w' : World} {aa : AAct} {a : Act}
theorem ActR.mono {ρ' : Env} (h : ActR ρ aa a) (hr : ρ.le ρ') : ActR ρ' aa a := ⟨h.size, fun t => (h.get t).mono hr, h.defs.mono hr⟩
theorem ActR.eval (h : ActR ρ aa a) (x : Operand) : VR ρ (aeval aa x) (a.eval x) := by
  cases x with
  | tmp t => exact h.get t
  | const v => exact ofV_ok 3 v
  | global g => exact .top _
  | func f => exact .func f [] [] #[] #[] .nil .nil
theorem undef_ok : VR ρ undefA undef := .tuple [] #[] .nil
theorem ActR.putT {v : AV} {v' : Value} (h : ActR ρ aa a) (d : Tmp) (hv : VR ρ v v') : ActR ρ (aa.putT d v) { a with tmps := a.tmps.setIfInBounds d v' } := by
  unfold AAct.putT
  split
  · rename_i hd
    refine ⟨by simp [h.size], fun t => ?_, h.defs⟩
    unfold AAct.get
    rw [Tr.get_set]
    by_cases ht : t = d
    · subst ht
      rw [if_pos rfl]
      have hlt : t < a.tmps.size := by rw [h.size]; exact hd
      simpa [Array.getD_eq_getD_getElem?, Array.getElem?_setIfInBounds, hlt] using hv
    · rw [if_neg ht]
      have := h.get t
      unfold AAct.get at this
      simpa [Array.getD_eq_getD_getElem?, Array.getElem?_setIfInBounds, Ne.symm ht] using this
  · rename_i hd
    have : a.tmps.setIfInBounds d v' = a.tmps := by
      apply Array.ext_getElem?
      intro i
      rw [Array.getElem?_setIfInBounds]
      split
      · rename_i hi
        subst hi
        rw [if_neg (by rw [h.size]; exact hd), Array.getElem?_eq_none (Nat.not_lt.1 (by rw [h.size]; exact hd))]
      · rfl
    rw [this]
    exact h
theorem ActR.put {v : AV} {v' : Value} (h : ActR ρ aa a) (d : Option Tmp) (hv : VR ρ v v') : ActR ρ (aa.put d v) (a.put d v') := by
  cases d with
  | none => exact h
  | some d => exact h.putT d hv
theorem ActR.args (h : ActR ρ aa a) (xs : Array Operand) : VRL ρ (xs.toList.map (aeval aa)) (xs.map a.eval).toList := by
  rw [Array.toList_map]
  exact VRL.map _ _ _ (fun x _ => h.eval x)
theorem ActR.opt (h : ActR ρ aa a) (x : Option Operand) : VRO ρ (x.map (aeval aa)) (x.map a.eval) := by
  cases x with
  | none => exact .none
  | some x => exact .some _ _ (h.eval x)
theorem ActR.parts (h : ActR ρ aa a) (ps : Array (Nat × Operand)) : PR ρ (parts aa ps) (ps.map fun (i, x) => (i, a.eval x)).toList := by
  unfold Rk.parts
  rw [Array.toList_map]
  have : ∀ l : List (Nat × Operand), PR ρ (l.map fun p => (p.1, aeval aa p.2)) (l.map fun (i, x) => (i, a.eval x)) := by
    intro l
    induction l with
    | nil => exact .nil
    | cons p l ih => exact .cons p.1 _ _ _ _ (h.eval p.2) ih
  exact this _
theorem opRange_mono {t : TypeId} {x v : AV} (h : opRange P t x s = some (v, s')) : Mono s s' := by
  unfold opRange at h
  split at h
  · cases h; exact Mono.new _ _
  · cases h; exact Mono.new _ _
  · split at h
    · rename_i es clock hm
      cases h; exact (Mono.note _ (.rd _ 0 1) ⟨.map es clock, hm, trivial⟩).trans (Mono.new _ _)
    · cases h
  · cases h
theorem opRange_ok {t : TypeId} {x v : AV} {x' : Value} (h : opRange P t x s = some (v, s')) (hp : Pre ρ T s s' w) (hx : VR ρ x x') : OK1 P (Instr.range t x') ρ T s w v s' := by
  unfold opRange at h
  split at h
  · rename_i l hu
    cases h
    cases hx with
    | str _ hl =>
    have hf : ρ s.n = none := hp.fresh s.n (Nat.le_refl _) (Nat.lt_succ_self _)
    refine ⟨_, _, .pointer (some ⟨w.heap.size, 0, none⟩), by simp [Instr.range, run_underlying hu], Post.made (o := .stringIter ⟨(l.map UInt8.ofNat).toArray⟩ 0) (r := ⟨w.heap.size, 0, 0⟩) hp.good hp.wf hf hp.tn (Add.push w _) rfl ⟨_, Env.add_self _ _, rfl, (Add.push w _).here, hl⟩, ?_⟩
    exact .ptr s.n 0 _ (Env.add_self _ _)
  · rename_i k e hu
    cases h
    cases hx
    have hf : ρ s.n = none := hp.fresh s.n (Nat.le_refl _) (Nat.lt_succ_self _)
    refine ⟨_, _, .pointer (some ⟨w.heap.size, 0, none⟩), by simp [Instr.range, run_underlying hu], Post.made (o := .mapIter none 0 #[] 0) (r := ⟨w.heap.size, 0, 0⟩) hp.good hp.wf hf hp.tn (Add.push w _) rfl ⟨_, none, Env.add_self _ _, rfl, (Add.push w _).here, rfl⟩, ?_⟩
    exact .ptr s.n 0 _ (Env.add_self _ _)
  · rename_i k e m hu
    split at h
    · rename_i es clock hm
      cases h
      cases hx with
      | map _ r hbr =>
      have hmn := lt_n hp.wf hm
      have hT : T m 0 := hp.cov (.rd m 0 1) (List.mem_cons_self ..) hmn m 0 ⟨rfl, Nat.le_refl _, Nat.one_pos⟩
      obtain ⟨r0, l, q1, q2, q3⟩ := hp.good.sat m _ hm ⟨0, hT⟩
      have : r0 = r := Option.some.inj (q1.symm.trans hbr)
      subst this
      have hf : ρ s.n = none := hp.fresh s.n (Nat.le_refl _) (Nat.lt_succ_self _)
      have hpost : Post ρ T s w ρ (s.note (.rd m 0 1)) w := Post.same hp.good rfl rfl (Still.refl w)
      have hmn1 : Mono s (s.note (.rd m 0 1)) := Mono.note _ _ ⟨_, hm, trivial⟩
      have hpre := hp.next hmn1 (Mono.new _ (.miter (some m) clock [] clock)) hpost
      refine ⟨_, _, .pointer (some ⟨w.heap.size, 0, none⟩), by simp [Instr.range, run_underlying hu, MapKept.run_getObj_map q2], hpost.trans hmn1 (Mono.new _ _) (Post.made (o := .mapIter (some r0.blk) clock #[] clock) (r := ⟨w.heap.size, 0, 0⟩) hpre.good hpre.wf hf hpre.tn (Add.push w _) rfl ⟨_, some r0.blk, Env.add_self _ _, rfl, (Add.push w _).here, r0, Env.add_le hf _ _ hbr, rfl⟩), ?_⟩
      exact .ptr s.n 0 _ (Env.add_self _ _)
    · cases h
  · cases h
theorem opNext_mono {x v : AV} (h : opNext x s = some (v, s')) : Mono s s' := by
  unfold opNext at h
  split at h
  · split at h
    · rename_i hb
      cases h; exact Mono.note _ _ ⟨_, hb, trivial⟩
    · rename_i m0 _ _ _ hb
      split at h
      · rename_i hm
        have hnm : ∀ b0 a1 a2 a3 a4, s.heap.get b0 = some (.miter a1 a2 a3 a4) → m0 ≠ b0 := fun b0 _ _ _ _ hb e => by subst e; rw [hm] at hb; cases hb
        split at h
        · split at h
          · cases h; exact (Mono.note _ (.all _) ⟨.miter _ _ _ _, hb, trivial⟩).trans (Mono.note _ (.rd _ 0 1) ⟨.map _ _, hm, trivial⟩)
          · split at h
            · cases h; exact (Mono.put_note _ _ _ ⟨_, hb, trivial⟩).trans (Mono.note _ (.rd _ 0 1) ⟨.map _ _, by
                show (s.put _ _).heap.get m0 = _
                rw [get_put, if_neg (hnm _ _ _ _ _ hb)]; exact hm, trivial⟩)
            · cases h
          · cases h
        · cases h
      · cases h
    · cases h
  · cases h
theorem opNext_ok {x v : AV} {x' : Value} {ty : TypeId} (h : opNext x s = some (v, s')) (hp : Pre ρ T s s' w) (hx : VR ρ x x') : OK1 P (Instr.next x' false ty) ρ T s w v s' := by
  unfold opNext at h
  split at h
  · rename_i b
    cases hx with
    | ptr _ _ r hbr =>
    split at h
    · rename_i hb
      cases h
      have hT : ∀ i, T b i := fun i => hp.cov (.all b) (List.mem_cons_self ..) (lt_n hp.wf hb) b i rfl
      obtain ⟨r0, m', q1, q2, q3, q4⟩ := hp.good.sat b _ hb ⟨0, hT 0⟩
      have : r0 = r := Option.some.inj (q1.symm.trans hbr)
      subst this
      have q4 : m' = none := q4
      subst q4
      refine ⟨ρ, w, _, ?_, Post.same hp.good rfl rfl (Still.refl w), .tuple _ _ (.cons _ _ _ _ (.bool false) .nil)⟩
      simp [Instr.next, RB.at, q2, getObj, Sem.run, q3]
    · rename_i m since seen last hb
      split at h
      · rename_i es clock hm
        split at h
        · rename_i hcond
          have hmn := lt_n hp.wf hm
          have hbn := lt_n hp.wf hb
          have hlog : LE.all b ∈ s'.log ∧ LE.rd m 0 1 ∈ s'.log := by
            split at h
            · cases h; exact ⟨List.mem_cons_of_mem _ (List.mem_cons_self ..), List.mem_cons_self ..⟩
            · split at h
              · cases h; exact ⟨List.mem_cons_of_mem _ (List.mem_cons_self ..), List.mem_cons_self ..⟩
              · cases h
            · cases h
          have hT : ∀ i, T b i := fun i => hp.cov (.all b) hlog.1 hbn b i rfl
          have hTm : T m 0 := hp.cov (.rd m 0 1) hlog.2 hmn m 0 ⟨rfl, Nat.le_refl _, Nat.one_pos⟩
          obtain ⟨r0, m', q1, q2, q3, q, q5, q6⟩ := hp.good.sat b _ hb ⟨0, hT 0⟩
          have : r0 = r := Option.some.inj (q1.symm.trans hbr)
          subst this
          subst q6
          obtain ⟨rm, l, p1, p2, p3⟩ := hp.good.sat m _ hm ⟨0, hTm⟩
          have : rm = q := Option.some.inj (p1.symm.trans q5)
          subst this
          have p3 : MR ρ es l.toList := p3
          have hany := p3.any (fun b => decide (b < last))
          have hguard : (!seen.toArray.isEmpty && !l.isEmpty && l.all (fun e => decide (e.born ≥ last))) = false := by
            have e1 : l.isEmpty = es.isEmpty := by
              have := p3.len
              rw [Array.length_toList] at this
              rw [Bool.eq_iff_iff]
              simp only [Array.isEmpty_iff_size_eq_zero, List.isEmpty_iff_length_eq_zero]
              omega
            have e2 : l.all (fun e => decide (e.born ≥ last)) = !(es.any (fun e => decide (e.born < last))) := by
              rw [hany, ← Array.all_toList, List.not_any_eq_all_not]
              congr 1
              funext e
              rw [Bool.eq_iff_iff]
              simp
            rw [e1, e2]
            simp only [Bool.or_eq_true] at hcond
            rcases hcond with (h1 | h1) | h1
            · have : seen.toArray.isEmpty = true := by simpa using h1
              rw [this]; rfl
            · rw [h1]; simp
            · rw [h1]; simp
          have hleft := p3.filter (fun b => !seen.contains b)
          have hleft' : (l.filter (fun e => !seen.toArray.contains e.born)).toList = l.toList.filter (fun e => !seen.contains e.born) := by
            rw [Array.toList_filter]
            congr 1
            funext e
            simp
          have hget : (getObj r0.blk).run P w = .ok (.mapIter (some rm.blk) since seen.toArray last) w := by simp [getObj, Sem.run, q3]
          split at h
          · rename_i hnil
            cases h
            rw [hnil] at hleft
            have hl0 := hleft.inv_nil
            have hl1 : l.filter (fun e => !seen.toArray.contains e.born) = #[] := by
              apply Array.ext'
              rw [hleft', hl0]
            refine ⟨ρ, w, _, ?_, Post.same hp.good rfl rfl (Still.refl w), .tuple _ _ (.cons _ _ _ _ (.bool false) .nil)⟩
            unfold Instr.next
            simp only [RB.at, q2, Nat.add_zero, Sem.run_bind, hget, Result.andThen_ok, MapKept.run_getObj_map p2, hguard, Bool.false_eq_true, if_false, hl1]
            simp [Question.forced]
          · rename_i e hone
            split at h
            · rename_i hborn
              cases h
              rw [hone] at hleft
              obtain ⟨e', l', hl0, g1, g2, g3, g4⟩ := hleft.inv
              have := g4.inv_nil
              subst this
              have hl1 : l.filter (fun e => !seen.toArray.contains e.born) = #[e'] := by
                apply Array.ext'
                rw [hleft', hl0]
              have hob : e'.born < since := by omega
              have hnew : (#[e'].filter fun e => decide (e.born < since)) = #[e'] := by
                apply Array.ext'
                rw [Array.toList_filter]
                simp [hob]
              have hnew2 : (#[e'].filter fun e => decide (e.born ≥ since)) = #[] := by
                apply Array.ext'
                rw [Array.toList_filter]
                simp
                omega
              have hset : (setObj r0.blk (.mapIter (some rm.blk) since (seen ++ [e'.born]).toArray clock)).run P w = .ok () { w with heap := w.heap.setIfInBounds r0.blk (.mapIter (some rm.blk) since (seen ++ [e'.born]).toArray clock) } := by simp [setObj, Sem.run, q3]
              have halt := alt_set q3 (o' := .mapIter (some rm.blk) since (seen ++ [e'.born]).toArray clock)
              have hpost := Post.alt (x' := .miter (some m) since (seen ++ [e.born]) clock) hp.good hb trivial ⟨0, hT 0⟩ hbr halt ⟨r0, some rm.blk, hbr, q2, by rw [halt.here, g3], rm, q5, rfl⟩
              refine ⟨ρ, _, .tuple #[.bool true, e'.key, e'.val], ?_, hpost.trans (Mono.put_note _ _ _ ⟨_, hb, trivial⟩) (Mono.note _ (.rd _ 0 1) ⟨.map es clock, by
                show (s.put b _).heap.get m = _
                rw [get_put, if_neg (fun e => by subst e; rw [hm] at hb; cases hb)]; exact hm, trivial⟩) (Post.same hpost.good rfl rfl (Still.refl _)), .tuple _ _ (.cons _ _ _ _ (.bool true) (.cons _ _ _ _ g1 (.cons _ _ _ _ g2 .nil)))⟩
              unfold Instr.next
              simp only [RB.at, q2, Nat.add_zero, Sem.run_bind, hget, Result.andThen_ok, MapKept.run_getObj_map p2, hguard, Bool.false_eq_true, if_false, hl1, hnew, hnew2]
              simp [Question.forced, hset]
            · cases h
          · cases h
        · cases h
      · cases h
    · cases h
  · cases h
theorem opNextS_mono {x v : AV} (h : opNextS x s = some (v, s')) : Mono s s' := by
  unfold opNextS at h
  split at h
  · split at h
    · rename_i hb
      split at h
      · cases h; exact Mono.note _ _ ⟨_, hb, trivial⟩
      · split at h
        · cases h; exact Mono.put_note _ _ _ ⟨_, hb, trivial⟩
        · cases h
    · cases h
  · cases h
theorem dec_ascii (l : List Nat) (hl : ∀ x ∈ l, x < 256) {i c : Nat} (h : l[i]? = some c) (hc : c < 128) : Utf8.decode ⟨(l.map UInt8.ofNat).toArray⟩ i = (c, 1) := by
  have hi := (List.getElem?_eq_some_iff.1 h).1
  have hg : ((⟨(l.map UInt8.ofNat).toArray⟩ : ByteArray).get! (i + 0)).toNat = c := by
    show (((l.map UInt8.ofNat).toArray)[i + 0]!).toNat = c
    rw [Nat.add_zero, getElem!_pos _ _ (by simpa using hi)]
    simp only [List.getElem_toArray, List.getElem_map]
    have : l[i] = c := (List.getElem?_eq_some_iff.1 h).2
    rw [this, UInt8.toNat_ofNat']
    omega
  unfold Utf8.decode
  simp only [hg]
  rw [if_pos (by omega)]
theorem opNextS_ok {x v : AV} {x' : Value} {ty : TypeId} (h : opNextS x s = some (v, s')) (hp : Pre ρ T s s' w) (hx : VR ρ x x') : OK1 P (Instr.next x' true ty) ρ T s w v s' := by
  unfold opNextS at h
  split at h
  · rename_i b
    cases hx with
    | ptr _ _ r hbr =>
    split at h
    · rename_i l pos hb
      have hT0 : T b 0 := by
        split at h
        · cases h; exact hp.cov (.all b) (List.mem_cons_self ..) (lt_n hp.wf hb) b 0 rfl
        · split at h
          · cases h; exact hp.cov (.all b) (List.mem_cons_self ..) (lt_n hp.wf hb) b 0 rfl
          · cases h
      obtain ⟨r0, q1, q2, q3, q4⟩ := hp.good.sat b _ hb ⟨0, hT0⟩
      have : r0 = r := Option.some.inj (q1.symm.trans hbr)
      subst this
      have hget : (getObj r0.blk).run P w = .ok (.stringIter ⟨(l.map UInt8.ofNat).toArray⟩ pos) w := by simp [getObj, Sem.run, q3]
      have hsz : (⟨(l.map UInt8.ofNat).toArray⟩ : ByteArray).size = l.length := by
        show ((l.map UInt8.ofNat).toArray).size = l.length
        simp
      split at h
      · rename_i hn
        cases h
        refine ⟨ρ, w, _, ?_, Post.same hp.good rfl rfl (Still.refl w), .tuple _ _ (.cons _ _ _ _ (.bool false) .nil)⟩
        unfold Instr.next
        simp only [RB.at, q2, Nat.add_zero, Sem.run_bind, hget, Result.andThen_ok]
        rw [if_neg (by rw [hsz]; have := List.getElem?_eq_none_iff.1 hn; omega)]
        rfl
      · rename_i c hc
        split at h
        · rename_i hlt
          cases h
          have hset : (setObj r0.blk (.stringIter ⟨(l.map UInt8.ofNat).toArray⟩ (pos + 1))).run P w = .ok () { w with heap := w.heap.setIfInBounds r0.blk (.stringIter ⟨(l.map UInt8.ofNat).toArray⟩ (pos + 1)) } := by simp [setObj, Sem.run, q3]
          have halt := alt_set q3 (o' := .stringIter ⟨(l.map UInt8.ofNat).toArray⟩ (pos + 1))
          have hpost := Post.alt (x' := .siter l (pos + 1)) hp.good hb trivial ⟨0, hT0⟩ hbr halt ⟨r0, hbr, q2, halt.here, q4⟩
          refine ⟨ρ, _, .tuple #[.bool true, goInt pos, .int .i32 c], ?_, hpost, .tuple _ _ (.cons _ _ _ _ (.bool true) (.cons _ _ _ _ (.int _ _) (.cons _ _ _ _ (.int _ _) .nil)))⟩
          unfold Instr.next
          simp only [RB.at, q2, Nat.add_zero, Sem.run_bind, hget, Result.andThen_ok]
          rw [if_pos (by rw [hsz]; exact (List.getElem?_eq_some_iff.1 hc).1), dec_ascii l q4 hc hlt]
          simp only [Sem.run_bind, hset, Result.andThen_ok, Sem.run_pure]
        · cases h
    · cases h
  · cases h
theorem opEntry_mono {x v : AV} (h : opEntry x s = some (v, s')) : Mono s s' := by
  unfold opEntry at h
  split at h
  · split at h
    · rename_i hb
      split at h
      · rename_i hm _
        split at h
        · split at h
          · cases h; exact (Mono.note _ (.rd _ 0 1) ⟨_, hb, trivial⟩).trans (Mono.note _ (.rd _ 0 1) ⟨_, hm, trivial⟩)
          · cases h
        · cases h
      · cases h
    · cases h
  · cases h
theorem MR.find {ρ : Env} (p : Nat → Bool) : ∀ {es : List ME} {l : List MapEntry} {e : ME}, MR ρ es l → es.find? (fun e => p e.born) = some e → ∃ e', l.find? (fun e => p e.born) = some e' ∧ VR ρ e.k e'.key ∧ VR ρ e.v e'.val
  | [], l, e, h, hf => by cases hf
  | x :: es, l, e, h, hf => by
    obtain ⟨e', l', rfl, g1, g2, g3, g4⟩ := h.inv
    rw [List.find?_cons] at hf
    rw [List.find?_cons, ← g3]
    cases hb : p x.born with
    | true => rw [hb] at hf; cases hf; exact ⟨e', rfl, g1, g2⟩
    | false => rw [hb] at hf; exact MR.find p g4 hf
theorem opEntry_ok {x v : AV} {x' : Value} (h : opEntry x s = some (v, s')) (hp : Pre ρ T s s' w) (hx : VR ρ x x') : OK1 P (Instr.entry x') ρ T s w v s' := by
  unfold opEntry at h
  split at h
  · rename_i b
    cases hx with
    | ptr _ _ r hbr =>
    split at h
    · rename_i m since seen last hb
      split at h
      · rename_i es clock stamp hm hst
        split at h
        · rename_i hcl
          split at h
          · rename_i e hf
            cases h
            have hT0 : T b 0 := hp.cov (.rd b 0 1) (List.mem_cons_of_mem _ (List.mem_cons_self ..)) (lt_n hp.wf hb) b 0 ⟨rfl, Nat.le_refl _, Nat.one_pos⟩
            have hT1 : T m 0 := hp.cov (.rd m 0 1) (List.mem_cons_self ..) (lt_n hp.wf hm) m 0 ⟨rfl, Nat.le_refl _, Nat.one_pos⟩
            obtain ⟨r0, m', q1, q2, q3, rm, q5, q6⟩ := hp.good.sat b _ hb ⟨0, hT0⟩
            subst q6
            have : r0 = r := Option.some.inj (q1.symm.trans hbr)
            subst this
            obtain ⟨r1, l, p1, p2, p3⟩ := hp.good.sat m _ hm ⟨0, hT1⟩
            have : r1 = rm := Option.some.inj (p1.symm.trans q5)
            subst this
            have hget : (getObj r0.blk).run P w = .ok (.mapIter (some r1.blk) since seen.toArray last) w := by simp [getObj, Sem.run, q3]
            obtain ⟨e', h1, h2, h3⟩ := MR.find (fun n => n == stamp) p3 hf
            refine ⟨ρ, w, .tuple #[e'.key, e'.val], ?_, Post.same hp.good rfl rfl (Still.refl w), .tuple _ _ (.cons _ _ _ _ h2 (.cons _ _ _ _ h3 .nil))⟩
            have hbk : seen.toArray.back? = some stamp := by rw [List.back?_toArray]; exact hst
            have hfd : l.find? (fun e => e.born == stamp) = some e' := by rw [← Array.find?_toList]; exact h1
            unfold Instr.entry
            simp only [RB.at, q2, Nat.add_zero, Sem.run_bind, hget, Result.andThen_ok, hbk, MapKept.run_getObj_map p2, hcl]
            simp [hfd]
          · cases h
        · cases h
      · cases h
    · cases h
  · cases h
end
end Go.Proofs.YtjikgmbhnknojaaGreatDoor.Rk

/- What one of the reckoner's operations says of the model's. Plain lemmas. -/
namespace Go.Proofs.YtjikgmbhnknojaaGreatDoor.Rk
open Go
set_option linter.unusedVariables false
section
variable {P : Program} {ρ : Env} {T : Nat → Nat → Prop} {s s' : St} {w w' : World} {aa : AAct} {a : Act}
theorem lenA_mono {d : Option TypeDesc} {x v : AV} (h : lenA P d x s = some (v, s')) : Mono s s' := by
  unfold lenA at h
  split at h
  case h_5 =>
    split at h
    · rename_i hb
      cases h; exact Mono.note _ _ ⟨_, hb, trivial⟩
    · cases h
  case h_7 =>
    split at h
    · cases h; exact Mono.refl _
    · cases h
  all_goals first | (cases h; done) | (cases h; exact Mono.refl _)
theorem lenA_ok {ts : Array TypeId} {t ty : TypeId} {x v : AV} {x' : Value} (ht : ts[0]? = some t) (h : lenA P (P.underlying t) x s = some (v, s')) (hp : Pre ρ T s s' w) (hx : VR ρ x x') : OK1 P (Builtin.len_ ts ty #[x']) ρ T s w v s' := by
  unfold lenA at h
  split at h
  · rename_i l hu
    cases h
    cases hx with
    | str _ hl => exact OK1.pure hp (v' := .int .i64 l.length) (by simp only [Builtin.len_, ht, List.getElem?_toArray, List.getElem?_cons_zero, Sem.run_bind, run_underlying hu, Result.andThen_ok, Sem.run_pure, str_size, goInt]) (.int _ _)
  · rename_i e hu
    cases h
    cases hx
    exact OK1.pure hp (v' := .int .i64 0) (by simp only [Builtin.len_, ht, List.getElem?_toArray, List.getElem?_cons_zero, Sem.run_bind, run_underlying hu, Result.andThen_ok, Sem.run_pure, goInt]; rfl) (.int _ _)
  · rename_i e b off n mc es hu
    cases h
    cases hx
    exact OK1.pure hp (v' := .int .i64 n) (by simp only [Builtin.len_, ht, List.getElem?_toArray, List.getElem?_cons_zero, Sem.run_bind, run_underlying hu, Result.andThen_ok, Sem.run_pure, goInt]) (.int _ _)
  · rename_i k e hu
    cases h
    cases hx
    exact OK1.pure hp (v' := .int .i64 0) (by simp only [Builtin.len_, ht, List.getElem?_toArray, List.getElem?_cons_zero, Sem.run_bind, run_underlying hu, Result.andThen_ok, Sem.run_pure, goInt]) (.int _ _)
  · rename_i k e b hu
    split at h
    · rename_i es clock hb
      cases h
      cases hx with
      | map _ r hbr =>
      have hT : T b 0 := hp.cov (.rd b 0 1) (List.mem_cons_self ..) (lt_n hp.wf hb) b 0 ⟨rfl, Nat.le_refl _, Nat.one_pos⟩
      obtain ⟨r0, l, q1, q2, q3⟩ := hp.good.sat b _ hb ⟨0, hT⟩
      have : r0 = r := Option.some.inj (q1.symm.trans hbr)
      subst this
      have q3 : MR ρ es l.toList := q3
      have hl := q3.len
      rw [Array.length_toList] at hl
      refine ⟨ρ, w, .int .i64 es.length, ?_, Post.same hp.good rfl rfl (Still.refl w), .int _ _⟩
      simp only [Builtin.len_, ht, List.getElem?_toArray, List.getElem?_cons_zero, Sem.run_bind, run_underlying hu, Result.andThen_ok, MapKept.run_getObj_map q2, Sem.run_pure, goInt, hl]
    · cases h
  · rename_i _ n e hu
    cases h
    exact OK1.pure hp (v' := .int .i64 n) (by simp only [Builtin.len_, ht, List.getElem?_toArray, List.getElem?_cons_zero, Sem.run_bind, run_underlying hu, Result.andThen_ok, Sem.run_pure, goInt]) (.int _ _)
  · rename_i u _ hu
    split at h
    · rename_i n e hu2
      cases h
      exact OK1.pure hp (v' := .int .i64 n) (by simp only [Builtin.len_, ht, List.getElem?_toArray, List.getElem?_cons_zero, Sem.run_bind, run_underlying hu, run_underlying hu2, Result.andThen_ok, Sem.run_pure, goInt]) (.int _ _)
    · cases h
  · cases h
theorem foldMin_ok : ∀ {l : List AV} {vs : List Value} {x : AV} {x' : Value} {v : AV}, foldA minA x l = some v → VR ρ x x' → VRL ρ l vs → ∃ v', (vs.foldlM Builtin.min2 x').run P w = .ok v' w ∧ VR ρ v v'
  | [], _, x, x', v, h, hx, .nil => by simp [foldA] at h; subst h; exact ⟨x', rfl, hx⟩
  | y :: l, _, x, x', v, h, hx, .cons _ y' _ vs hy ht => by
    unfold foldA at h
    split at h
    · rename_i z hz
      unfold minA at hz
      split at hz
      · cases hz; cases hx; cases hy
        obtain ⟨v', h1, h2⟩ := foldMin_ok h (.int _ _) ht
        exact ⟨v', by simp [Builtin.min2, h1], h2⟩
      · cases hz
    · cases h
theorem foldMax_ok : ∀ {l : List AV} {vs : List Value} {x : AV} {x' : Value} {v : AV}, foldA maxA x l = some v → VR ρ x x' → VRL ρ l vs → ∃ v', (vs.foldlM Builtin.max2 x').run P w = .ok v' w ∧ VR ρ v v'
  | [], _, x, x', v, h, hx, .nil => by simp [foldA] at h; subst h; exact ⟨x', rfl, hx⟩
  | y :: l, _, x, x', v, h, hx, .cons _ y' _ vs hy ht => by
    unfold foldA at h
    split at h
    · rename_i z hz
      unfold maxA at hz
      split at hz
      · cases hz; cases hx; cases hy
        obtain ⟨v', h1, h2⟩ := foldMax_ok h (.int _ _) ht
        exact ⟨v', by simp [Builtin.max2, h1], h2⟩
      · cases hz
    · cases h
theorem aBuiltin_mono {b : Builtin} {ts : Array TypeId} {args : List AV} {v : AV} (hwf : WfS s) (h : aBuiltin P b ts args s = some (v, s')) : Mono s s' := by
  unfold aBuiltin at h
  split at h
  · split at h
    · exact lenA_mono h
    · cases h
  · split at h
    · exact bAppend_mono hwf h
    · exact bAppend_mono hwf h
    · cases h
  · split at h
    · split at h
      · cases h; exact Mono.refl _
      · cases h
    · cases h
  · split at h
    · split at h
      · cases h; exact Mono.refl _
      · cases h
    · cases h
  · split at h
    · cases h; exact Mono.refl _
    · cases h
  · split at h
    · exact stringA_mono h
    · cases h
  · split at h
    · exact opDelete_mono (unit_inv h).1
    · cases h
  · split at h
    · exact opClear_mono (unit_inv h).1
    · cases h
  · cases h
theorem val_inv {x : Option AV} {v : AV} (h : val s x = some (v, s')) : x = some v ∧ s' = s := by
  unfold val at h
  split at h
  · cases h; exact ⟨rfl, rfl⟩
  · cases h
theorem aop_mono {o : Op} {v : AV} (hwf : WfS s) (h : aop P aa o s = some (v, s')) : Mono s s' := by
  unfold aop at h
  split at h
  case h_3 => split at h <;> first | (cases h; done) | (cases h; exact Mono.refl _)
  case h_4 => split at h <;> first | (cases h; done) | (cases h; exact Mono.new _ _)
  case h_5 => split at h <;> first | (cases h; done) | (cases h; exact Mono.new _ _)
  case h_7 => exact opBuildSlice_mono h
  case h_8 => exact opLoad_mono h
  case h_9 => exact opStore_mono (unit_inv h).1
  case h_10 => split at h <;> first | (cases h; done) | (cases h; exact Mono.refl _)
  case h_13 =>
    split at h
    · exact conv_mono h
    · cases h
  case h_14 => split at h <;> first | (cases h; done) | (cases h; exact Mono.refl _)
  case h_16 => cases h; exact Mono.new _ _
  case h_17 => exact opMakeSlice_mono h
  case h_18 =>
    split at h
    · exact opSliceArr_mono h
    · rw [(val_inv h).2]; exact Mono.refl _
  case h_23 =>
    split at h
    · rename_i hx
      exact opLookupP_mono hx h
    · exact opLookup_mono h
  case h_24 => exact opUpdate_mono (unit_inv h).1
  case h_25 => exact opUpdate_mono (unit_inv h).1
  case h_26 => exact opRange_mono h
  case h_27 => exact opNext_mono h
  case h_28 => exact opNextS_mono h
  case h_29 => exact opEntry_mono h
  case h_31 =>
    split at h
    · rw [(val_inv h).2]; exact Mono.refl _
    · cases h
  case h_32 => exact aBuiltin_mono hwf h
  all_goals first | (cases h; done) | (cases h; exact Mono.refl _) | (rw [(val_inv h).2]; exact Mono.refl _)
/-- The operation's own run. -/
def Yld (P : Program) (a : Act) (o : Oper) (w : World) (v : Value) (w' : World) : Prop := (execOp a.eval o).run P w = .ok (.value v) w' ∨ ((execOp a.eval o).run P w = .ok .skip w' ∧ v = undef)
/-- The operands are told. -/
def OpsR (ρ : Env) (aa : AAct) (a : Act) (o : Op) : Prop := ∀ x ∈ o.operands, VR ρ (aeval aa x) (a.eval x)
theorem args_ok {xs : Array Operand} (h : ∀ x ∈ xs, VR ρ (aeval aa x) (a.eval x)) : VRL ρ (xs.toList.map (aeval aa)) (xs.map a.eval).toList := by
  rw [Array.toList_map]
  exact VRL.map _ _ _ (fun x hx => h x (Array.mem_toList_iff.1 hx))
theorem opt_ok {x : Option Operand} (h : ∀ y, x = some y → VR ρ (aeval aa y) (a.eval y)) : VRO ρ (x.map (aeval aa)) (x.map a.eval) := by
  cases x with
  | none => exact .none
  | some x => exact .some _ _ (h x rfl)
theorem parts_ok {ps : Array (Nat × Operand)} (h : ∀ p ∈ ps, VR ρ (aeval aa p.2) (a.eval p.2)) : PR ρ (parts aa ps) (ps.map fun (i, x) => (i, a.eval x)).toList := by
  unfold Rk.parts
  rw [Array.toList_map]
  have : ∀ l : List (Nat × Operand), (∀ p ∈ l, VR ρ (aeval aa p.2) (a.eval p.2)) → PR ρ (l.map fun p => (p.1, aeval aa p.2)) (l.map fun (i, x) => (i, a.eval x)) := by
    intro l
    induction l with
    | nil => exact fun _ => .nil
    | cons p l ih => exact fun h => .cons p.1 _ _ _ _ (h p (by simp)) (ih (fun q hq => h q (by simp [hq])))
  exact this _ (fun p hp => h p (Array.mem_toList_iff.1 hp))
theorem yld_pure {o : Oper} {m : Sem Value} {v : AV} {v' : Value} (he : execOp a.eval o = do pure (.value (← m))) (hp : Pre ρ T s s w) (hm : m.run P w = .ok v' w) (hv : VR ρ v v') : ∃ ρ' w' v', Yld P a o w v' w' ∧ Post ρ T s w ρ' s w' ∧ VR ρ' v v' :=
  ⟨ρ, w, v', .inl (by rw [he]; simp [hm]), Post.same hp.good rfl rfl (Still.refl w), hv⟩
theorem yld_ok1 {o : Oper} {m : Sem Value} {v : AV} (he : execOp a.eval o = do pure (.value (← m))) (h : OK1 P m ρ T s w v s') : ∃ ρ' w' v', Yld P a o w v' w' ∧ Post ρ T s w ρ' s' w' ∧ VR ρ' v v' := by
  obtain ⟨ρ', w', v', h1, h2, h3⟩ := h
  exact ⟨ρ', w', v', .inl (by rw [he]; simp [h1]), h2, h3⟩
theorem yld_unit {o : Oper} {m : Sem Unit} (he : execOp a.eval o = do m; pure .skip) (h : ∃ w', m.run P w = .ok () w' ∧ Post ρ T s w ρ s' w') : ∃ ρ' w' v', Yld P a o w v' w' ∧ Post ρ T s w ρ' s' w' ∧ VR ρ' undefA v' := by
  obtain ⟨w', h1, h2⟩ := h
  exact ⟨ρ, w', undef, .inr ⟨by rw [he]; simp [h1], rfl⟩, h2, undef_ok⟩
theorem aop_ok {o : Oper} {v : AV} (h : aop P aa o.op s = some (v, s')) (hp : Pre ρ T s s' w) (ha : OpsR ρ aa a o.op) : ∃ ρ' w' v', Yld P a o w v' w' ∧ Post ρ T s w ρ' s' w' ∧ VR ρ' v v' := by
  unfold aop at h
  split at h
  · rename_i x ho
    cases h
    exact ⟨ρ, w, _, .inl (by unfold execOp; rw [ho]; rfl), Post.same hp.good rfl rfl (Still.refl w), ha x (by rw [ho]; simp [Op.operands])⟩
  · rename_i x ho
    cases h
    exact ⟨ρ, w, _, .inl (by unfold execOp; rw [ho]; rfl), Post.same hp.good rfl rfl (Still.refl w), ha x (by rw [ho]; simp [Op.operands])⟩
  · rename_i c x y ho
    split at h
    · rename_i b hc
      cases h
      have hcv := ha c (by rw [ho]; simp [Op.operands])
      rw [hc] at hcv
      generalize hcc : a.eval c = c' at hcv
      cases hcv
      refine ⟨ρ, w, if b then a.eval x else a.eval y, .inl (by unfold execOp; rw [ho]; simp [hcc, asBool]), Post.same hp.good rfl rfl (Still.refl w), ?_⟩
      cases b
      · exact ha y (by rw [ho]; simp [Op.operands])
      · exact ha x (by rw [ho]; simp [Op.operands])
    · cases h
  · rename_i t ho
    split at h
    · rename_i z hz
      cases h
      exact yld_ok1 (by unfold execOp; rw [ho]) (opAlloc_ok hz hp)
    · cases h
  · rename_i t x ho
    split at h
    · rename_i c hc
      cases h
      exact yld_ok1 (by unfold execOp; rw [ho]) (opBox_ok hc hp (ha x (by rw [ho]; simp [Op.operands])))
    · cases h
  · rename_i t ps ho
    obtain ⟨h1, rfl⟩ := val_inv h
    obtain ⟨v', h2, h3⟩ := opBuild_ok (P := P) (ρ := ρ) (w := w) h1 (parts_ok (fun p hp => ha p.2 (by rw [ho]; simp [Op.operands]; exact ⟨p.1, hp⟩)))
    exact yld_pure (by unfold execOp; rw [ho]) hp h2 h3
  · rename_i t len ps ho
    exact yld_ok1 (by unfold execOp; rw [ho]) (opBuildSlice_ok h hp (parts_ok (fun p hp => ha p.2 (by rw [ho]; simp [Op.operands]; exact ⟨p.1, hp⟩))))
  · rename_i t x ho
    exact yld_ok1 (by unfold execOp; rw [ho]) (opLoad_ok h hp (ha x (by rw [ho]; simp [Op.operands])))
  · rename_i t x y ho
    obtain ⟨h1, rfl⟩ := unit_inv h
    exact yld_unit (by unfold execOp; rw [ho]) (opStore_ok h1 hp (ha x (by rw [ho]; simp [Op.operands])) (ha y (by rw [ho]; simp [Op.operands])))
  · rename_i x ho
    have hxv := ha x (by rw [ho]; simp [Op.operands])
    split at h
    · rename_i b off hx
      cases h
      rw [hx] at hxv
      generalize hcc : a.eval x = x' at hxv
      cases hxv with
      | ptr _ _ r hb => exact ⟨ρ, w, _, .inl (by unfold execOp; rw [ho]; simp only [hcc]; rfl), Post.same hp.good rfl rfl (Still.refl w), .ptr _ _ r hb⟩
    · rename_i f k l hx
      cases h
      rw [hx] at hxv
      generalize hcc : a.eval x = x' at hxv
      cases hxv with
      | func _ _ _ k' l' h1 h2 => exact ⟨ρ, w, _, .inl (by unfold execOp; rw [ho]; simp only [hcc]; rfl), Post.same hp.good rfl rfl (Still.refl w), .func _ _ _ k' l' h1 h2⟩
    · rename_i t v0 hx
      cases h
      rw [hx] at hxv
      generalize hcc : a.eval x = x' at hxv
      cases hxv with
      | iface _ _ v1 h1 => exact ⟨ρ, w, _, .inl (by unfold execOp; rw [ho]; simp only [hcc]; rfl), Post.same hp.good rfl rfl (Still.refl w), .iface _ _ v1 h1⟩
    · cases h
  · rename_i op t x y _ ho
    obtain ⟨h1, rfl⟩ := val_inv h
    obtain ⟨v', h2, h3⟩ := bop_ok (P := P) (ρ := ρ) (w := w) h1 (ha x (by rw [ho]; simp [Op.operands])) (ha y (by rw [ho]; simp [Op.operands]))
    exact yld_pure (by unfold execOp; rw [ho]) hp h2 h3
  · rename_i op _ x ho
    obtain ⟨h1, rfl⟩ := val_inv h
    obtain ⟨v', h2, h3⟩ := uop_ok (P := P) (ρ := ρ) (w := w) h1 (ha x (by rw [ho]; simp [Op.operands]))
    exact yld_pure (by unfold execOp; rw [ho]) hp h2 h3
  · rename_i src dst x ho
    split at h
    · rename_i hs
      exact yld_ok1 (by unfold execOp; rw [ho]) (conv_ok h (Option.isSome_iff_exists.1 hs) hp (ha x (by rw [ho]; simp [Op.operands])))
    · cases h
  · rename_i t x ho
    split at h
    · cases h
    · rename_i d hd hu
      cases h
      refine yld_pure (m := Instr.makeInterface t (a.eval x)) (v' := .iface t (a.eval x)) (by unfold execOp; rw [ho]) hp ?_ (.iface _ _ _ (ha x (by rw [ho]; simp [Op.operands])))
      cases d <;> first | (simp [Instr.makeInterface, run_underlying hu]; done) | exact absurd rfl (hd _)
    · cases h
  · rename_i f first cap ho
    cases h
    exact ⟨ρ, w, _, .inl (by unfold execOp; rw [ho]; rfl), Post.same hp.good rfl rfl (Still.refl w), .func _ _ _ _ _ (args_ok (fun x hx => ha x (by rw [ho]; simp [Op.operands, hx]))) (args_ok (fun x hx => ha x (by rw [ho]; simp [Op.operands, hx])))⟩
  · rename_i t ho
    cases h
    have hf : ρ s.n = none := hp.fresh s.n (Nat.le_refl _) (Nat.lt_succ_self _)
    refine ⟨_, _, .map (some w.heap.size), .inl (by unfold execOp; rw [ho]; simp [Instr.makeMap]), Post.made (o := .map #[] 0) (r := ⟨w.heap.size, 0, 0⟩) hp.good hp.wf hf hp.tn (Add.push w _) rfl ⟨_, #[], Env.add_self _ _, (Add.push w _).here, MR.nil⟩, .map s.n _ (Env.add_self _ _)⟩
  · rename_i t l c ho
    exact yld_ok1 (by unfold execOp; rw [ho]) (opMakeSlice_ok h hp (ha l (by rw [ho]; simp [Op.operands])) (ha c (by rw [ho]; simp [Op.operands])))
  · rename_i t x lo hi mx ho
    split at h
    · rename_i b off hx
      have hxv := ha x (by rw [ho]; simp [Op.operands])
      rw [hx] at hxv
      exact yld_ok1 (by unfold execOp; rw [ho]) (opSliceArr_ok h hp hxv (opt_ok (fun x hx => ha x (by rw [ho]; simp [Op.operands, hx]))) (opt_ok (fun x hx => ha x (by rw [ho]; simp [Op.operands, hx]))) (opt_ok (fun x hx => ha x (by rw [ho]; simp [Op.operands, hx]))))
    · obtain ⟨h1, rfl⟩ := val_inv h
      obtain ⟨v', h2, h3⟩ := opSlice_ok (P := P) (ρ := ρ) (w := w) h1 (ha x (by rw [ho]; simp [Op.operands])) (opt_ok (fun x hx => ha x (by rw [ho]; simp [Op.operands, hx]))) (opt_ok (fun x hx => ha x (by rw [ho]; simp [Op.operands, hx]))) (opt_ok (fun x hx => ha x (by rw [ho]; simp [Op.operands, hx])))
      exact yld_pure (by unfold execOp; rw [ho]) hp h2 h3
  · rename_i t x f ho
    obtain ⟨h1, rfl⟩ := val_inv h
    obtain ⟨v', h2, h3⟩ := opFieldAddr_ok (P := P) (ρ := ρ) (w := w) h1 (ha x (by rw [ho]; simp [Op.operands]))
    exact yld_pure (by unfold execOp; rw [ho]) hp h2 h3
  · rename_i t x f ho
    obtain ⟨h1, rfl⟩ := val_inv h
    obtain ⟨v', h2, h3⟩ := opField_ok (P := P) (ρ := ρ) (w := w) h1 (ha x (by rw [ho]; simp [Op.operands]))
    exact yld_pure (by unfold execOp; rw [ho]) hp h2 h3
  · rename_i t x i ho
    obtain ⟨h1, rfl⟩ := val_inv h
    obtain ⟨v', h2, h3⟩ := opIndexAddr_ok (P := P) (ρ := ρ) (w := w) h1 (ha x (by rw [ho]; simp [Op.operands])) (ha i (by rw [ho]; simp [Op.operands]))
    exact yld_pure (by unfold execOp; rw [ho]) hp h2 h3
  · rename_i t x i ho
    obtain ⟨h1, rfl⟩ := val_inv h
    obtain ⟨v', h2, h3⟩ := opIndex_ok (P := P) (ρ := ρ) (w := w) h1 (ha x (by rw [ho]; simp [Op.operands])) (ha i (by rw [ho]; simp [Op.operands]))
    exact yld_pure (by unfold execOp; rw [ho]) hp h2 h3
  · rename_i t x i ok ho
    split at h
    · rename_i b es hx
      exact yld_ok1 (by unfold execOp; rw [ho]) (opLookupP_ok hx h hp (ha x (by rw [ho]; simp [Op.operands])) (ha i (by rw [ho]; simp [Op.operands])))
    exact yld_ok1 (by unfold execOp; rw [ho]) (opLookup_ok h hp (ha x (by rw [ho]; simp [Op.operands])) (ha i (by rw [ho]; simp [Op.operands])))
  · rename_i t m k x ho
    obtain ⟨h1, rfl⟩ := unit_inv h
    exact yld_unit (by unfold execOp; rw [ho]) (opUpdate_ok h1 hp (ha m (by rw [ho]; simp [Op.operands])) (ha k (by rw [ho]; simp [Op.operands])) (ha x (by rw [ho]; simp [Op.operands])))
  · rename_i t m k x ho
    obtain ⟨h1, rfl⟩ := unit_inv h
    exact yld_unit (by unfold execOp; rw [ho]) (opUpdate_ok h1 hp (ha m (by rw [ho]; simp [Op.operands])) (ha k (by rw [ho]; simp [Op.operands])) (ha x (by rw [ho]; simp [Op.operands])))
  · rename_i t x ho
    exact yld_ok1 (by unfold execOp; rw [ho]) (opRange_ok h hp (ha x (by rw [ho]; simp [Op.operands])))
  · rename_i x ho
    exact yld_ok1 (by unfold execOp; rw [ho]) (opNext_ok (ty := o.type) h hp (ha x (by rw [ho]; simp [Op.operands])))
  · rename_i x ho
    exact yld_ok1 (by unfold execOp; rw [ho]) (opNextS_ok (ty := o.type) h hp (ha x (by rw [ho]; simp [Op.operands])))
  · rename_i x ho
    exact yld_ok1 (by unfold execOp; rw [ho]) (opEntry_ok h hp (ha x (by rw [ho]; simp [Op.operands])))
  · rename_i x tx t ok ho
    obtain ⟨h1, rfl⟩ := val_inv h
    obtain ⟨v', h2, h3⟩ := opAssert_ok (P := P) (ρ := ρ) (w := w) (tx := tx) h1 (ha x (by rw [ho]; simp [Op.operands]))
    exact yld_pure (by unfold execOp; rw [ho]) hp h2 h3
  · rename_i t i ho
    split at h
    · rename_i vs hx
      obtain ⟨h1, rfl⟩ := val_inv h
      have hxv := ha t (by rw [ho]; simp [Op.operands])
      rw [hx] at hxv
      generalize hcc : a.eval t = x' at hxv
      cases hxv with
      | tuple _ vs' hvs =>
      obtain ⟨v', h2, h3⟩ := hvs.aget h1
      exact yld_pure (m := Instr.extract (.tuple vs') i) (by unfold execOp; rw [ho]; simp only [hcc]) hp (by simp [Instr.extract, h2]) h3
    · cases h
  · rename_i b args argTypes ho
    have hargs := args_ok (ρ := ρ) (aa := aa) (a := a) (xs := args) (fun x hx => ha x (by rw [ho]; simp [Op.operands, Call.operands, hx]))
    have he : ∃ c : Array Bool, ∀ w1, (execOp a.eval o).run P w1 = (builtin b argTypes o.type c (args.map a.eval)).run P w1 := ⟨_, fun w1 => by
      unfold execOp
      rw [ho]
      simp only [resolve, invoke, Sem.run_bind, Sem.run_pure, Result.andThen_ok]
      rfl⟩
    obtain ⟨cc, he⟩ := he
    generalize hal : args.toList.map (aeval aa) = al at h hargs
    generalize hvl : args.map a.eval = vl at hargs he
    have kv : ∀ (m : Sem Value), builtin b argTypes o.type cc vl = (do pure (.value (← m))) → OK1 P m ρ T s w v s' → ∃ ρ' w' v', Yld P a o w v' w' ∧ Post ρ T s w ρ' s' w' ∧ VR ρ' v v' := fun m hb ⟨ρ', w', v', k1, k2, k3⟩ => by
      refine ⟨ρ', w', v', .inl ?_, k2, k3⟩
      rw [he, hb]
      simp [k1]
    have one_ : ∀ {x : AV}, VRL ρ [x] vl.toList → ∃ x', vl = #[x'] ∧ VR ρ x x' := fun {x} hh => by
      rcases vl with ⟨l⟩
      cases hh with
      | cons _ x' _ _ hx ht => cases ht; exact ⟨x', rfl, hx⟩
    have two_ : ∀ {x y : AV}, VRL ρ [x, y] vl.toList → ∃ x' y', vl = #[x', y'] ∧ VR ρ x x' ∧ VR ρ y y' := fun {x y} hh => by
      rcases vl with ⟨l⟩
      cases hh with
      | cons _ x' _ _ hx ht => cases ht with
        | cons _ y' _ _ hy ht => cases ht; exact ⟨x', y', rfl, hx, hy⟩
    have more_ : ∀ {x : AV} {l : List AV}, VRL ρ (x :: l) vl.toList → ∃ x' l', vl = ⟨x' :: l'⟩ ∧ VR ρ x x' ∧ VRL ρ l l' := fun {x l} hh => by
      rcases vl with ⟨l⟩
      cases hh with
      | cons _ x' _ l' hx ht => exact ⟨x', l', rfl, hx, ht⟩
    unfold aBuiltin at h
    split at h
    · split at h
      · rename_i x
        obtain ⟨x', rfl, hx⟩ := one_ hargs
        cases ht : argTypes[0]? with
        | none => rw [ht] at h; simp [lenA] at h
        | some t =>
          rw [ht] at h
          exact kv (Builtin.len_ argTypes o.type #[x']) rfl (lenA_ok ht h hp hx)
      · cases h
    · split at h
      · rename_i t x y e ht hu
        obtain ⟨x', y', rfl, hx, hy⟩ := two_ hargs
        obtain ⟨u, hu1, hu2⟩ := Option.bind_eq_some_iff.1 hu
        have happ : Builtin.append_ argTypes o.type #[x', y'] = Builtin.append_ #[t, u] o.type #[x', y'] := by
          unfold Builtin.append_
          simp only [ht, hu1, List.getElem?_toArray, List.getElem?_cons_zero, List.getElem?_cons_succ]
        exact kv (Builtin.append_ #[t, u] o.type #[x', y']) (by rw [← happ]; rfl) (bAppend_ok h (.inl ⟨_, hu2⟩) hp hx hy)
      · rename_i t x y ht hu
        obtain ⟨x', y', rfl, hx, hy⟩ := two_ hargs
        obtain ⟨u, hu1, hu2⟩ := Option.bind_eq_some_iff.1 hu
        have happ : Builtin.append_ argTypes o.type #[x', y'] = Builtin.append_ #[t, u] o.type #[x', y'] := by
          unfold Builtin.append_
          simp only [ht, hu1, List.getElem?_toArray, List.getElem?_cons_zero, List.getElem?_cons_succ]
        exact kv (Builtin.append_ #[t, u] o.type #[x', y']) (by rw [← happ]; rfl) (bAppend_ok h (.inr hu2) hp hx hy)
      · cases h
    · split at h
      · rename_i x l
        split at h
        · rename_i hf
          cases h
          obtain ⟨x', l', rfl, hx, hl⟩ := more_ hargs
          obtain ⟨v', h1, h2⟩ := foldMin_ok (P := P) (w := w) hf hx hl
          exact kv (Builtin.min_ argTypes o.type ⟨x' :: l'⟩) rfl (OK1.pure hp (by simpa [Builtin.min_] using h1) h2)
        · cases h
      · cases h
    · split at h
      · rename_i x l
        split at h
        · rename_i hf
          cases h
          obtain ⟨x', l', rfl, hx, hl⟩ := more_ hargs
          obtain ⟨v', h1, h2⟩ := foldMax_ok (P := P) (w := w) hf hx hl
          exact kv (Builtin.max_ argTypes o.type ⟨x' :: l'⟩) rfl (OK1.pure hp (by simpa [Builtin.max_] using h1) h2)
        · cases h
      · cases h
    · split at h
      · rename_i hf
        cases h
        rcases al with _ | ⟨x, _ | ⟨y, l⟩⟩
        · simp [sliceDataA] at hf
        · obtain ⟨x', rfl, hx⟩ := one_ hargs
          exact kv (Builtin.unsafeSliceData_ argTypes o.type #[x']) rfl (sliceDataA_ok hf hp hx)
        · unfold sliceDataA at hf
          split at hf <;> rename_i he <;> first | (cases he; done) | cases hf
      · cases h
    · split at h
      · rename_i t it hts
        have hat : argTypes = #[t, it] := by rw [← Array.toList_inj]; exact hts
        rcases al with _ | ⟨x, _ | ⟨y, _ | ⟨z, l⟩⟩⟩
        · simp [stringA] at h
        · unfold stringA at h
          split at h <;> rename_i he <;> first | (cases he; done) | cases h
        · obtain ⟨x', y', rfl, hx, hy⟩ := two_ hargs
          refine kv (Builtin.unsafeString_ argTypes o.type #[x', y']) rfl ?_
          rw [hat]
          exact stringA_ok h hp hx hy
        · unfold stringA at h
          split at h <;> rename_i he <;> first | (cases he; done) | cases h
      · cases h
    · split at h
      · rename_i t m k ht
        obtain ⟨m', k', rfl, hm, hk⟩ := two_ hargs
        obtain ⟨h1, rfl⟩ := unit_inv h
        exact kv (Builtin.delete_ argTypes o.type #[m', k']) rfl (opDelete_ok ht h1 hp hm hk)
      · cases h
    · split at h
      · rename_i t x ht
        obtain ⟨x', rfl, hx⟩ := one_ hargs
        obtain ⟨h1, rfl⟩ := unit_inv h
        exact kv (Builtin.clear_ argTypes o.type #[x']) rfl (opClear_ok ht h1 hp hx)
      · cases h
    · cases h
  · cases h
end
end Go.Proofs.YtjikgmbhnknojaaGreatDoor.Rk

/- What one of the reckoner's operations says of the model's walk. Plain lemmas. -/
namespace Go.Proofs.YtjikgmbhnknojaaGreatDoor.Rk
open Go
set_option linter.unusedVariables false
def FW (r : Option Nat) : Fence := { Fence.wide with round := r }
def ResR (ρ : Env) : Res → Ending → Prop
  | .ret v, .returned v' => VR ρ v v'
  | .pan v, .panicked ch => ∃ v', ch = [{ v := v', recovered := false }] ∧ VR ρ v v'
  | _, _ => False
/-- What a call is said to answer is so. -/
def CSound (P : Program) (C : Callee) : Prop := ∀ f args s res s', C f args s = some (res, s') → WfS s → Mono s s' ∧ ∀ (ρ : Env) (T : Nat → Nat → Prop) (w : World) (vs : Array Value), Pre ρ T s s' w → VRL ρ args vs.toList →
  (∀ w1, (callFunc f vs).run P w1 = .ok (.enter f vs) w1) ∧ ∀ n, CallsIn Fence.wide n P f vs w (fun e w' => ∃ ρ', Post ρ T s w ρ' s' w' ∧ ResR ρ' res e)
/-- What a round is said to answer is so. -/
def YSound (P : Program) (Y : Yielder) : Prop := ∀ b args s res s', Y b args s = some (res, s') → WfS s → Mono s s' ∧ ∀ (ρ : Env) (T : Nat → Nat → Prop) (w : World) (vs : Array Value), Pre ρ T s s' w → VRL ρ args vs.toList → ∀ r, ρ b = some r →
  ∃ f tmps assign body, (Instr.yield r.blk vs).run P w = .ok (.round r.blk f tmps assign body) w ∧ ∀ rr n, RoundIn (FW rr) n P r.blk f tmps assign body w (fun e w' => ∃ ρ', Post ρ T s w ρ' s' w' ∧ ResR ρ' res e)
section
variable {P : Program} {ρ : Env} {T : Nat → Nat → Prop} {s s' : St} {w w' : World} {aa : AAct} {a : Act} {C : Callee} {Y : Yielder}
theorem val_wp {r : Option Nat} {n : Nat} {o : Oper} {v : Value} {K : Act → World → Prop} {Q : Exit → Act → World → Prop} (hd : ∀ c, o.op ≠ .defer c) (hy : Yld P a o w v w') (hk : K (a.put o.dst v) w') : o.wpIn (FW r) n P a w K Q := by
  refine ⟨fun _ _ => trivial, ?_⟩
  rw [Oper.semAt_eq _ _ _ hd]
  rcases hy with hy | ⟨hy, rfl⟩
  · rw [hy]; exact hk
  · rw [hy]; exact hk
theorem oneVal_mono {o : Oper} {res : Res} (hC : CSound P C) (hY : YSound P Y) (h : oneVal P C Y aa o s = some (res, s')) (hwf : WfS s) : Mono s s' := by
  unfold oneVal at h
  split at h
  · split at h
    · exact (hC _ _ _ _ _ h hwf).1
    · exact (hY _ _ _ _ _ h hwf).1
    · cases h
  · split at h
    · cases h; exact Mono.refl _
    · cases h
  · cases h
  · split at h
    · rename_i ho
      cases h
      exact aop_mono hwf ho
    · cases h
theorem oneVal_ok {o : Oper} {res : Res} (hC : CSound P C) (hY : YSound P Y) (h : oneVal P C Y aa o s = some (res, s')) (hp : Pre ρ T s s' w) (ha : OpsR ρ aa a o.op) {r : Option Nat} {n : Nat} {K : Act → World → Prop} {Q : Exit → Act → World → Prop}
    (hk : ∀ ρ' w', Post ρ T s w ρ' s' w' → match res with
      | .ret v => ∀ v', VR ρ' v v' → K (a.put o.dst v') w'
      | .pan v => ∀ v', VR ρ' v v' → Q (.panic [{ v := v', recovered := false }]) a w') : o.wpIn (FW r) n P a w K Q := by
  have hwf := hp.wf
  unfold oneVal at h
  split at h
  · rename_i g args ats ho
    have hargs := args_ok (ρ := ρ) (aa := aa) (a := a) (xs := args) (fun x hx => ha x (by rw [ho]; simp [Op.operands, Call.operands, hx]))
    have hg := ha g (by rw [ho]; simp [Op.operands, Call.operands])
    have hnd : ∀ c, o.op ≠ .defer c := fun c => by rw [ho]; simp
    split at h
    · rename_i f first cap hf
      rw [hf] at hg
      generalize hgg : a.eval g = g' at hg
      cases hg with
      | func _ _ _ k' l' h1 h2 =>
      have hall : VRL ρ (first ++ args.toList.map (aeval aa) ++ cap) (k' ++ args.map a.eval ++ l').toList := by
        simp only [Array.toList_append]
        exact (h1.append hargs).append h2
      obtain ⟨_, hc⟩ := hC _ _ _ _ _ h hwf
      obtain ⟨he, hcall⟩ := hc ρ T w _ hp hall
      have hrun : (execOp a.eval o).run P w = .ok (.enter f (k' ++ args.map a.eval ++ l')) w := by
        unfold execOp
        rw [ho]
        simp only [resolve, hgg, Deferred.ofValue, Sem.run_bind, Sem.run_pure, Result.andThen_ok, invoke]
        exact he w
      refine ⟨fun _ _ => trivial, ?_⟩
      rw [Oper.semAt_eq _ _ _ hnd, hrun, Oper.uponIn_enter]
      refine ⟨fun hh => by simp [FW, Fence.wide] at hh, ?_⟩
      have hcall2 : CallsIn (FW r) (n - 1) P f (k' ++ args.map a.eval ++ l') w (fun e w' => ∃ ρ', Post ρ T s w ρ' s' w' ∧ ResR ρ' res e) := hcall (n - 1)
      refine hcall2.mono (fun e w2 ⟨ρ', hpost, hres⟩ => ?_)
      have hk' := hk ρ' w2 hpost
      cases res with
      | ret v =>
        cases e with
        | returned v' => exact hk' v' hres
        | panicked ch => exact hres.elim
        | outgrown => exact hres.elim
      | pan v =>
        cases e with
        | returned v' => exact hres.elim
        | panicked ch => obtain ⟨v', rfl, hv⟩ := hres; exact hk' v' hv
        | outgrown => exact hres.elim
    · rename_i b hf
      rw [hf] at hg
      generalize hgg : a.eval g = g' at hg
      cases hg with
      | yield _ rb hb =>
      obtain ⟨_, hc⟩ := hY _ _ _ _ _ h hwf
      obtain ⟨f, tmps, assign, body, he, hround⟩ := hc ρ T w _ hp hargs rb hb
      have hrun : (execOp a.eval o).run P w = .ok (.round rb.blk f tmps assign body) w := by
        unfold execOp
        rw [ho]
        simp only [resolve, hgg, Deferred.ofValue, Sem.run_bind, Sem.run_pure, Result.andThen_ok, invoke]
        simpa using he
      refine ⟨fun _ _ => trivial, ?_⟩
      rw [Oper.semAt_eq _ _ _ hnd, hrun, Oper.uponIn_round]
      refine ⟨fun hh => by simp [FW, Fence.wide] at hh, ?_⟩
      refine (hround r (n - 1)).mono (fun e w2 ⟨ρ', hpost, hres⟩ => ?_)
      have hk' := hk ρ' w2 hpost
      cases res with
      | ret v =>
        cases e with
        | returned v' => exact hk' v' hres
        | panicked ch => exact hres.elim
        | outgrown => exact hres.elim
      | pan v =>
        cases e with
        | returned v' => exact hres.elim
        | panicked ch => obtain ⟨v', rfl, hv⟩ := hres; exact hk' v' hv
        | outgrown => exact hres.elim
    · cases h
  · rename_i x ho
    split at h
    · rename_i t v0 hx
      cases h
      have hxv := ha x (by rw [ho]; simp [Op.operands])
      rw [hx] at hxv
      have hnd : ∀ c, o.op ≠ .defer c := fun c => by rw [ho]; simp
      have hk' := hk ρ w (Post.same hp.good rfl rfl (Still.refl w)) _ hxv
      generalize hgg : a.eval x = x' at hxv hk'
      cases hxv with
      | iface _ _ v1 h1 =>
      refine ⟨fun _ _ => trivial, ?_⟩
      have hrun : (execOp a.eval o).run P w = .halt (.panic (.iface t v1)) w := by
        unfold execOp
        rw [ho]
        simp only [hgg, Sem.run_bind]
        rfl
      rw [Oper.semAt_eq _ _ _ hnd, hrun]
      exact hk'
    · cases h
  · cases h
  · rename_i hne1 hne2 hne3
    split at h
    · rename_i v s1 ho
      cases h
      obtain ⟨ρ', w', v', h1, h2, h3⟩ := aop_ok ho hp ha
      exact val_wp (fun c hc => hne3 c hc) h1 (hk ρ' w' h2 v' h3)
    · cases h
end
end Go.Proofs.YtjikgmbhnknojaaGreatDoor.Rk

/- What the reckoner's operations one behind the other say of a region that keeps its order. Plain lemmas. -/
namespace Go.Proofs.YtjikgmbhnknojaaGreatDoor.Rk
open Go
set_option linter.unusedVariables false
def OR.st : OR → Option St
  | .ok _ s => some s
  | .pan _ _ s => some s
  | .no => none
/-- What is asked behind operations. -/
def ORQ (Q : Exit → Act → World → Prop) (ρ : Env) (T : Nat → Nat → Prop) (s : St) (w : World) : OR → Prop
  | .ok aa s' => ∀ ρ' a w', Post ρ T s w ρ' s' w' → ActR ρ' aa a → Q .normal a w'
  | .pan aa v s' => ∀ ρ' a w' v', Post ρ T s w ρ' s' w' → ActR ρ' aa a → VR ρ' v v' → Q (.panic [{ v := v', recovered := false }]) a w'
  | .no => False
section
variable {P : Program} {ρ : Env} {T : Nat → Nat → Prop} {s s' : St} {w w' : World} {aa : AAct} {a : Act} {C : Callee} {Y : Yielder}
theorem wanted_ok {ops : List Oper} {opsA : Array Oper} {o : Oper} {b : Bool} (h : wantedA ops o aa = some b) (hop : opsA.toList = ops) (hg : ∀ j c d, o.guard = some (j, c) → (ops[j]?).bind (·.dst) = some d → VR ρ (aa.get d) (a.tmps.getD d undef)) : Region.wanted o (yielded opsA a.tmps) = b := by
  unfold wantedA at h
  unfold Region.wanted yielded
  cases hgd : o.guard with
  | none => rw [hgd] at h; cases h; rfl
  | some p =>
    obtain ⟨j, c⟩ := p
    rw [hgd] at h
    have he : opsA[j]? = ops[j]? := by rw [← hop, Array.getElem?_toList]
    simp only [he]
    simp only at h
    cases hd : (ops[j]?).bind (·.dst) with
    | none => rw [hd] at h; cases h; rfl
    | some d =>
      rw [hd] at h
      simp only at h
      have hv := hg j c d hgd hd
      simp only [Option.bind_some]
      split at h
      · rename_i b' hb
        cases h
        rw [hb] at hv
        have : a.tmps[d]? = some (.bool b') := by
          cases hx : a.tmps[d]? with
          | none => rw [Array.getD_eq_getD_getElem?, hx] at hv; cases hv
          | some x =>
            rw [Array.getD_eq_getD_getElem?, hx] at hv
            simp only [Option.getD_some] at hv
            cases hv
            rfl
        rw [this]
        cases b' <;> cases c <;> rfl
      · cases h
      · rename_i h1 h2
        cases h
        cases hx : a.tmps[d]? with
        | none => rfl
        | some x =>
          rw [Array.getD_eq_getD_getElem?, hx] at hv
          simp only [Option.getD_some] at hv
          cases x <;> first | rfl | skip
          rename_i bb
          generalize haa : aa.get d = y at *
          cases hv with
          | top => exact absurd rfl h2
          | bool => exact absurd rfl (h1 bb)
theorem ActR.ops (h : ActR ρ aa a) (o : Op) : OpsR ρ aa a o := fun x _ => h.eval x
theorem Post.refl (hp : Pre ρ T s s w) : Post ρ T s w ρ s w := Post.same hp.good rfl rfl (Still.refl w)
theorem oneOp_mono {R : Bool} {o : Oper} {x : OR} (hC : CSound P C) (hY : YSound P Y) (hwf : WfS s) (h : oneOp P C Y R aa o s = x) (hs : x.st = some s') : Mono s s' := by
  subst h
  unfold oneOp at hs
  split at hs
  · split at hs
    · split at hs
      · cases hs
      · cases hs; exact Mono.refl _
    · cases hs
  · cases hv : oneVal P C Y aa o s with
    | none => rw [hv] at hs; cases hs
    | some p =>
      obtain ⟨res, s1⟩ := p
      rw [hv] at hs
      have := oneVal_mono hC hY hv hwf
      cases res <;> (cases hs; exact this)
/-- One operation. -/
theorem oneOp_ok {R : Bool} {o : Oper} {x : OR} (hC : CSound P C) (hY : YSound P Y) (h : oneOp P C Y R aa o s = x) (hs : x.st = some s') (hp : Pre ρ T s s' w) (ha : ActR ρ aa a) {r : Option Nat} (hr : R = false → r = none) {n : Nat} {Q : Exit → Act → World → Prop} {K : Act → World → Prop}
    (hk : ORQ (fun e a w => match e with | .normal => K a w | e => Q e a w) ρ T s w x) : o.wpIn (FW r) n P a w K Q := by
  subst h
  unfold oneOp at hs hk
  split at hs
  · rename_i g args ats ho
    split at hs
    · rename_i f first cap hf
      split at hs
      · cases hs
      · rename_i hR
        cases hs
        have hrn := hr (by simpa using hR)
        subst hrn
        simp only [ho, hf] at hk
        rw [if_neg hR] at hk
        have hg := ha.eval g
        rw [hf] at hg
        generalize hgg : a.eval g = g' at hg
        cases hg with
        | func _ _ _ k' l' h1 h2 =>
        have hargs := ha.args args
        have hd : DefR ρ (.fn f (first ++ args.toList.map (aeval aa) ++ cap)) { target := .fn (.func f) l', args := k' ++ args.map a.eval } := .fn _ _ _ _ (by
          simp only [Array.toList_append]
          exact (h1.append hargs).append h2)
        have hrun : (execOp a.eval o).run P w = .ok (.defer { target := .fn (.func f) l', args := k' ++ args.map a.eval }) w := by
          unfold execOp
          rw [ho]
          simp only [resolve, hgg, Deferred.ofValue, Sem.run_bind, Sem.run_pure, Result.andThen_ok]
        refine ⟨fun _ _ => trivial, ?_⟩
        show o.uponIn (FW none) n P a K Q ((Oper.semAt none a.eval o).run P w)
        rw [Oper.semAt_none, hrun]
        have hact : ActR ρ { aa with defs := .fn f (first ++ args.toList.map (aeval aa) ++ cap) :: aa.defs } { a with defers := { target := .fn (.func f) l', args := k' ++ args.map a.eval } :: a.defers } := ⟨ha.size, ha.get, .cons _ _ _ _ hd ha.defs⟩
        exact hk ρ _ w (Post.refl hp) (hact.put o.dst undef_ok)
    · cases hs
  · rename_i hnd
    have hk : ORQ (fun e a w => match e with | .normal => K a w | e => Q e a w) ρ T s w (resOf aa o.dst (oneVal P C Y aa o s)) := by
      split at hk
      · rename_i g args ats ho
        exact absurd ho (hnd g args ats)
      · exact hk
    cases hv : oneVal P C Y aa o s with
    | none => rw [hv] at hs; cases hs
    | some p =>
      obtain ⟨res, s1⟩ := p
      rw [hv] at hs hk
      have hs1 : s1 = s' := by cases res <;> (cases hs; rfl)
      subst hs1
      refine oneVal_ok hC hY hv hp (ha.ops _) (fun ρ' w' hpost => ?_)
      cases res with
      | ret v => exact fun v' hvv => hk ρ' _ w' hpost ((ha.mono hpost.ext).put o.dst hvv)
      | pan v => exact fun v' hvv => hk ρ' a w' v' hpost (ha.mono hpost.ext) hvv
theorem runOps_mono {R : Bool} {ops : List Oper} (hC : CSound P C) (hY : YSound P Y) : ∀ (l : List Oper) {aa : AAct} {s : St} {x : OR} {s' : St}, WfS s → runOps P C Y R ops l aa s = x → x.st = some s' → Mono s s'
  | [], aa, s, x, s', hwf, h, hs => by
    unfold runOps at h
    subst h
    cases hs
    exact Mono.refl _
  | o :: l, aa, s, x, s', hwf, h, hs => by
    unfold runOps at h
    split at h
    · cases h1 : oneOp P C Y R aa o s with
      | no => rw [h1] at h; subst h; cases hs
      | pan aa1 v s1 =>
        rw [h1] at h
        subst h
        exact oneOp_mono hC hY hwf h1 hs
      | ok aa1 s1 =>
        rw [h1] at h
        have m1 := oneOp_mono hC hY hwf h1 rfl
        exact m1.trans (runOps_mono hC hY l (m1.wf hwf) h hs)
    · exact runOps_mono hC hY l hwf h hs
    · subst h; cases hs
theorem ORQ.after {Q : Exit → Act → World → Prop} {ρ1 : Env} {s1 : St} {w1 : World} {x : OR} {s' : St} (hs : x.st = some s') (m1 : Mono s s1) (m2 : Mono s1 s') (hpost : Post ρ T s w ρ1 s1 w1) (h : ORQ Q ρ T s w x) : ORQ Q ρ1 (Tn T s.n s1.n) s1 w1 x := by
  cases x with
  | no => cases hs
  | ok aa s2 => cases hs; exact fun ρ' a w' hp ha => h ρ' a w' (hpost.trans m1 m2 hp) ha
  | pan aa v s2 => cases hs; exact fun ρ' a w' v' hp ha hv => h ρ' a w' v' (hpost.trans m1 m2 hp) ha hv
/-- Operations one behind the other. -/
theorem runOps_ok {R : Bool} {ops : List Oper} {opsA : Array Oper} (hop : opsA.toList = ops) (hC : CSound P C) (hY : YSound P Y) {r : Option Nat} (hr : R = false → r = none) {n : Nat} {Q : Exit → Act → World → Prop} : ∀ (l : List Oper) {aa : AAct} {s : St} {x : OR} {s' : St} {ρ : Env} {T : Nat → Nat → Prop} {w : World} {a : Act},
    runOps P C Y R ops l aa s = x → x.st = some s' → Pre ρ T s s' w → ActR ρ aa a → ORQ Q ρ T s w x → wpListIn (FW r) n P opsA Q l a w
  | [], aa, s, x, s', ρ, T, w, a, h, hs, hp, ha, hk => by
    unfold runOps at h
    subst h
    cases hs
    exact hk ρ a w (Post.refl hp) ha
  | o :: l, aa, s, x, s', ρ, T, w, a, h, hs, hp, ha, hk => by
    unfold runOps at h
    have hguard : ∀ b, wantedA ops o aa = some b → Region.wanted o (yielded opsA a.tmps) = b := fun b hb => wanted_ok hb hop (fun j c d _ _ => ha.get d)
    unfold wpListIn
    split at h
    · rename_i hw
      rw [if_pos (hguard true hw)]
      cases h1 : oneOp P C Y R aa o s with
      | no => rw [h1] at h; subst h; cases hs
      | pan aa1 v s1 =>
        rw [h1] at h
        subst h
        exact oneOp_ok hC hY h1 hs hp ha hr (fun ρ' a' w' v' hpost ha' hv => hk ρ' a' w' v' hpost ha' hv)
      | ok aa1 s1 =>
        rw [h1] at h
        have m1 := oneOp_mono hC hY hp.wf h1 rfl
        have m2 := runOps_mono hC hY l (m1.wf hp.wf) h hs
        refine oneOp_ok hC hY h1 rfl (hp.first m2) ha hr (fun ρ' a' w' hpost ha' => ?_)
        exact runOps_ok hop hC hY hr l h hs (hp.next m1 m2 hpost) ha' (hk.after hs m1 m2 hpost)
    · rename_i hw
      rw [if_neg (by rw [hguard false hw]; simp)]
      exact ⟨fun _ _ => trivial, runOps_ok hop hC hY hr l h hs hp (ha.put o.dst undef_ok) hk⟩
    · subst h; cases hs
end
end Go.Proofs.YtjikgmbhnknojaaGreatDoor.Rk

/- A step that was reckoned in some blocks alone leaves the others as they were. Plain lemmas. -/
namespace Go.Proofs.YtjikgmbhnknojaaGreatDoor.Rk
open Go
set_option linter.unusedVariables false
section
variable {ρ ρ' : Env} {T1 T2 : Nat → Nat → Prop} {p q : St} {w w' : World} {h h' : Nat → Option ABlk}
theorem at_wr {b i j n : Nat} (h1 : j ≤ i) (h2 : i < j + n) : (LE.wr b j n).at b i := ⟨rfl, h1, h2⟩
/-- The step, looked at from all blocks that are known. -/
theorem good_frame (hG : Good ρ T1 h w) (hp : Pre ρ T2 p q w) (hpost : Post ρ T2 p w ρ' q w') (hm : Mono p q) (hlog : p.log = [])
    (hsub : ∀ b i, T2 b i → T1 b i) (hlive : ∀ b, (∃ i, T2 b i) → ∃ z, h b = some z ∧ live z) (hnew : ∀ b i, p.n ≤ b → b < q.n → ¬ T1 b i)
    (hcov : ∀ e ∈ q.log, e.blk < p.n → ∀ i, e.at e.blk i → T2 e.blk i)
    (ha : ∀ b, p.n ≤ b → b < q.n → h' b = q.heap.get b)
    (hb : ∀ b y, (∃ i, T1 b i) → (∀ i, ¬ T2 b i) → h' b = some y → live y → h b = some y)
    (hc : ∀ b y', (∃ i, T2 b i) → h' b = some y' → live y' → ∃ y, q.heap.get b = some y ∧ live y ∧ (match y with
      | .cells t cs' => ∃ cs, y' = .cells t cs ∧ cs.length = cs'.length ∧ (∀ i, T2 b i → cs[i]? = cs'[i]?) ∧ ((∀ i, T2 b i) ∨ ∃ cs0, h b = some (.cells t cs0) ∧ ∀ i, ¬ T2 b i → cs[i]? = cs0[i]?)
      | y => y' = y)) : Good ρ' (Tn T1 p.n q.n) h' w' := by
  -- what is written is looked into
  have hwr : ∀ e ∈ q.log, ∀ r, ρ e.blk = some r → ∀ i, e.at e.blk i → T2 e.blk i := by
    intro e he r hr i hi
    have h1 : e.blk < q.n := hm.lb hp.wf (by rw [hlog]; simp) e he
    by_cases h2 : e.blk < p.n
    · exact hcov e he h2 i hi
    · rw [hp.fresh e.blk (by omega) h1] at hr; cases hr
  have hinj : ∀ b r i, T2 b i → ∀ b' r' y', ρ b = some r → ρ b' = some r' → h b' = some y' → live y' → (∃ i, T1 b' i) → r.blk = r'.blk → b = b' := by
    intro b r i hi b' r' y' hr hr' hy' hl' ht' e
    obtain ⟨z, hz, hzl⟩ := hlive b ⟨i, hi⟩
    exact hG.inj b b' r r' z y' hz hy' hzl hl' ⟨i, hsub b i hi⟩ ht' hr hr' e
  have hquiet : ∀ b r y, ρ b = some r → h b = some y → live y → (∃ i, T1 b i) → (∀ i, ¬ T2 b i) → w'.heap[r.blk]? = w.heap[r.blk]? := by
    intro b r y hr hy hl hT hn
    refine hpost.unch.block r.blk (hG.old b r hr) (fun o hw => ?_)
    obtain ⟨e, he, r', h1, h2, h3⟩ := hw
    have hi : ∃ i, e.at e.blk i := by
      cases e with
      | rd => exact h3.elim
      | wr c j n => exact ⟨j, rfl, Nat.le_refl _, by omega⟩
      | all c => exact ⟨0, rfl⟩
    obtain ⟨i, hi⟩ := hi
    have ht := hwr e he r' h1 i hi
    have := hinj e.blk r' i ht b r y h1 hr hy hl hT h2
    exact hn i (this ▸ ht)
  have told : ∀ b, ∀ i, Tn T1 p.n q.n b i → T1 b i ∨ p.n ≤ b ∧ b < q.n := fun b i h => h
  refine ⟨fun b y hy hT => ?_, fun b b' r r' y y' hy hy' hl hl' ht ht' hr hr' e => ?_, hpost.good.old⟩
  · by_cases hl : live y
    · by_cases hmade : p.n ≤ b ∧ b < q.n
      · rw [ha b hmade.1 hmade.2] at hy
        exact (hpost.good.sat b y hy ⟨0, .inr hmade⟩).mono (Env.le_refl _) (fun i _ => .inr hmade) (fun _ _ => rfl)
      · have hT1 : ∃ i, T1 b i := by
          obtain ⟨i, hi⟩ := hT
          rcases hi with hi | hi
          · exact ⟨i, hi⟩
          · exact absurd hi hmade
        have hTT : ∀ i, Tn T1 p.n q.n b i → T1 b i := fun i hi => hi.elim id (fun hi => absurd hi hmade)
        by_cases ht2 : ∃ i, T2 b i
        · obtain ⟨y0, hq, hyl, hrel⟩ := hc b y ht2 hy hl
          have hbr := hpost.good.sat b y0 hq (by obtain ⟨i, hi⟩ := ht2; exact ⟨i, .inl hi⟩)
          cases y0 with
          | cells t cs' =>
            obtain ⟨cs, rfl, hlen, hin, hout⟩ := hrel
            obtain ⟨r, c, fr, g1, g2, g3, g4, g5, g6⟩ := hbr
            refine ⟨r, c, fr, g1, g2, g3, by rw [hlen]; exact g4, g5, fun i a hai hTi => ?_⟩
            by_cases hti : T2 b i
            · rw [hin i hti] at hai
              exact g6 i a hai (.inl hti)
            · rcases hout with hout | ⟨cs0, hh0, hout⟩
              · exact absurd (hout i) hti
              · rw [hout i hti] at hai
                obtain ⟨r0, c0, fr0, k1, k2, k3, k4, k5, k6⟩ := hG.sat b _ hh0 hT1
                have hr0 : r0 = r := Option.some.inj ((hpost.ext b r0 k1).symm.trans g1)
                subst hr0
                obtain ⟨v, hv, hR⟩ := k6 i a hai (hTT i hTi)
                have hbl : ∀ e ∈ q.log, ∀ r', ρ e.blk = some r' → r'.blk = r0.blk → ∀ j, e.at e.blk j → e.blk = b := fun e he r' hr' hbk j hj => hinj e.blk r' j (hwr e he r' hr' j hj) b r0 _ hr' k1 hh0 trivial hT1 hbk
                obtain ⟨c1, m1, m2, m3⟩ := hpost.unch.cells r0.blk c0 (t / 2) fr0 k2 (fun ⟨b1, r1, n1, n2, n3⟩ => by
                  have := hbl _ n1 r1 n2 n3 i rfl
                  have h7 := hwr _ n1 r1 n2 i rfl
                  simp only [LE.blk] at this h7
                  rw [this] at h7
                  exact hti h7)
                rw [m1] at g2
                simp only [Option.some.injEq, Obj.cells.injEq] at g2
                obtain ⟨g2, _, _⟩ := g2
                subst g2
                refine ⟨v, ?_, hR.mono hpost.ext⟩
                rw [m3 _ (fun ⟨e, he, r', n1, n2, n3⟩ => by
                  cases e with
                  | rd => exact n3.elim
                  | wr b1 j n =>
                    have h8 : (LE.wr b1 j n).at b1 j := ⟨rfl, Nat.le_refl _, by omega⟩
                    have hbb := hbl _ he r' n1 n2 j h8
                    simp only [LE.blk] at hbb n1
                    subst hbb
                    have : r' = r0 := Option.some.inj (n1.symm.trans k1)
                    subst this
                    exact hti (hwr _ he r' n1 i ⟨rfl, by omega, by omega⟩)
                  | all b1 =>
                    have hbb := hbl _ he r' n1 n2 i rfl
                    simp only [LE.blk] at hbb n1
                    subst hbb
                    exact hti (hwr _ he r' n1 i rfl))]
                exact hv
          | map es clock => subst hrel; exact hbr
          | miter m a1 a2 a3 => subst hrel; exact hbr
          | siter a1 a2 => subst hrel; exact hbr
          | pmap a1 => subst hrel; exact hbr
          | defd => subst hrel; exact hbr
          | loop a1 a2 a3 a4 a5 a6 a7 a8 => subst hrel; exact hbr
          | dead => exact hyl.elim
        · have hn2 : ∀ i, ¬ T2 b i := fun i hi => ht2 ⟨i, hi⟩
          have hy0 := hb b y hT1 hn2 hy hl
          exact (hG.sat b y hy0 hT1).mono hpost.ext hTT (fun r hr => hquiet b r y hr hy0 hl hT1 hn2)
    · cases y <;> first | exact trivial | exact absurd trivial hl
  · -- no two in one place
    have old_ : ∀ b y r, h' b = some y → live y → (∃ i, Tn T1 p.n q.n b i) → ¬ (p.n ≤ b ∧ b < q.n) → ρ' b = some r → (∃ i, T1 b i) ∧ (∃ z, h b = some z ∧ live z) ∧ ρ b = some r := by
      intro b y r hy hl ht hnm hr
      have hT1 : ∃ i, T1 b i := by
        obtain ⟨i, hi⟩ := ht
        rcases hi with hi | hi
        · exact ⟨i, hi⟩
        · exact absurd hi hnm
      have hz : ∃ z, h b = some z ∧ live z := by
        by_cases ht2 : ∃ i, T2 b i
        · exact hlive b ht2
        · exact ⟨y, hb b y hT1 (fun i hi => ht2 ⟨i, hi⟩) hy hl, hl⟩
      obtain ⟨z, hz1, hz2⟩ := hz
      obtain ⟨r0, o0, hr0, _⟩ := (hG.sat b z hz1 hT1).where_ hz2
      have : r0 = r := Option.some.inj ((hpost.ext _ _ hr0).symm.trans hr)
      subst this
      exact ⟨hT1, ⟨z, hz1, hz2⟩, hr0⟩
    have mix : ∀ b y r b' y' r', h' b = some y → live y → (∃ i, Tn T1 p.n q.n b i) → ¬ (p.n ≤ b ∧ b < q.n) → ρ' b = some r → h' b' = some y' → live y' → (p.n ≤ b' ∧ b' < q.n) → ρ' b' = some r' → r.blk = r'.blk → b = b' := by
      intro b y r b' y' r' hy hl ht hnm hr hy' hl' hm' hr' e
      obtain ⟨hT1, ⟨z, hz1, hz2⟩, hr0⟩ := old_ b y r hy hl ht hnm hr
      have hno : ρ b' = none := hp.fresh b' hm'.1 hm'.2
      have hlt := hG.old b r hr0
      obtain ⟨b1, r1, n1, n2, n3⟩ := hpost.fr b' r' hno hr' (by omega)
      have ht2 := hwr _ n1 r1 n2 0 rfl
      have hbb := hinj b1 r1 0 ht2 b r z n2 hr0 hz1 hz2 hT1 (by omega)
      subst hbb
      obtain ⟨y0, hq, hyl, _⟩ := hc b1 y ⟨0, ht2⟩ hy hl
      rw [ha b' hm'.1 hm'.2] at hy'
      exact hpost.good.inj b1 b' r r' y0 y' hq hy' hyl hl' ⟨0, .inl ht2⟩ ⟨0, .inr hm'⟩ hr hr' e
    by_cases hmb : p.n ≤ b ∧ b < q.n
    · by_cases hmb' : p.n ≤ b' ∧ b' < q.n
      · rw [ha b hmb.1 hmb.2] at hy
        rw [ha b' hmb'.1 hmb'.2] at hy'
        exact hpost.good.inj b b' r r' y y' hy hy' hl hl' ⟨0, .inr hmb⟩ ⟨0, .inr hmb'⟩ hr hr' e
      · exact (mix b' y' r' b y r hy' hl' ht' hmb' hr' hy hl hmb hr e.symm).symm
    · by_cases hmb' : p.n ≤ b' ∧ b' < q.n
      · exact mix b y r b' y' r' hy hl ht hmb hr hy' hl' hmb' hr' e
      · obtain ⟨hT1, ⟨z, hz1, hz2⟩, hr0⟩ := old_ b y r hy hl ht hmb hr
        obtain ⟨hT1', ⟨z', hz1', hz2'⟩, hr0'⟩ := old_ b' y' r' hy' hl' ht' hmb' hr'
        exact hG.inj b b' r r' z z' hz1 hz1' hz2 hz2' hT1 hT1' hr0 hr0' e
end
end Go.Proofs.YtjikgmbhnknojaaGreatDoor.Rk

/- A region that draws its order, reckoned in the order of the text. Plain lemmas. -/
namespace Go.Proofs.YtjikgmbhnknojaaGreatDoor.Rk
open Go
set_option linter.unusedVariables false
-- ## what waits for what
def waitF (acc : List Nat) (o : Oper) : Nat := o.after.toList.foldl (fun s e => if Region.binds .any e then s ||| 2 ^ e.on ||| acc.getD e.on 0 else s) 0
theorem waitF_bit (acc : List Nat) : ∀ (l : List Edge) (s0 j : Nat), (l.foldl (fun s e => if Region.binds .any e then s ||| 2 ^ e.on ||| acc.getD e.on 0 else s) s0).testBit j = true ↔ s0.testBit j = true ∨ ∃ e ∈ l, Region.binds .any e = true ∧ (e.on = j ∨ (acc.getD e.on 0).testBit j = true)
  | [], s0, j => by simp
  | e :: l, s0, j => by
    rw [List.foldl_cons, waitF_bit acc l]
    by_cases hb : Region.binds .any e = true
    · rw [if_pos hb]
      simp only [Nat.testBit_or, Bool.or_eq_true, Nat.testBit_two_pow, decide_eq_true_eq, List.mem_cons, exists_eq_or_imp, hb, true_and]
      constructor
      · rintro (((h | h) | h) | h)
        · exact .inl h
        · exact .inr (.inl (.inl h))
        · exact .inr (.inl (.inr h))
        · exact .inr (.inr h)
      · rintro (h | (h | h) | h)
        · exact .inl (.inl (.inl h))
        · exact .inl (.inl (.inr h))
        · exact .inl (.inr h)
        · exact .inr h
    · rw [if_neg hb]
      simp [hb]
theorem waitsA_snoc (ops : List Oper) (o : Oper) : waitsA (ops ++ [o]) = waitsA ops ++ [waitF (waitsA ops) o] := by
  unfold waitsA
  rw [List.foldl_append]
  rfl
theorem waitsA_len (ops : List Oper) : (waitsA ops).length = ops.length := by
  have : ∀ (n : Nat) (ops : List Oper), ops.length = n → (waitsA ops).length = n := by
    intro n
    induction n with
    | zero => intro ops h; rw [List.eq_nil_of_length_eq_zero h]; rfl
    | succ n ih =>
      intro ops h
      have hne : ops ≠ [] := by intro e; subst e; simp at h
      rw [← List.dropLast_concat_getLast hne, waitsA_snoc]
      have := ih ops.dropLast (by simp [h])
      simp [this]
  exact this _ ops rfl
def W (ops : List Oper) (k : Nat) : Nat := (waitsA ops).getD k 0
theorem waits_pre (ops l : List Oper) (k : Nat) (hk : k < ops.length) : (waitsA (ops ++ l))[k]? = (waitsA ops)[k]? := by
  have : ∀ (n : Nat) (l : List Oper), l.length = n → (waitsA (ops ++ l))[k]? = (waitsA ops)[k]? := by
    intro n
    induction n with
    | zero => intro l h; rw [List.eq_nil_of_length_eq_zero h, List.append_nil]
    | succ n ih =>
      intro l h
      have hne : l ≠ [] := by intro e; subst e; simp at h
      rw [← List.dropLast_concat_getLast hne, ← List.append_assoc, waitsA_snoc, List.getElem?_append_left (by rw [waitsA_len]; simp; omega)]
      exact ih l.dropLast (by simp [h])
  exact this _ l rfl
/-- What an operation waits for: what its edges name, and what those wait for. -/
theorem W_spec {ops : List Oper} {k : Nat} {o : Oper} (ho : ops[k]? = some o) {j : Nat} : (W ops k).testBit j = true ↔ ∃ e ∈ o.after, Region.binds .any e = true ∧ (e.on = j ∨ (((waitsA ops).take k).getD e.on 0).testBit j = true) := by
  have hk := (List.getElem?_eq_some_iff.1 ho).1
  have hsplit : ops = ops.take (k + 1) ++ ops.drop (k + 1) := (List.take_append_drop _ _).symm
  have hsnoc : ops.take (k + 1) = ops.take k ++ [o] := by rw [List.take_add_one, ho]; rfl
  have htk : (waitsA ops).take k = waitsA (ops.take k) := by
    apply List.ext_getElem?
    intro i
    by_cases hi : i < k
    · rw [List.getElem?_take_of_lt hi]
      conv => lhs; rw [← List.take_append_drop k ops]
      rw [waits_pre _ _ i (by simp; omega)]
    · rw [List.getElem?_eq_none (by simp; omega), List.getElem?_eq_none (by rw [waitsA_len]; simp; omega)]
  have hW : W ops k = waitF (waitsA (ops.take k)) o := by
    unfold W
    rw [List.getD_eq_getElem?_getD]
    conv => lhs; rw [hsplit]
    rw [waits_pre _ _ k (by simp; omega), hsnoc, waitsA_snoc, List.getElem?_append_right (by rw [waitsA_len]; simp; omega), waitsA_len]
    have : k - (ops.take k).length = 0 := by simp; omega
    rw [this]
    rfl
  rw [hW, htk]
  unfold waitF
  rw [waitF_bit]
  simp [Array.mem_toList_iff]
-- ## the steps in the order of the text
structure Stp where
  p : St
  v : AV
  q : St
def Stp.rc (x : Stp) : Rec := ⟨x.q.log, x.p.n, x.q.n⟩
def Stp.wr (x : Stp) : Bool := x.q.log.any (·.writes)
/-- What the steps say: before the k-th one the state S k and the activation A k. -/
structure Text (P : Program) (C : Callee) (Y : Yielder) (ops : List Oper) (ss : List Stp) (A : Nat → AAct) (S : Nat → St) : Prop where
  len : ss.length = ops.length
  at_ : ∀ k x o, ss[k]? = some x → ops[k]? = some o → x.p = { S k with log := [] } ∧ A (k + 1) = (A k).put o.dst x.v ∧ S (k + 1) = { x.q with log := x.q.log ++ (S k).log } ∧
    ((wantedA ops o (A k) = some true ∧ oneVal P C Y (A k) o x.p = some (.ret x.v, x.q)) ∨ (wantedA ops o (A k) = some false ∧ x.v = undefA ∧ x.q = x.p))
  clash : ∀ j k x y, j < k → ss[j]? = some x → ss[k]? = some y → (W ops k).testBit j = false → x.rc.clash y.rc = false
theorem clashes_false {w : Nat} {r : Rec} : ∀ {l : List Rec} {i : Nat}, clashes w r l i = false → ∀ j x, l[j]? = some x → w.testBit (i + j) = false → x.clash r = false
  | [], i, _, j, x, hx, _ => by simp at hx
  | y :: l, i, h, 0, x, hx, hw => by
    simp at hx
    subst hx
    unfold clashes at h
    simp only [Bool.or_eq_false_iff, Bool.and_eq_false_iff, Bool.not_eq_false'] at h
    rcases h.1 with h1 | h1
    · simp at hw; rw [hw] at h1; cases h1
    · exact h1
  | y :: l, i, h, j + 1, x, hx, hw => by
    unfold clashes at h
    simp only [Bool.or_eq_false_iff] at h
    exact clashes_false h.2 j x (by simpa using hx) (by rw [show i + 1 + j = i + (j + 1) by omega]; exact hw)
theorem clash_empty (r : Rec) (n m : Nat) : r.clash ⟨[], n, m⟩ = false := by
  unfold Rec.clash
  simp
section
variable {P : Program} {C : Callee} {Y : Yielder}
def TextL (P : Program) (C : Callee) (Y : Yielder) (ops l : List Oper) (ws : List Nat) (rs : List Rec) (aa : AAct) (s : St) (aa' : AAct) (s' : St) : Prop :=
    ∃ (ss : List Stp) (A : Nat → AAct) (S : Nat → St), A 0 = aa ∧ S 0 = s ∧ A l.length = aa' ∧ S l.length = s' ∧ ss.length = l.length ∧ (∀ (k : Nat) (x : Stp) (o : Oper), ss[k]? = some x → l[k]? = some o → x.p = { S k with log := [] } ∧ A (k + 1) = (A k).put o.dst x.v ∧ S (k + 1) = { x.q with log := x.q.log ++ (S k).log } ∧
      ((wantedA ops o (A k) = some true ∧ oneVal P C Y (A k) o x.p = some (.ret x.v, x.q)) ∨ (wantedA ops o (A k) = some false ∧ x.v = undefA ∧ x.q = x.p))) ∧
      ∀ (k : Nat) (y : Stp), ss[k]? = some y → ∃ w : Nat, ws[k]? = some w ∧ (∀ (j : Nat) (r : Rec), rs[j]? = some r → w.testBit j = false → r.clash y.rc = false) ∧ ∀ (j : Nat) (x : Stp), j < k → ss[j]? = some x → w.testBit (rs.length + j) = false → x.rc.clash y.rc = false
theorem draw_text {ops : List Oper} : ∀ (l : List Oper) (ws : List Nat) (rs : List Rec) (aa : AAct) (s : St) {aa' : AAct} {s' : St}, drawOps P C Y ops l ws rs aa s = .ok aa' s' → TextL P C Y ops l ws rs aa s aa' s'
  | [], ws, rs, aa, s, aa', s', h => by
    unfold drawOps at h
    cases h
    exact ⟨[], fun _ => aa, fun _ => s, rfl, rfl, rfl, rfl, rfl, fun k x o hx => by simp at hx, fun k y hy => by simp at hy⟩
  | o :: l, [], rs, aa, s, aa', s', h => by unfold drawOps at h; cases h
  | o :: l, w :: ws, rs, aa, s, aa', s', h => by
    have build : ∀ (x : Stp), x.p = { s with log := [] } → ((wantedA ops o aa = some true ∧ oneVal P C Y aa o x.p = some (.ret x.v, x.q)) ∨ (wantedA ops o aa = some false ∧ x.v = undefA ∧ x.q = x.p)) → (∀ j r, rs[j]? = some r → w.testBit j = false → r.clash x.rc = false) →
        drawOps P C Y ops l ws (rs ++ [x.rc]) (aa.put o.dst x.v) { x.q with log := x.q.log ++ s.log } = .ok aa' s' → TextL P C Y ops (o :: l) (w :: ws) rs aa s aa' s' := fun x hxp hx hcl hrest => by
      obtain ⟨ss, A, S, h1, h2, h3, h4, h5, h6, h7⟩ := draw_text l ws _ _ _ hrest
      refine ⟨x :: ss, fun k => match k with | 0 => aa | k + 1 => A k, fun k => match k with | 0 => s | k + 1 => S k, rfl, rfl, h3, h4, by simp [h5], fun k y oo hy ho => ?_, fun k y hy => ?_⟩
      · cases k with
        | zero =>
          simp at hy ho
          subst hy ho
          exact ⟨hxp, h1, h2, hx⟩
        | succ k => exact h6 k y oo (by simpa using hy) (by simpa using ho)
      · cases k with
        | zero =>
          simp at hy
          subst hy
          exact ⟨w, rfl, hcl, fun j x hj => by omega⟩
        | succ k =>
          obtain ⟨w', g1, g2, g3⟩ := h7 k y (by simpa using hy)
          refine ⟨w', by simpa using g1, fun j r hr hb => g2 j r (by rw [List.getElem?_append_left (List.getElem?_eq_some_iff.1 hr).1]; exact hr) hb, fun j z hj hz hb => ?_⟩
          cases j with
          | zero =>
            simp at hz
            subst hz
            exact g2 rs.length x.rc (by simp) (by simpa using hb)
          | succ j => exact g3 j z (by omega) (by simpa using hz) (by rw [List.length_append, List.length_singleton, show rs.length + 1 + j = rs.length + (j + 1) by omega]; exact hb)
    unfold drawOps at h
    split at h
    · rename_i hw
      split at h
      · rename_i v s1 hv
        split at h
        · cases h
        · rename_i hcl
          have hcl : clashes w ⟨s1.log, s.n, s1.n⟩ rs 0 = false := by simpa using hcl
          exact build ⟨{ s with log := [] }, v, s1⟩ rfl (.inl ⟨hw, hv⟩) (fun j r hr hb => clashes_false hcl j r hr (by simpa using hb)) h
      · cases h
    · rename_i hw
      exact build ⟨{ s with log := [] }, undefA, { s with log := [] }⟩ rfl (.inr ⟨hw, rfl, rfl⟩) (fun j r hr hb => clash_empty _ _ _) (by simpa [Stp.rc] using h)
    · cases h
theorem draw_Text {ops : List Oper} {aa aa' : AAct} {s s' : St} (h : drawOps P C Y ops ops (waitsA ops) [] aa s = .ok aa' s') : ∃ ss A S, Text P C Y ops ss A S ∧ A 0 = aa ∧ S 0 = s ∧ A ops.length = aa' ∧ S ops.length = s' := by
  obtain ⟨ss, A, S, h1, h2, h3, h4, h5, h6, h7⟩ := draw_text ops _ _ _ _ h
  refine ⟨ss, A, S, ⟨h5, h6, fun j k x y hj hx hy hb => ?_⟩, h1, h2, h3, h4⟩
  obtain ⟨w, g1, g2, g3⟩ := h7 k y hy
  refine g3 j x hj hx ?_
  unfold W at hb
  rw [List.getD_eq_getElem?_getD, g1] at hb
  simpa using hb
end
end Go.Proofs.YtjikgmbhnknojaaGreatDoor.Rk

/- A region that draws its order: what stands in every order. Plain lemmas. -/
namespace Go.Proofs.YtjikgmbhnknojaaGreatDoor.Rk
open Go
set_option linter.unusedVariables false
theorem hit_all {e : LE} {b i : Nat} (h : e.at b i) : (LE.all b).hits e = true ∧ e.hits (LE.all b) = true := by
  cases e with
  | rd c j n => obtain ⟨rfl, _⟩ := h; exact ⟨by simp [LE.hits, LE.blk], by simp [LE.hits, LE.blk]⟩
  | wr c j n => obtain ⟨rfl, _⟩ := h; exact ⟨by simp [LE.hits, LE.blk], by simp [LE.hits, LE.blk]⟩
  | all c => cases h; exact ⟨by simp [LE.hits, LE.blk], by simp [LE.hits, LE.blk]⟩
theorem hit_wr {e f : LE} {b i : Nat} (h : e.at b i) (hf : f.wrote b i) : f.hits e = true ∧ e.hits f = true := by
  cases f with
  | rd c j n => exact hf.elim
  | all c => exact hf.elim
  | wr c j n =>
    obtain ⟨rfl, h1, h2⟩ := hf
    cases e with
    | rd d k m => obtain ⟨rfl, h3, h4⟩ := h; exact ⟨by simp [LE.hits]; omega, by simp [LE.hits]; omega⟩
    | wr d k m => obtain ⟨rfl, h3, h4⟩ := h; exact ⟨by simp [LE.hits]; omega, by simp [LE.hits]; omega⟩
    | all d => cases h; exact ⟨by simp [LE.hits, LE.blk], by simp [LE.hits, LE.blk]⟩
theorem clash_inv {x y : Stp} (h : x.rc.clash y.rc = false) : (∀ e ∈ x.q.log, ∀ f ∈ y.q.log, e.hits f = false) ∧ (∀ f ∈ y.q.log, ¬ (x.p.n ≤ f.blk ∧ f.blk < x.q.n)) ∧ ¬ (x.wr = true ∧ y.wr = true) := by
  unfold Rec.clash at h
  simp only [Bool.or_eq_false_iff] at h
  obtain ⟨⟨h1, h2⟩, h3⟩ := h
  refine ⟨fun e he f hf => ?_, fun f hf hh => ?_, fun ⟨h4, h5⟩ => ?_⟩
  · have h4 : (y.rc.log.any fun f => e.hits f) = false := by simpa using List.any_eq_false.1 h1 e he
    simpa using List.any_eq_false.1 h4 f hf
  · have := List.any_eq_false.1 h2 f hf
    unfold LE.made at this
    apply this
    simp only [Bool.and_eq_true, decide_eq_true_eq]
    exact hh
  · have : (x.rc.log.any (·.writes) && y.rc.log.any (·.writes)) = true := by
      simp only [Bool.and_eq_true]
      exact ⟨h4, h5⟩
    rw [this] at h3
    cases h3
theorem quiet_of {x : Stp} (h : x.wr = false) {b i : Nat} : LE.all b ∉ x.q.log ∧ ∀ e ∈ x.q.log, ¬ e.wrote b i := by
  have := List.any_eq_false.1 h
  refine ⟨fun hm => this _ hm rfl, fun e he hw => ?_⟩
  cases e with
  | wr c j n => exact this _ he rfl
  | rd => exact hw.elim
  | all => exact hw.elim
def AgB (Tb : Nat → Prop) : ABlk → ABlk → Prop
  | .cells t cs, y => ∃ cs', y = .cells t cs' ∧ cs'.length = cs.length ∧ ∀ i, Tb i → cs'[i]? = cs[i]?
  | x, y => y = x
theorem AgB.refl (Tb : Nat → Prop) (x : ABlk) : AgB Tb x x := by
  cases x <;> first | rfl | exact ⟨_, rfl, rfl, fun _ _ => rfl⟩
theorem AgB.trans {Tb : Nat → Prop} {x y z : ABlk} (h : AgB Tb x y) (k : AgB Tb y z) : AgB Tb x z := by
  cases x with
  | cells t cs =>
    obtain ⟨cs', rfl, h2, h3⟩ := h
    obtain ⟨cs2, rfl, k2, k3⟩ := k
    exact ⟨cs2, rfl, k2.trans h2, fun i hi => (k3 i hi).trans (h3 i hi)⟩
  | _ => cases h; exact k
theorem AgB.symm {Tb : Nat → Prop} {x y : ABlk} (h : AgB Tb x y) : AgB Tb y x := by
  cases x with
  | cells t cs =>
    obtain ⟨cs', rfl, h2, h3⟩ := h
    exact ⟨cs, rfl, h2.symm, fun i hi => (h3 i hi).symm⟩
  | _ => cases h; exact AgB.refl _ _
theorem AgB.live {Tb : Nat → Prop} {x y : ABlk} (h : AgB Tb x y) (hl : live x) : live y := by
  cases x with
  | cells t cs => obtain ⟨cs', rfl, _⟩ := h; trivial
  | _ => cases h; exact hl
theorem AgB.eq {x y : ABlk} (h : AgB (fun _ => True) x y) : y = x := by
  cases x with
  | cells t cs =>
    obtain ⟨cs', rfl, h2, h3⟩ := h
    congr 1
    exact List.ext_getElem? (fun i => h3 i trivial)
  | _ => exact h
theorem BR.agree {ρ : Env} {Tb T : Nat → Prop} {b : Nat} {w : World} {x y : ABlk} (h : BR ρ T b w x) (ha : AgB Tb x y) (hT : ∀ i, Tb i → T i) : BR ρ Tb b w y := by
  cases x with
  | cells t cs =>
    obtain ⟨cs', rfl, h2, h3⟩ := ha
    obtain ⟨r, c, fr, g1, g2, g3, g4, g5, g6⟩ := h
    exact ⟨r, c, fr, g1, g2, g3, by rw [h2]; exact g4, g5, fun i a hi ht => g6 i a (by rw [← h3 i ht]; exact hi) (hT i ht)⟩
  | map _ _ => cases ha; exact h
  | miter _ _ _ _ => cases ha; exact h
  | siter _ _ => cases ha; exact h
  | pmap _ => cases ha; exact h
  | defd => cases ha; exact h
  | loop _ _ _ _ _ _ _ _ => cases ha; exact h
  | dead => cases ha; exact h
theorem Keep.ag {log : List LE} {b : Nat} {x : ABlk} {y : Option ABlk} {Tb : Nat → Prop} (h : Keep log b x y) (hn : ∀ i, Tb i → ∀ e ∈ log, ¬ e.wrote b i) : ∃ z, y = Option.some z ∧ AgB Tb x z := by
  cases x with
  | cells t cs => obtain ⟨cs', rfl, h2, h3⟩ := h; exact ⟨_, rfl, cs', rfl, h2, fun i hi => h3 i (hn i hi)⟩
  | _ => exact ⟨_, h, rfl⟩
section
variable {P : Program} {C : Callee} {Y : Yielder} (hC : CSound P C) (hY : YSound P Y) {ops : List Oper} {ss : List Stp} {A : Nat → AAct} {S : Nat → St} (X : Text P C Y ops ss A S) (hw0 : WfS (S 0))
include hC hY X hw0
theorem tx_get {k : Nat} (hk : k < ops.length) : ∃ x o, ss[k]? = some x ∧ ops[k]? = some o := by
  have _all := (⟨hC, hY, hw0⟩ : _ ∧ _ ∧ _)
  exact ⟨_, _, List.getElem?_eq_getElem (by rw [X.len]; exact hk), List.getElem?_eq_getElem hk⟩
theorem tx_step {k : Nat} {x : Stp} (hx : ss[k]? = some x) (hwf : WfS (S k)) : Mono x.p x.q ∧ x.p.heap = (S k).heap ∧ x.p.n = (S k).n ∧ x.p.log = [] ∧ (S (k + 1)).heap = x.q.heap ∧ (S (k + 1)).n = x.q.n ∧ (S (k + 1)).log = x.q.log ++ (S k).log := by
  have _all := hw0
  have hk : k < ops.length := by have := (List.getElem?_eq_some_iff.1 hx).1; rw [X.len] at this; exact this
  obtain ⟨h1, h2, h3, h4⟩ := X.at_ k x _ hx (List.getElem?_eq_getElem hk)
  refine ⟨?_, by rw [h1], by rw [h1], by rw [h1], by rw [h3], by rw [h3], by rw [h3]⟩
  rcases h4 with ⟨_, h4⟩ | ⟨_, _, h4⟩
  · exact oneVal_mono hC hY h4 (by rw [h1]; exact hwf)
  · rw [h4]; exact Mono.refl _
theorem tx_wf : ∀ k, k ≤ ops.length → WfS (S k)
  | 0, _ => hw0
  | k + 1, hk => by
    have ih := tx_wf k (by omega)
    obtain ⟨x, o, hx, _⟩ := tx_get hC hY X hw0 (show k < ops.length by omega)
    obtain ⟨m, h1, h2, h3, h4, h5, h6⟩ := tx_step hC hY X hw0 hx ih
    have := m.wf (by intro b hb; rw [h1]; exact ih b (by omega))
    intro b hb
    rw [h4]
    exact this b (by omega)
theorem tx_n : ∀ j i, i ≤ j → j ≤ ops.length → (S i).n ≤ (S j).n
  | 0, i, hi, _ => by have : i = 0 := by omega
                      subst this; exact Nat.le_refl _
  | j + 1, i, hi, hj => by
    by_cases h : i = j + 1
    · subst h; exact Nat.le_refl _
    · have ih := tx_n j i (by omega) (by omega)
      obtain ⟨x, o, hx, _⟩ := tx_get hC hY X hw0 (show j < ops.length by omega)
      obtain ⟨m, h1, h2, h3, h4, h5, h6⟩ := tx_step hC hY X hw0 hx (tx_wf hC hY X hw0 j (by omega))
      have := m.n
      omega
theorem tx_log : ∀ j i, i ≤ j → j ≤ ops.length → ∀ e ∈ (S i).log, e ∈ (S j).log
  | 0, i, hi, _ => by have : i = 0 := by omega
                      subst this; exact fun _ h => h
  | j + 1, i, hi, hj => by
    by_cases h : i = j + 1
    · subst h; exact fun _ h => h
    · have ih := tx_log j i (by omega) (by omega)
      obtain ⟨x, o, hx, _⟩ := tx_get hC hY X hw0 (show j < ops.length by omega)
      obtain ⟨m, h1, h2, h3, h4, h5, h6⟩ := tx_step hC hY X hw0 hx (tx_wf hC hY X hw0 j (by omega))
      intro e he
      rw [h6]
      exact List.mem_append_right _ (ih e he)
theorem tx_mem {k : Nat} {x : Stp} (hx : ss[k]? = some x) : ∀ e ∈ x.q.log, e ∈ (S ops.length).log := by
  have hk : k < ops.length := by have := (List.getElem?_eq_some_iff.1 hx).1; rw [X.len] at this; exact this
  obtain ⟨m, h1, h2, h3, h4, h5, h6⟩ := tx_step hC hY X hw0 hx (tx_wf hC hY X hw0 k (by omega))
  intro e he
  exact tx_log hC hY X hw0 ops.length (k + 1) (by omega) (Nat.le_refl _) e (by rw [h6]; exact List.mem_append_left _ he)
/-- Who made a block. -/
theorem tx_made {b : Nat} : ∀ (j i : Nat), i ≤ j → j ≤ ops.length → (S i).n ≤ b → b < (S j).n → ∃ k, i ≤ k ∧ k < j ∧ (S k).n ≤ b ∧ b < (S (k + 1)).n
  | 0, i, hi, _, h1, h2 => by
    have _all := (⟨hC, hY, X, hw0⟩ : _ ∧ _ ∧ _ ∧ _)
    have : i = 0 := by omega
    subst this
    omega
  | j + 1, i, hi, hj, h1, h2 => by
    by_cases h : b < (S j).n
    · by_cases hij : i = j + 1
      · subst hij; omega
      · obtain ⟨k, g1, g2, g3⟩ := tx_made j i (by omega) (by omega) h1 h
        exact ⟨k, g1, by omega, g3⟩
    · by_cases hij : i = j + 1
      · subst hij; omega
      · exact ⟨j, by omega, by omega, by omega, h2⟩
theorem tx_one {b k j : Nat} (hk : k < ops.length) (hj : j < ops.length) (h1 : (S k).n ≤ b) (h2 : b < (S (k + 1)).n) (h3 : (S j).n ≤ b) (h4 : b < (S (j + 1)).n) : k = j := by
  rcases Nat.lt_trichotomy k j with h | h | h
  · have := tx_n hC hY X hw0 j (k + 1) (by omega) (by omega); omega
  · exact h
  · have := tx_n hC hY X hw0 k (j + 1) (by omega) (by omega); omega
/-- What lives later lived. -/
theorem tx_live {b : Nat} : ∀ (j i : Nat), i ≤ j → j ≤ ops.length → b < (S i).n → ∀ y, (S j).heap.get b = some y → live y → ∃ z, (S i).heap.get b = some z ∧ live z
  | 0, i, hi, _, hb, y, hy, hl => by
    have : i = 0 := by omega
    subst this
    exact ⟨y, hy, hl⟩
  | j + 1, i, hi, hj, hb, y, hy, hl => by
    by_cases h : i = j + 1
    · subst h; exact ⟨y, hy, hl⟩
    · obtain ⟨x, o, hx, _⟩ := tx_get hC hY X hw0 (show j < ops.length by omega)
      have hwf := tx_wf hC hY X hw0 j (by omega)
      obtain ⟨m, h1, h2, h3, h4, h5, h6⟩ := tx_step hC hY X hw0 hx hwf
      have hn := tx_n hC hY X hw0 j i (by omega) (by omega)
      obtain ⟨z, hz, hzl⟩ := m.lv (by intro b hb; rw [h1]; exact hwf b (by omega)) b y (by omega) (by rw [← h4]; exact hy) hl
      rw [h1] at hz
      exact tx_live j i (by omega) (by omega) hb z hz hzl
/-- What is not changed stays. -/
theorem tx_path {b : Nat} {Tb : Nat → Prop} : ∀ (j i : Nat), i ≤ j → j ≤ ops.length → (∀ l x, i ≤ l → l < j → ss[l]? = some x → LE.all b ∉ x.q.log ∧ ∀ i, Tb i → ∀ e ∈ x.q.log, ¬ e.wrote b i) → ∀ z, (S i).heap.get b = some z → ∃ y, (S j).heap.get b = some y ∧ AgB Tb z y
  | 0, i, hi, _, hq, z, hz => by
    have : i = 0 := by omega
    subst this
    exact ⟨z, hz, AgB.refl _ _⟩
  | j + 1, i, hi, hj, hq, z, hz => by
    by_cases h : i = j + 1
    · subst h; exact ⟨z, hz, AgB.refl _ _⟩
    · obtain ⟨y, hy, hag⟩ := tx_path j i (by omega) (by omega) (fun l x h1 h2 hx => hq l x h1 (by omega) hx) z hz
      obtain ⟨x, o, hx, _⟩ := tx_get hC hY X hw0 (show j < ops.length by omega)
      have hwf := tx_wf hC hY X hw0 j (by omega)
      obtain ⟨m, h1, h2, h3, h4, h5, h6⟩ := tx_step hC hY X hw0 hx hwf
      obtain ⟨q1, q2⟩ := hq j x (by omega) (by omega) hx
      have hk := m.keep (by intro b hb; rw [h1]; exact hwf b (by omega)) b y (by rw [h1]; exact hy) q1
      obtain ⟨y', hy', hag'⟩ := Keep.ag hk q2
      exact ⟨y', by rw [h4]; exact hy', hag.trans hag'⟩
end
end Go.Proofs.YtjikgmbhnknojaaGreatDoor.Rk
