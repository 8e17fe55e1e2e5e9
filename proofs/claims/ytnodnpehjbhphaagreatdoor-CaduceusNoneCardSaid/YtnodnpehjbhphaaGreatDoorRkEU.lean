/- unsafe.SliceData and unsafe.String. Plain lemmas. -/
import Derived.Test.YtnodnpehjbhphaaGreatDoorRkE10
import Derived.Lib.UnsafeStr
namespace Go.Proofs.YtnodnpehjbhphaaGreatDoor.Rk
open Go
set_option linter.unusedVariables false
section
variable {P : Program} {ρ : Env} {T : Nat → Nat → Prop} {s s' : St} {w w' : World}
theorem sliceDataA_ok {ts : Array TypeId} {ty : TypeId} {x v : AV} {x' : Value} (h : sliceDataA [x] = some v) (hp : Pre ρ T s s w) (hx : VR ρ x x') : OK1 P (Builtin.unsafeSliceData_ ts ty #[x']) ρ T s w v s := by
  unfold sliceDataA at h
  split at h
  · rename_i he
    cases he
    cases h
    cases hx
    exact OK1.pure hp rfl .nilp
  · rename_i b off len mc es he
    cases he
    split at h
    · rename_i hl
      cases h
      cases hx with
      | slice _ _ _ _ _ r ad cap hb h1 h2 h3 =>
      have hc : cap ≠ 0 := by omega
      obtain ⟨had, _⟩ := h3.resolve_left hc
      subst had
      exact OK1.pure hp (Lib.run_unsafeSliceData_row w ts ty _ _ _ hc) (.ptr b off r hb)
    · cases h
  · cases h
/-- n bytes of a row, wherever. -/
theorem liesAt_bytes' {e : TypeId} (hc : P.cellsOf e = 1) (count off n : Nat) (hn : off + n ≤ count) : liesAt P P.depth e count off e n = true := by
  have hd : P.depth = (2 * (P.types.size + Made.depth) + 1) + 1 := rfl
  rw [hd]
  simp only [liesAt, Bool.or_eq_true]
  left
  rw [hd]
  simp [rowAt, hc, hn, sameLayout, Nat.mod_one]
theorem loadBytes_ok : ∀ (xs : List Int) (a : Addr) (acc : ByteArray), (∀ (j : Nat) x, xs[j]? = some x → w.cell? (a.add j) = some (.int .u8 x)) →
    (loadBytes a acc xs.length).run P w = .ok ⟨acc.data ++ (xs.map fun n => UInt8.ofNat n.toNat).toArray⟩ w
  | [], a, acc, _ => by simp [loadBytes]
  | x :: l, a, acc, h => by
    have h0 : w.cell? a = some (.int .u8 x) := by
      have := h 0 x rfl
      simpa [Addr.add] using this
    have ih := loadBytes_ok l (a.add 1) (acc.push x.toNat.toUInt8) (fun j y hy => by
      have := h (j + 1) y (by simpa using hy)
      have e : (a.add 1).add j = a.add (j + 1) := by
        unfold Addr.add
        by_cases hj : j = 0
        · subst hj; simp
        · simp [hj]; omega
      rw [e]; exact this)
    simp only [List.length_cons, loadBytes, Sem.run_bind, run_load, h0, Result.andThen]
    rw [ih]
    congr 1
    apply ByteArray.ext
    simp [ByteArray.push]
theorem stringA_mono {t : TypeId} {args : List AV} {v : AV} (h : stringA P t args s = some (v, s')) : Mono s s' := by
  unfold stringA at h
  split at h
  · split at h
    · cases h; exact Mono.refl _
    · cases h
  · split at h
    · rename_i t0 cs0 hu hb
      split at h
      · split at h
        · rename_i cs s1 hr
          split at h
          · cases h
            obtain ⟨e1, m1⟩ := rd_mono hr
            refine m1.trans (Mono.put_note _ _ _ ⟨.cells t0 cs0, ?_, trivial⟩)
            rw [e1]
            exact hb
          · cases h
        · cases h
      · cases h
    · cases h
  · cases h
theorem freeze_alt {w : World} {B : Nat} {c : Array Value} {t : TypeId} {fr : Nat × Nat} (h : w.heap[B]? = some (.cells c t fr)) (o n : Nat) (hn : n ≠ 0) : ∃ fr', Alt w (w.freeze ⟨B, o, none⟩ n) B (.cells c t fr') := by
  unfold World.freeze
  rw [if_neg hn]
  obtain ⟨lo, hi⟩ := fr
  refine ⟨if lo == hi then (o, o + n) else (min lo o, max hi (o + n)), rfl, rfl, rfl, by simp, ?_, fun B' hB => ?_⟩
  · simp [Array.getElem?_modify, h]
  · simp [Array.getElem?_modify, Ne.symm hB]
theorem stringA_ok {pt it ty : TypeId} {x y v : AV} {x' y' : Value} (h : stringA P pt [x, y] s = some (v, s')) (hp : Pre ρ T s s' w) (hx : VR ρ x x') (hy : VR ρ y y') : OK1 P (Builtin.unsafeString_ #[pt, it] ty #[x', y']) ρ T s w v s' := by
  unfold stringA at h
  split at h
  · rename_i n he
    cases he
    split at h
    · rename_i hn
      cases h
      subst hn
      cases hx
      cases hy
      exact OK1.pure hp (Lib.run_unsafeString_none (P := P) w pt it ty none) (VR.string ByteArray.empty)
    · cases h
  · rename_i b off n he
    cases he
    split at h
    · rename_i e t0 cs0 hu hb
      split at h
      · rename_i hc
        obtain ⟨c1, c2, c3, c4⟩ := hc
        subst c1
        split at h
        · rename_i cs s1 hr
          split at h
          · rename_i l hl
            cases h
            cases hx with
            | ptr _ _ r hbr =>
            cases hy
            obtain ⟨e1, m1⟩ := rd_mono hr
            have hb1 : s1.heap.get b = some (.cells t0 cs0) := by rw [e1]; exact hb
            have m2 : Mono s1 ((s1.put b .dead).note (.all b)) := Mono.put_note _ _ _ ⟨_, hb1, trivial⟩
            obtain ⟨vs, h1, h2, h3⟩ := rd_ok hr (hp.first m2) hbr
            obtain ⟨xs, x1, x2, x3, x4⟩ := byteAt_ok hl h2
            have hT : ∃ i, T b i := ⟨0, hp.cov (.all b) (List.mem_cons_self ..) (lt_n hp.wf hb) b 0 rfl⟩
            obtain ⟨r0, c, fr, q1, q2, q3, q4, q5, q6⟩ := hp.good.sat b _ hb hT
            have : r0 = r := Option.some.inj (q1.symm.trans hbr)
            subst this
            have hxl : xs.length = n := by rw [← h1, x2, List.length_map]
            have hcsl : off + n ≤ cs0.length := by
              have hr' := hr
              unfold rdCells at hr'
              rw [hb] at hr'
              simp only at hr'
              split at hr'
              · rename_i l1 hcut
                obtain ⟨_, z2⟩ := cutL_ok hcut
                exact z2.resolve_left (by omega)
              · cases hr'
            have hpost1 : Post ρ T s w ρ s1 w := Post.same hp.good (by rw [e1]; rfl) (by rw [e1]; rfl) (Still.refl w)
            have hp1 := hp.next m1 m2 hpost1
            obtain ⟨fr', halt⟩ := freeze_alt q2 (r0.base + off) n (by omega)
            have hpost2 : Post ρ (Tn T s.n s1.n) s1 w ρ ((s1.put b .dead).note (.all b)) (w.freeze ⟨r0.blk, r0.base + off, none⟩ n) :=
              Post.alt (x' := .dead) hp1.good hb1 trivial (let ⟨i, hi⟩ := hT; ⟨i, .inl hi⟩) hbr halt trivial
            refine ⟨ρ, _, .string ⟨(l.map UInt8.ofNat).toArray⟩, ?_, hpost1.trans m1 m2 hpost2, .str l x3⟩
            have hlb := loadBytes_ok (P := P) (w := w) xs (r0.at off) .empty (fun j x hj => h3 j _ (by rw [x2, List.getElem?_map, hj]; rfl))
            have hsh : w.shape? r0.blk = some (t0 / 2, c.size) := by simp [World.shape?, q2]
            have hlies := liesAt_bytes' (P := P) c2 (c.size / P.cellsOf (t0 / 2)) (r0.base + off) n (by
              rw [c2, Nat.div_one]
              have := q4.1
              omega)
            have h63 : ¬ (9223372036854775807 : Int) < (n : Int) := by omega
            have hn0 : ¬ n = 0 := by omega
            have hneg : ¬ (n : Int) < 0 := by omega
            have hmax : IntKind.i64.max = 9223372036854775807 := rfl
            have hdef : Builtin.unsafeString_ #[pt, it] ty #[.pointer (some (r0.at off)), .int .i64 (n : Int)] =
                (do
                  let n ← asInt (.int .i64 (n : Int))
                  if n < 0 then runtimePanic (.error "unsafe.String: len out of range")
                  if n > IntKind.i64.max then unsupported (.unsafePointer "String: a length above the largest int")
                  if n = 0 then pure (.string .empty)
                  else if ← variablesAt (r0.at off) (← elemOf pt) n.toNat then do
                    let s ← loadBytes (r0.at off) .empty n.toNat
                    freeze (r0.at off) n.toNat
                    pure (.string s)
                  else unsupported (.unsafePointer "String: not so many bytes at ptr")) := rfl
            show (Builtin.unsafeString_ #[pt, it] ty #[.pointer (some (r0.at off)), .int .i64 (n : Int)]).run P w = _
            rw [hdef]
            rw [hxl] at hlb
            have hat : (r0.at off).off = r0.base + off := rfl
            have hat2 : (r0.at off).block = r0.blk := rfl
            rw [x4] at hlb
            simp [asInt, asIntOf, hmax, h63, hneg, hn0, variablesAt, hsh, elemOf, run_underlying hu, hlies, hlb, hat, hat2]
            rfl
          · cases h
        · cases h
      · cases h
    · cases h
  · cases h
end
end Go.Proofs.YtnodnpehjbhphaaGreatDoor.Rk
