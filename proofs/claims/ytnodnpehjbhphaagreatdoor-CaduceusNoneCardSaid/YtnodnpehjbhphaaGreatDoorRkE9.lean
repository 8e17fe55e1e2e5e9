/- What the reckoner's other operations say of the model's. Plain lemmas. -/
import Derived.Test.YtnodnpehjbhphaaGreatDoorRkE8
import Derived.MapKept
import Derived.Laws.Tables
namespace Go.Proofs.YtnodnpehjbhphaaGreatDoor.Rk
open Go
set_option linter.unusedVariables false
section
variable {P : Program} {ρ : Env} {T : Nat → Nat → Prop} {s s' : St} {w w' : World}
theorem cutL_vr {cs r : List AV} {off n : Nat} {c : Array Value} (h : cutL cs off n = some r) (hc : VRL ρ cs c.toList) : VRL ρ r (c.extract off (off + n)).toList := by
  obtain ⟨h1, h2⟩ := cutL_ok h
  subst h1
  have : (c.extract off (off + n)).toList = (c.toList.drop off).take n := by
    rw [Array.toList_extract, List.extract_eq_take_drop]
    congr 1
    omega
  rw [this]
  exact (hc.drop off).take n
theorem part_ok {t : TypeId} {cs : List AV} {c : Array Value} {off : Nat} {v : AV} (h : partA P t cs off = some v) (hc : VRL ρ cs c.toList) : ∃ v', (part t c off).run P w = .ok v' w ∧ VR ρ v v' := by
  unfold partA at h
  split at h
  · rename_i n ha hs
    split at h
    · rename_i l hl
      cases h
      exact ⟨.agg (c.extract off (off + n)), by simp [part, run_agg ha, run_szOf hs], .agg _ _ (cutL_vr hl hc)⟩
    · cases h
  · rename_i ha
    obtain ⟨v', h1, h2⟩ := hc.aget h
    exact ⟨v', by simp [part, run_agg ha, h1], h2⟩
  · cases h
theorem opBuild_ok {t : TypeId} {ps : List (Nat × AV)} {ps' : Array (Nat × Value)} {v : AV} (h : opBuild P t ps = some v) (hx : PR ρ ps ps'.toList) : ∃ v', (Instr.build t ps').run P w = .ok v' w ∧ VR ρ v v' := by
  unfold opBuild at h
  have key : ∀ z, zeroC P t = some z → ∃ it zv, P.info? t = some it ∧ it.zero = some zv ∧ VRL ρ z zv.cells.toList := by
    intro z hz
    cases hit : P.info? t with
    | none => unfold zeroC zeroA at hz; rw [hit] at hz; simp at hz
    | some it =>
      obtain ⟨zv, h1, h2⟩ := zeroC_info (ρ := ρ) hz hit
      exact ⟨it, zv, rfl, h1, h2⟩
  split at h
  · rename_i z fs hz hu
    obtain ⟨it, zv, h1, h2, h3⟩ := key z hz
    split at h
    · rename_i places hpl
      split at h
      · rename_i cs hf
        cases h
        obtain ⟨r', h4, h5⟩ := fill_ok hf hx h3
        refine ⟨.agg r', run_build w t ps' r' ?_, .agg _ _ h5⟩
        unfold Program.built
        simp only [h1, hu, h2, hpl]
        simpa using h4
      · cases h
    · cases h
  · rename_i z len e hz hu
    obtain ⟨it, zv, h1, h2, h3⟩ := key z hz
    split at h
    · rename_i i hi
      split at h
      · rename_i cs hf
        cases h
        obtain ⟨r', h4, h5⟩ := fill_ok hf hx h3
        refine ⟨.agg r', run_build w t ps' r' ?_, .agg _ _ h5⟩
        unfold Program.built
        simp only [h1, hu, h2, hi]
        exact h4
      · cases h
    · cases h
  · cases h
theorem str_size (l : List Nat) : (⟨(l.map UInt8.ofNat).toArray⟩ : ByteArray).size = l.length := by simp [ByteArray.size]
/-- A bound that may be left out. -/
inductive VRO (ρ : Env) : Option AV → Option Value → Prop
  | none : VRO ρ none none
  | some (a : AV) (v : Value) (h : VR ρ a v) : VRO ρ (some a) (some v)
theorem bound_ok {x : AV} {x' : Value} {k n y : Nat} {c : BoundsCode} (h : bnd (some x) n = some k) (hx : VR ρ x x') (hle : k ≤ y) : (Instr.sliceBound x' y c).run P w = .ok k w := by
  unfold bnd at h
  split at h
  · rename_i he; cases he
  · rename_i kk n he
    cases he
    cases h
    cases hx
    simp [Instr.sliceBound, asIntOf]
    omega
  · cases h
/-- The bounds of a slice. -/
theorem bounds_ok {lo hi : Option AV} {lo' hi' : Option Value} {b : Bool} {len cap k h : Nat} (hk : bnd lo 0 = some k) (hh : bnd hi len = some h) (hl : VRO ρ lo lo') (hr : VRO ρ hi hi') (h1 : k ≤ h) (h2 : h ≤ cap) : (Instr.sliceBounds b len cap lo' hi' none).run P w = .ok (k, h, cap) w := by
  unfold Instr.sliceBounds
  simp only [Sem.run_bind, Sem.run_pure, Result.andThen_ok]
  cases hr with
  | none =>
    cases hh
    simp only [Sem.run_bind, Sem.run_pure, Result.andThen_ok]
    cases hl with
    | none => cases hk; simp
    | some a v ha => simp [bound_ok (P := P) (w := w) hk ha h1]
  | some a v ha =>
    simp only [Sem.run_bind, bound_ok (P := P) (w := w) hh ha h2, Result.andThen_ok]
    cases hl with
    | none => cases hk; simp
    | some a v ha => simp [bound_ok (P := P) (w := w) hk ha h1]
theorem bnds_ok {lo hi : Option AV} {lo' hi' : Option Value} {b : Bool} {len c cap k h : Nat} (hb : bnds lo hi len c = some (k, h)) (hc : c ≤ cap) (hl : VRO ρ lo lo') (hr : VRO ρ hi hi') : (Instr.sliceBounds b len cap lo' hi' none).run P w = .ok (k, h, cap) w ∧ k ≤ h ∧ h ≤ c := by
  unfold bnds at hb
  split at hb
  · rename_i h' he
    split at hb
    · rename_i k' hk
      split at hb
      · rename_i hh
        cases hb
        exact ⟨bounds_ok hk he hl hr hh.1 (by omega), hh⟩
      · cases hb
    · cases hb
  · cases hb
theorem addr_if {a : Addr} {k m n : Nat} : (if m = k then a else a.add (k * n)) = (if m = k then a else a.add (k * n)) := rfl
theorem opSlice_ok {t : TypeId} {x : AV} {x' : Value} {lo hi mx : Option AV} {lo' hi' mx' : Option Value} {v : AV} (h : opSlice P t x lo hi mx = some v) (hx : VR ρ x x') (hl : VRO ρ lo lo') (hr : VRO ρ hi hi') (hm : VRO ρ mx mx') :
    ∃ v', (Instr.sliceAt t x' lo' hi' mx').run P w = .ok v' w ∧ VR ρ v v' := by
  unfold opSlice at h
  split at h
  · cases h
  · cases hm
    split at h
    · rename_i l hu
      split at h
      · rename_i k hh hb
        cases h
        cases hx with
        | str _ hlt =>
        obtain ⟨hb1, hb2, hb3⟩ := bnds_ok (P := P) (w := w) (b := false) hb (Nat.le_refl _) hl hr
        refine ⟨.string ((⟨(l.map UInt8.ofNat).toArray⟩ : ByteArray).extract k hh), ?_, ?_⟩
        · simp only [Instr.sliceAt, Instr.slice, Sem.run_bind, run_underlying hu, Result.andThen_ok, Option.isSome_none, Bool.false_eq_true, if_false, Sem.run_ite, Sem.run_pure, str_size, hb1]
        · have e : (⟨(l.map UInt8.ofNat).toArray⟩ : ByteArray).extract k hh = ⟨(((l.take hh).drop k).map UInt8.ofNat).toArray⟩ := by
            apply ByteArray.ext
            rw [ByteArray.data_extract]
            apply Array.ext'
            simp only [Array.toList_extract, List.extract_eq_take_drop, List.map_drop, List.map_take]
            rw [List.drop_take]
          rw [e]
          exact .str _ (fun z hz => hlt z (List.mem_of_mem_take (List.mem_of_mem_drop hz)))
      · cases h
    · rename_i e hu
      split at h
      · rename_i kh n hb hs
        cases h
        cases hx
        obtain ⟨k, hh⟩ := kh
        obtain ⟨hb1, hb2, hb3⟩ := bnds_ok (P := P) (w := w) (b := true) hb (Nat.le_refl _) hl hr
        have hk0 : k = 0 := by omega
        have hh0 : hh = 0 := by omega
        subst hk0 hh0
        refine ⟨.slice none 0 0, ?_, .nils⟩
        simp [Instr.sliceAt, Instr.slice, run_underlying hu, hb1, run_szOf hs]
      · cases h
    · rename_i b off len mc es e hu
      split at h
      · rename_i k hh n hb hs
        split at h
        · rename_i hn
          cases h
          subst hn
          cases hx with
          | slice b off len mc es r ad cap hbr k1 k2 k3 =>
          obtain ⟨hb1, hb2, hb3⟩ := bnds_ok (P := P) (w := w) (b := true) hb k2 hl hr
          refine ⟨.slice (some (if cap = k then ad else ad.add (k * n))) (hh - k) (cap - k), ?_, ?_⟩
          · by_cases hck : cap = k
            · subst hck
              simp [Instr.sliceAt, Instr.slice, run_underlying hu, hb1, run_szOf hs]
            · simp [Instr.sliceAt, Instr.slice, run_underlying hu, hb1, run_szOf hs, hck]
          · by_cases hck : cap = k
            · rw [if_pos hck]
              exact .slice b _ _ _ n r ad _ hbr (by omega) (by omega) (.inl (by omega))
            · rw [if_neg hck]
              obtain ⟨had, hfit⟩ := k3.resolve_left (by omega)
              refine .slice b _ _ _ n r _ _ hbr (by omega) (by omega) (.inr ⟨by rw [had, RB.at_add], ?_⟩)
              have : k * n + (cap - k) * n = cap * n := by rw [← Nat.add_mul]; congr 1; omega
              omega
        · cases h
      · cases h
    · cases h
theorem opSliceArr_mono {t : TypeId} {b off : Nat} {lo hi mx : Option AV} {v : AV} (h : opSliceArr P t b off lo hi mx s = some (v, s')) : Mono s s' := by
  unfold opSliceArr at h
  split at h
  · cases h
  · split at h
    · split at h
      · rename_i hbg
        split at h
        · cases h; exact Mono.note _ _ ⟨_, hbg, trivial⟩
        · cases h
      · cases h
    · cases h
theorem opSliceArr_ok {t : TypeId} {b off : Nat} {x' : Value} {lo hi mx : Option AV} {lo' hi' mx' : Option Value} {v : AV} (h : opSliceArr P t b off lo hi mx s = some (v, s')) (hp : Pre ρ T s s' w) (hx : VR ρ (.ptr b off) x') (hl : VRO ρ lo lo') (hr : VRO ρ hi hi') (hm : VRO ρ mx mx') :
    OK1 P (Instr.sliceAt t x' lo' hi' mx') ρ T s w v s' := by
  unfold opSliceArr at h
  split at h
  · cases h
  · cases hm
    split at h
    · rename_i len e hu
      split at h
      · rename_i k hh n t0 cs hb hs hbg
        split at h
        · rename_i hfit
          cases h
          cases hx with
          | ptr b off r hbr =>
          obtain ⟨hb1, hb2, hb3⟩ := bnds_ok (P := P) (w := w) (b := false) hb (Nat.le_refl _) hl hr
          have hT : T b off := hp.cov (.rd b off 1) (List.mem_cons_self ..) (lt_n hp.wf hbg) b off ⟨rfl, Nat.le_refl _, Nat.lt_succ_self _⟩
          obtain ⟨r0, c, fr, q1, q2, q3, q4, q5, q6⟩ := hp.good.sat b _ hbg ⟨off, hT⟩
          replace q4 := q4.1
          have : r0 = r := Option.some.inj (q1.symm.trans hbr)
          subst this
          refine ⟨ρ, w, .slice (some (if len = k then r0.at off else (r0.at off).add (k * n))) (hh - k) (len - k), ?_, Post.same hp.good rfl rfl (Still.refl w), ?_⟩
          · by_cases hck : len = k
            · subst hck
              simp [Instr.sliceAt, Instr.sureAddr, run_underlying hu, hb1, run_szOf hs]
            · simp [Instr.sliceAt, Instr.sureAddr, run_underlying hu, hb1, run_szOf hs, hck]
          · by_cases hck : len = k
            · rw [if_pos hck]
              exact .slice b _ _ _ n r0 _ _ hbr (by omega) (by omega) (.inl (by omega))
            · rw [if_neg hck]
              refine .slice b _ _ _ n r0 _ _ hbr (by omega) (by omega) (.inr ⟨by rw [RB.at_add], ?_⟩)
              have : k * n + (len - k) * n = len * n := by rw [← Nat.add_mul]; congr 1; omega
              omega
        · cases h
      · cases h
    · cases h
theorem opFieldAddr_ok {t : TypeId} {x v : AV} {x' : Value} {f : Nat} (h : opFieldAddr P t x f = some v) (hx : VR ρ x x') : ∃ v', (Instr.fieldAt t x' f).run P w = .ok v' w ∧ VR ρ v v' := by
  unfold opFieldAddr at h
  split at h
  · rename_i fs b off hu
    split at h
    · rename_i fd hfd
      split at h
      · rename_i n hs
        cases h
        cases hx with
        | ptr b off r hbr =>
        refine ⟨_, ?_, .ptr b (off + fd.offset) r hbr⟩
        simp [Instr.fieldAt, run_underlying hu, hfd, Instr.sureAddr, fieldPlace, run_szOf hs, RB.at_add]
      · cases h
    · cases h
  · cases h
theorem opField_ok {t : TypeId} {x v : AV} {x' : Value} {f : Nat} (h : opField P t x f = some v) (hx : VR ρ x x') : ∃ v', (Instr.field t x' f).run P w = .ok v' w ∧ VR ρ v v' := by
  unfold opField at h
  split at h
  · rename_i fs cs hu
    split at h
    · rename_i fd hfd
      cases hx with
      | agg _ cs' hc =>
      obtain ⟨v', h1, h2⟩ := part_ok (P := P) (w := w) h hc
      exact ⟨v', by simp [Instr.field, run_underlying hu, hfd, asAgg, h1], h2⟩
    · cases h
  · cases h
theorem opIndexAddr_ok {t : TypeId} {x i v : AV} {x' i' : Value} (h : opIndexAddr P t x i = some v) (hx : VR ρ x x') (hi : VR ρ i i') : ∃ v', (Instr.indexAt t x' i').run P w = .ok v' w ∧ VR ρ v v' := by
  unfold opIndexAddr at h
  split at h
  · rename_i len e b off k n hu
    split at h
    · rename_i m hs
      split at h
      · rename_i hlt
        cases h
        cases hi
        cases hx with
        | ptr b off r hbr =>
        refine ⟨_, ?_, .ptr b (off + n * m) r hbr⟩
        have hc : (0 : Int) ≤ Int.ofNat n ∧ Int.ofNat n < (len : Int) := ⟨Int.natCast_nonneg n, by show (n : Int) < len; omega⟩
        simp only [Instr.indexAt, asIntOf, Sem.run_bind, Sem.run_pure, Result.andThen_ok, run_underlying hu, Instr.sureAddr, Sem.run_ite, if_pos hc, run_szOf hs, RB.at_add]
        rfl
      · cases h
    · cases h
  · rename_i e b off len mc es k n hu
    split at h
    · rename_i m hs
      split at h
      · rename_i hlt
        cases h
        cases hi
        cases hx with
        | slice b off len mc es r ad cap hbr k1 k2 k3 =>
        obtain ⟨had, hfit⟩ := k3.resolve_left (by omega)
        refine ⟨_, ?_, .ptr b (off + n * m) r hbr⟩
        have hc : (0 : Int) ≤ Int.ofNat n ∧ Int.ofNat n < (len : Int) := ⟨Int.natCast_nonneg n, by show (n : Int) < len; omega⟩
        simp only [Instr.indexAt, asIntOf, Sem.run_bind, Sem.run_pure, Result.andThen_ok, run_underlying hu, Sem.run_ite, if_pos hc, run_szOf hs, had, RB.at_add]
        rfl
      · cases h
    · cases h
  · cases h
theorem ba_get (ba : ByteArray) (n : Nat) : ba[n]? = ba.data[n]? := by
  by_cases h : n < ba.size
  · rw [getElem?_pos ba n h, Array.getElem?_eq_getElem (show n < ba.data.size from h)]; rfl
  · rw [getElem?_neg ba n h, Array.getElem?_eq_none (Nat.not_lt.1 h)]
theorem opIndex_ok {t : TypeId} {x i v : AV} {x' i' : Value} (h : opIndex P t x i = some v) (hx : VR ρ x x') (hi : VR ρ i i') : ∃ v', (Instr.index t x' i').run P w = .ok v' w ∧ VR ρ v v' := by
  unfold opIndex at h
  split at h
  · rename_i l k n hu
    split at h
    · rename_i m hm
      cases h
      cases hi
      cases hx with
      | str _ hlt =>
      refine ⟨_, ?_, .int _ _⟩
      have hc : (0 : Int) ≤ Int.ofNat n := Int.natCast_nonneg n
      have hg : (⟨(l.map UInt8.ofNat).toArray⟩ : ByteArray)[n]? = some (UInt8.ofNat m) := by
        rw [ba_get]
        simp [hm]
      have hmm := hlt m (List.mem_of_getElem? hm)
      have e : (UInt8.ofNat m).toNat = m := by simp; omega
      simp only [Instr.index, asIntOf, Sem.run_bind, Sem.run_pure, Result.andThen_ok, run_underlying hu, if_pos hc]
      show (match (⟨(l.map UInt8.ofNat).toArray⟩ : ByteArray)[n]? with
        | some b => (Pure.pure (.int .u8 b.toNat) : Sem Value)
        | none => boundsPanic k n _ .index).run P w = _
      rw [hg]
      simp only [Sem.run_pure, e]
      rfl
    · cases h
  · rename_i len e cs k n hu
    split at h
    · rename_i m hs
      split at h
      · rename_i hlt
        cases hi
        cases hx with
        | agg _ cs' hc =>
        obtain ⟨v', h1, h2⟩ := part_ok (P := P) (w := w) h hc
        refine ⟨v', ?_, h2⟩
        have hc : (0 : Int) ≤ Int.ofNat n ∧ Int.ofNat n < (len : Int) := ⟨Int.natCast_nonneg n, by show (n : Int) < len; omega⟩
        simp only [Instr.index, asIntOf, Sem.run_bind, Sem.run_pure, Result.andThen_ok, run_underlying hu, Sem.run_ite, if_pos hc, run_szOf hs]
        exact h1
      · cases h
    · cases h
  · cases h
theorem opAssert_ok {x v : AV} {x' : Value} {tx t : TypeId} {ok : Bool} (h : opAssert P x t ok = some v) (hx : VR ρ x x') : ∃ v', (Instr.typeAssert x' tx t ok).run P w = .ok v' w ∧ VR ρ v v' := by
  unfold opAssert at h
  split at h
  · cases h
  · rename_i d hd hu
    split at h
    · rename_i hok
      split at h
      · rename_i z hz
        cases h
        cases hx
        subst hok
        obtain ⟨zv, h1, _, h3⟩ := run_zero (ρ := ρ) hz w
        refine ⟨.tuple #[zv, .bool false], ?_, .tuple _ _ (.cons _ _ _ _ h3 (.cons _ _ _ _ (.bool _) .nil))⟩
        cases d <;> first | (simp [Instr.typeAssert, run_underlying hu, h1]; done) | exact absurd rfl (hd _)
      · cases h
    · cases h
  · rename_i d u a hd hu
    cases hx with
    | iface _ _ a' ha =>
    split at h
    · rename_i hut
      subst hut
      cases h
      refine ⟨if ok then .tuple #[a', .bool true] else a', ?_, ?_⟩
      · cases d <;> first | (simp [Instr.typeAssert, run_underlying hu]; done) | exact absurd rfl (hd _)
      · cases ok
        · exact ha
        · exact .tuple _ _ (.cons _ _ _ _ ha (.cons _ _ _ _ (.bool _) .nil))
    · rename_i hut
      split at h
      · rename_i hok
        split at h
        · rename_i z hz
          cases h
          subst hok
          obtain ⟨zv, h1, _, h3⟩ := run_zero (ρ := ρ) hz w
          refine ⟨.tuple #[zv, .bool false], ?_, .tuple _ _ (.cons _ _ _ _ h3 (.cons _ _ _ _ (.bool _) .nil))⟩
          cases d <;> first | (simp [Instr.typeAssert, run_underlying hu, h1, hut]; done) | exact absurd rfl (hd _)
        · cases h
      · cases h
  · cases h
end
end Go.Proofs.YtnodnpehjbhphaaGreatDoor.Rk
