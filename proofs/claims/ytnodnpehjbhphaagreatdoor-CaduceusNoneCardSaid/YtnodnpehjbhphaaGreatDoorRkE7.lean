/- What the reckoner's conversions, makes and appends say of the model's. Plain lemmas. -/
import Derived.Test.YtnodnpehjbhphaaGreatDoorRkE6
import Derived.Laws.MakeOwn
import Derived.Laws.BytesArg
import Derived.Laws.Append
namespace Go.Proofs.YtnodnpehjbhphaaGreatDoor.Rk
open Go
set_option linter.unusedVariables false
section
variable {P : Program} {ρ : Env} {T : Nat → Nat → Prop} {s s' : St} {w w' : World}
theorem zeroC_info {t : TypeId} {z : List AV} {i : TypeInfo} (h : zeroC P t = some z) (hi : P.info? t = some i) : ∃ v, i.zero = some v ∧ VRL ρ z v.cells.toList := by
  unfold zeroC zeroA at h
  rw [hi] at h
  cases hz : i.zero with
  | none => simp [hz] at h
  | some v =>
    simp [hz] at h
    exact ⟨v, rfl, cells_ok (ofV_ok 3 v) h⟩
theorem opMakeSlice_mono {t : TypeId} {l c v : AV} (h : opMakeSlice P t l c s = some (v, s')) : Mono s s' := by
  unfold opMakeSlice at h
  split at h
  · split at h
    · split at h
      · cases h; exact Mono.new _ _
      · cases h
    · cases h
  · cases h
theorem opMakeSlice_ok {t : TypeId} {l c v : AV} {l' c' : Value} (h : opMakeSlice P t l c s = some (v, s')) (hp : Pre ρ T s s' w) (hl : VR ρ l l') (hc : VR ρ c c') : OK1 P (Instr.makeSlice t l' c') ρ T s w v s' := by
  unfold opMakeSlice at h
  split at h
  · rename_i e kl n kc m hu
    split at h
    · rename_i i z hi hz
      split at h
      · rename_i hc0
        obtain ⟨h1, h2, h3, h4, h5⟩ := hc0
        cases h
        cases hl
        cases hc
        obtain ⟨zv, hzi, hzv⟩ := zeroC_info (ρ := ρ) hz hi
        have hzs := hzv.size
        have hb : (i.bytes : Int) * ((m : Nat) : Int) ≤ 281474976710656 := by
          have h6 : i.bytes * m ≤ 100000 * 1000000 := Nat.mul_le_mul h3 (by omega)
          have : ((i.bytes * m : Nat) : Int) ≤ 281474976710656 := by omega
          rwa [Int.natCast_mul] at this
        have hr := run_make (P := P) w t e i zv hu hi hzi kl kc n m (by omega) (by omega) hb (by omega)
        have hrep := repL_ok hzv (by omega) n m h1 hzs
        simp only [Int.toNat_natCast] at hr
        refine made_slice hp (c := madeCells zv.cells (m * i.size)) hr (by rw [size_madeCells, repL_len, h5]; exact Nat.mul_le_mul_right _ h1) (fun j a ha => ?_) h1 (Nat.le_refl _) (by rw [size_madeCells]; exact Nat.le_refl _)
        rw [h5] at hrep
        exact hrep j a ha
      · cases h
    · cases h
  · cases h
theorem byteAt_ok : ∀ {cs : List AV} {l : List Nat} {vs : List Value}, byteAt cs = some l → VRL ρ cs vs → ∃ xs : List Int, xs.length = cs.length ∧ vs = xs.map (Value.int .u8) ∧ (∀ x ∈ l, x < 256) ∧ xs.map (fun n => UInt8.ofNat n.toNat) = l.map UInt8.ofNat
  | [], l, _, h, .nil => by simp [byteAt] at h; subst h; exact ⟨[], rfl, rfl, by simp, rfl⟩
  | a :: cs, l, _, h, .cons _ v _ vs hv ht => by
    unfold byteAt at h
    split at h
    · rename_i he; cases he
    · rename_i n l' he
      cases he
      split at h
      · rename_i r hr
        cases h
        cases hv
        obtain ⟨xs, h1, h2, h3, h4⟩ := byteAt_ok hr ht
        refine ⟨(n : Int) :: xs, by simp [h1], by simp [h2], fun x hx => ?_, ?_⟩
        · rcases List.mem_cons.1 hx with rfl | hx
          · omega
          · exact h3 x hx
        · simp only [List.map_cons, h4]
          congr 1
          apply UInt8.toNat_inj.1
          simp
      · cases h
    · cases h
theorem conv_mono {src dst : TypeId} {x v : AV} (h : conv P src dst x s = some (v, s')) : Mono s s' := by
  unfold conv at h
  split at h
  · cases h; exact Mono.refl _
  · cases h; exact Mono.refl _
  · split at h
    · split at h
      · cases h; exact Mono.refl _
      · cases h
    · cases h
  · split at h
    · split at h
      · split at h
        · rename_i hr
          split at h
          · cases h; exact (rd_mono hr).2
          · cases h
        · cases h
      · cases h
    · cases h
  · split at h
    · split at h
      · cases h; exact Mono.new _ _
      · cases h
    · cases h
  · cases h
theorem bytes_get (l : List Nat) (hl : ∀ x ∈ l, x < 256) : VRL ρ (bytesA l) ((⟨(l.map UInt8.ofNat).toArray⟩ : ByteArray).data.map fun b => Value.int .u8 b.toNat).toList := by
  simp only [Array.toList_map, List.map_map]
  refine VRL.map _ _ _ (fun x hx => ?_)
  have := hl x hx
  have e : (UInt8.ofNat x).toNat = x := by simp; omega
  show VR ρ (.int .u8 (Int.ofNat x)) (.int .u8 ((UInt8.ofNat x).toNat : Int))
  rw [e]
  exact .int _ _
theorem conv_ok {src dst : TypeId} {x v : AV} {x' : Value} (h : conv P src dst x s = some (v, s')) (hsrc : ∃ d, P.underlying src = some d) (hp : Pre ρ T s s' w) (hx : VR ρ x x') : OK1 P (convert src dst x') ρ T s w v s' := by
  obtain ⟨d0, hd0⟩ := hsrc
  unfold conv at h
  split at h
  · rename_i k k' n hu
    cases h
    cases hx
    exact OK1.pure hp (by simp [convert, run_underlying hd0, run_underlying hu, Conv.intToInt]) (.int _ _)
  · rename_i l hu
    cases h
    cases hx with
    | str _ hl => exact OK1.pure hp (by simp [convert, run_underlying hd0, run_underlying hu]) (.str l hl)
  · rename_i hu
    split at h
    · rename_i e hs
      split at h
      · rename_i he
        cases h
        cases hx
        exact OK1.pure hp (run_convert_bytes_nil (P := P) w src e hs he 0 0 dst hu) (VR.string ByteArray.empty)
      · cases h
    · cases h
  · rename_i b off len mc es hu
    split at h
    · rename_i e hs
      split at h
      · rename_i he
        split at h
        · rename_i cs s1 hr
          split at h
          · rename_i l hl
            cases h
            cases hx with
            | slice _ _ _ _ _ r ad cap hb h1 h2 h3 =>
              obtain ⟨vs, g1, g2, g3⟩ := rd_ok hr hp hb
              obtain ⟨e1, _⟩ := rd_mono hr
              obtain ⟨xs, k1, k2, k3, k4⟩ := byteAt_ok hl g2
              have hlen := g2.length
              rcases ad with ⟨B, o, sp⟩
              have hx : xs.length = len := by omega
              have hcell : ∀ i, i < len → (loadCells ⟨B, o, sp⟩ len).run P w = (loadCells ⟨B, o, sp⟩ len).run P w := fun _ _ => rfl
              by_cases h0 : len = 0
              · subst h0
                have : l = [] := by
                  have h5 := congrArg List.length k4
                  simp at h5
                  exact List.length_eq_zero_iff.1 (by omega)
                subst this
                refine ⟨ρ, w, .string ByteArray.empty, ?_, Post.same hp.good (by rw [e1]; rfl) (by rw [e1]; rfl) (Still.refl w), VR.string ByteArray.empty⟩
                simp [convert, run_underlying hs, run_underlying hu, run_underlying he, Conv.bytesToString, loadCells, loadCellsFrom]
              · have had := (h3.resolve_left (by omega)).1
                have hro := run_convert_bytes_arg (P := P) w src e hs he r.blk (r.base + off) len cap xs hx (fun i hi => by
                  have := g3 i (.int .u8 (xs.getD i 0)) (by rw [k2, List.getElem?_map, List.getElem?_eq_getElem (by omega), List.getD_eq_getElem?_getD, List.getElem?_eq_getElem (by omega)]; rfl)
                  rw [RB.at_add] at this
                  rw [← this]
                  unfold RB.at
                  rw [Nat.add_assoc]) dst hu
                refine ⟨ρ, w, .string (strOfNums xs), ?_, Post.same hp.good (by rw [e1]; rfl) (by rw [e1]; rfl) (Still.refl w), ?_⟩
                · rw [had]; exact hro
                · unfold strOfNums
                  rw [k4]
                  exact .str l k3
          · cases h
        · cases h
      · cases h
    · cases h
  · rename_i e l hu
    split at h
    · rename_i he hsz
      split at h
      · rename_i hlen
        cases h
        cases hx with
        | str _ hl =>
          have hbl := bytes_get (ρ := ρ) l hl
          have hbs := hbl.size
          have hsize : (⟨(l.map UInt8.ofNat).toArray⟩ : ByteArray).size = l.length := by simp [ByteArray.size]
          generalize hba : (⟨(l.map UInt8.ofNat).toArray⟩ : ByteArray) = ba at *
          simp only [bytesA, List.length_map] at hbs
          let cap := (Question.appendCap ba.size 0 e).cut (w.tape w.drawn (.appendCap ba.size 0 e))
          have hcap : cap = ba.size + (w.tape w.drawn (.appendCap ba.size 0 e)) % (2 ^ 63 - ba.size) := rfl
          have hbsz : (ba.data.map fun (b : UInt8) => Value.int .u8 b.toNat).size = ba.size := by rw [Array.size_map]; rfl
          let c : Array Value := (ba.data.map fun b => Value.int .u8 b.toNat) ++ Array.replicate (cap - ba.size) (.int .u8 0)
          have hcs : c.size = cap := by
            show ((ba.data.map fun (b : UInt8) => Value.int .u8 b.toNat) ++ Array.replicate (cap - ba.size) (Value.int .u8 0)).size = cap
            rw [Array.size_append, hbsz, Array.size_replicate]; omega
          have hrun : (convert src dst (.string ba)).run P w = .ok (.slice (some ⟨w.heap.size, 0, none⟩) ba.size cap) { w with drawn := w.drawn + 1, heap := w.heap.push (.cells c e (cap, cap + 1)) } := by
            have hconv : (convert src dst (.string ba)).run P w = (Conv.stringToBytes e ba).run P w := by
              unfold convert
              simp only [Sem.run_bind, run_underlying hd0, run_underlying hu, run_underlying he, Result.andThen_ok]
            have hforced : (Question.appendCap ba.size 0 e).forced = false := rfl
            rw [hconv]
            unfold Conv.stringToBytes markStringish
            simp only [Sem.run_bind, run_choose, hforced, Bool.false_eq_true, if_false, Result.andThen_ok, run_row, run_shape]
            show (Result.andThen ((match World.shape? { w with drawn := w.drawn + 1, heap := w.heap.push (.cells c e) } w.heap.size with
              | some (_, n) => freeze { block := w.heap.size, off := n } 1
              | _ => pure () : Sem Unit).run P { w with drawn := w.drawn + 1, heap := w.heap.push (.cells c e) }) fun a w' => (Pure.pure (Value.slice (some ⟨w.heap.size, 0, none⟩) ba.size cap) : Sem Value).run P w') = _
            have hsh : World.shape? { w with drawn := w.drawn + 1, heap := w.heap.push (.cells c e) } w.heap.size = some (e, c.size) := by simp [World.shape?]
            rw [hsh]
            simp only [run_freeze, Result.andThen_ok, Sem.run_pure, World.freeze, Nat.one_ne_zero, if_false]
            congr 1
            congr 1
            apply Array.ext_getElem?
            intro i
            rw [Array.getElem?_modify]
            by_cases hi : w.heap.size = i
            · subst hi; simp [hcs]
            · rw [if_neg hi]; simp [Array.getElem?_push, Ne.symm hi]
          have hadd : Add w { w with drawn := w.drawn + 1, heap := w.heap.push (.cells c e (cap, cap + 1)) } (.cells c e (cap, cap + 1)) := (Add.push w _).drew _
          refine ⟨_, _, _, hrun, made_ok hp hadd (fun o ho => by
            rw [hcs] at ho
            show (decide (cap ≤ o) && decide (o < cap + 1)) = false
            rw [decide_eq_false (by omega)]
            rfl) (by rw [hcs, bytesA, List.length_map]; omega) (fun i a ha => ?_), ?_⟩
          · obtain ⟨v, hv, hR⟩ := hbl.aget ha
            refine ⟨v, ?_, hR⟩
            show ((ba.data.map fun (b : UInt8) => Value.int .u8 b.toNat) ++ Array.replicate (cap - ba.size) (Value.int .u8 0))[i]? = some v
            rw [Array.getElem?_append_left (Array.getElem?_eq_some_iff.1 hv).1]
            exact hv
          · rw [hsize]
            exact .slice s.n 0 l.length l.length 1 _ _ _ (Env.add_self _ _) (Nat.le_refl _) (by omega) (.inr ⟨rfl, by show 0 + cap * 1 ≤ c.size; omega⟩)
      · cases h
    · cases h
  · cases h
end
end Go.Proofs.YtnodnpehjbhphaaGreatDoor.Rk
