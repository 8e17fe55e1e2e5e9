/- Part Rk2 of the proof: the statement that is proved stands in the text that ends with its name. No conditions beyond the card's. -/
import Derived.Test.YtmabpnmnppfgaaaGreatDoorRk1
import Derived.Room.Entries
import Derived.MapKept
import Derived.Laws.Tables
import Derived.Lib.UnsafeStr
import Derived.RangeFuncRecord
import Derived.OrdersIn
import Derived.TacticsIn
namespace Go.Proofs.YtmabpnmnppfgaaaGreatDoor.Rk
open Go
set_option linter.unusedVariables false
section
variable {P : Program} {ρ : Env} {T : Nat → Nat → Prop} {s s' : St} {w w' : World}
theorem newA_mono {e : TypeId} {sz n : Nat} {y : AV} {cs : List AV} {s1 : St} (h : newA e sz y s = some (n, cs, s1)) : Mono s s1 ∧ s1.heap = s.heap ∧ s1.n = s.n := by
  unfold newA at h
  split at h
  · cases h; exact ⟨Mono.refl _, rfl, rfl⟩
  · split at h
    · cases h; exact ⟨Mono.refl _, rfl, rfl⟩
    · cases h
  · split at h
    · split at h
      · rename_i hr
        obtain ⟨h1, h2⟩ := rd_mono hr
        cases h
        exact ⟨h2, by rw [h1]; rfl, by rw [h1]; rfl⟩
      · cases h
    · cases h
  · cases h
theorem cell_heap {w w1 : World} (h : w1.heap = w.heap) (a : Addr) : w1.cell? a = w.cell? a := by unfold World.cell?; rw [h]
theorem extract_all (ba : ByteArray) : ba.extract 0 ba.size = ba := by
  apply ByteArray.ext
  rw [ByteArray.data_extract]
  show ba.data.extract 0 ba.data.size = ba.data
  simp
theorem newA_ok {e : TypeId} {sz n : Nat} {y : AV} {y' : Value} {cs : List AV} {s1 : St} (h : newA e sz y s = some (n, cs, s1)) (hp : Pre ρ T s s1 w) (hy : VR ρ y y') :
    ∃ vs : List Value, VRL ρ cs vs ∧ vs.length = n * sz ∧ (∀ w1, (Builtin.lenOf y').run P w1 = .ok n w1) ∧ ∀ w1 : World, w1.heap = w.heap → (Builtin.firstCells sz n y').run P w1 = .ok vs.toArray w1 := by
  unfold newA at h
  split at h
  · cases h
    cases hy
    exact ⟨[], .nil, by simp, fun _ => rfl, fun _ _ => rfl⟩
  · rename_i l
    split at h
    · rename_i hsz
      cases h
      cases hy with
      | str _ hl =>
        have hb := bytes_get (ρ := ρ) l hl
        have hsize : (⟨(l.map UInt8.ofNat).toArray⟩ : ByteArray).size = l.length := by simp [ByteArray.size]
        refine ⟨_, hb, ?_, fun w1 => ?_, fun w1 _ => ?_⟩
        · rw [hsz, Nat.mul_one, hb.length, bytesA, List.length_map]
        · simp [Builtin.lenOf, hsize]
        · show (Pure.pure (((⟨(l.map UInt8.ofNat).toArray⟩ : ByteArray).extract 0 l.length).data.map fun (b : UInt8) => Value.int .u8 b.toNat) : Sem (Array Value)).run P w1 = _
          rw [← hsize, extract_all, Sem.run_pure, Array.toArray_toList]
    · cases h
  · rename_i b off len mc es
    split at h
    · rename_i hes
      split at h
      · rename_i cs1 s2 hr
        cases h
        cases hy with
        | slice _ _ _ _ _ r ad cap hb h1 h2 h3 =>
          obtain ⟨vs, g1, g2, g3⟩ := rd_ok hr hp hb
          refine ⟨vs, g2, g1, fun w1 => rfl, fun w1 hw => ?_⟩
          unfold Builtin.firstCells
          rw [← g1]
          refine run_cells (fun j v hv => ?_)
          rw [cell_heap hw]
          by_cases h0 : cap = 0
          · have : n = 0 := by omega
            subst this
            simp at g1
            subst g1
            simp at hv
          · rw [(h3.resolve_left h0).1]
            exact g3 j v hv
      · cases h
    · cases h
  · cases h
theorem run_append_room_ {t u ty e : TypeId} {i : TypeInfo} (hu : P.underlying t = some (.slice e)) (hi : P.info? e = some i) (hun : (∃ e', P.underlying u = some (.slice e')) ∨ P.underlying u = some .string) {base : Option Addr} {sLen sCap n : Nat} {y' : Value} {news : List Value}
    (hl : ∀ w1, (Builtin.lenOf y').run P w1 = .ok n w1) (hf : ∀ w1 : World, w1.heap = w.heap → (Builtin.firstCells i.size n y').run P w1 = .ok news.toArray w1) (hr : sLen + n ≤ sCap) :
    (Builtin.append_ #[t, u] ty #[.slice base sLen sCap, y']).run P w = match base with
      | some a => (match (storeCells (a.add (sLen * i.size)) news).run P w with
        | .ok _ w' => .ok (.slice base (sLen + n) sCap) w'
        | .halt h w' => .halt h w')
      | none => .ok (.slice base (sLen + n) sCap) w := by
  have hsz : (sizeOf e).run P w = .ok i.size w := run_szOf (by simp [szOf, hi]) w
  rcases hun with ⟨e', hd⟩ | hd
  all_goals
    unfold Builtin.append_
    simp only [List.getElem?_toArray, List.getElem?_cons_zero, List.getElem?_cons_succ, Sem.run_bind, Sem.run_pure, run_underlying hu, run_underlying hd, Result.andThen_ok, hsz, Bool.false_eq_true, if_false, hl, Sem.run_ite, if_pos hr, Bool.not_false, if_true, hf w rfl]
    cases base with
    | none => simp
    | some a =>
      simp only [Sem.run_bind]
      cases (storeCells (a.add (sLen * i.size)) news).run P w <;> simp
theorem run_append_more {t u ty e : TypeId} {i : TypeInfo} {z : Value} (hu : P.underlying t = some (.slice e)) (hi : P.info? e = some i) (hzi : i.zero = some z) (hun : (∃ e', P.underlying u = some (.slice e')) ∨ P.underlying u = some .string) {base : Option Addr} {sLen sCap n : Nat} {y' : Value} {news olds : List Value}
    (hl : ∀ w1, (Builtin.lenOf y').run P w1 = .ok n w1) (hf : ∀ w1 : World, w1.heap = w.heap → (Builtin.firstCells i.size n y').run P w1 = .ok news.toArray w1) (ho : ∀ w1 : World, w1.heap = w.heap → (Builtin.firstCells i.size sLen (.slice base sLen sCap)).run P w1 = .ok olds.toArray w1)
    (hr : sCap < sLen + n) (hn : sLen + n < 2000000) (hb : i.bytes ≤ 100000) :
    ∃ cap, sLen + n ≤ cap ∧ (Builtin.append_ #[t, u] ty #[.slice base sLen sCap, y']).run P w = .ok (.slice (some ⟨w.heap.size, 0, none⟩) (sLen + n) cap) { w with drawn := w.drawn + 1, heap := w.heap.push (.cells (olds.toArray ++ news.toArray ++ Builtin.zeroCells z.cells (cap - (sLen + n))) e) } := by
  have hsz : (sizeOf e).run P w = .ok i.size w := run_szOf (by simp [szOf, hi]) w
  have h63 : ¬ (((sLen + n : Nat) : Int) > IntKind.i64.max ∧ (False ∨ i.bytes = 0)) := by
    have : IntKind.i64.max = 9223372036854775807 := by decide
    rw [this]
    omega
  have h63' : ¬ (((sLen + n : Nat) : Int) > IntKind.i64.max) := by
    have : IntKind.i64.max = 9223372036854775807 := by decide
    rw [this]
    omega
  have hns : Builtin.nextslicecap (sLen + n) sCap * i.bytes ≤ 400000000000 := by
    have h1 := Go.Room.nextslicecap_le' hr
    have h2 : Builtin.nextslicecap (sLen + n) sCap * i.bytes ≤ 4000000 * 100000 := Nat.mul_le_mul (by omega) hb
    omega
  have h48 : ¬ (Builtin.nextslicecap (sLen + n) sCap * i.bytes > 2 ^ 48) := by omega
  have hforced : (Question.appendCap (sLen + n) sCap e).forced = false := rfl
  have hzv : ∀ w1, (zeroValue e).run P w1 = .ok z w1 := fun w1 => by simp [zeroValue, run_info hi, hzi]
  refine ⟨(Question.appendCap (sLen + n) sCap e).cut (w.tape w.drawn (.appendCap (sLen + n) sCap e)), Nat.le_add_right _ _, ?_⟩
  rcases hun with ⟨e', hd⟩ | hd
  all_goals
    unfold Builtin.append_
    simp only [List.getElem?_toArray, List.getElem?_cons_zero, List.getElem?_cons_succ, Sem.run_bind, run_underlying hu, run_underlying hd, Result.andThen_ok, hsz, Bool.false_eq_true, if_false, hl, Sem.run_ite, if_neg (Nat.not_le.2 hr), Bool.not_false, if_true, run_info hi, h63', false_and, if_neg h48, run_choose, hforced, run_askRoom, ho { w with drawn := w.drawn + 1 } rfl, hf { w with drawn := w.drawn + 1 } rfl, hzv, run_row, Sem.run_pure]
theorem bAppend_mono {t : TypeId} {x y v : AV} (hwf : WfS s) (h : bAppend P t x y s = some (v, s')) : Mono s s' := by
  unfold bAppend at h
  split at h
  · split at h
    · split at h
      · cases h
      · rename_i n cs s1 hn
        obtain ⟨m1, m2, m3⟩ := newA_mono hn
        split at h
        · split at h
          · split at h
            · cases h; exact m1
            · cases h; exact m1.trans (Mono.new _ _)
          · split at h
            · cases h; exact m1
            · split at h
              · rename_i hb
                split at h
                · split at h
                  · split at h
                    · cases h
                      exact m1.trans (Mono.put_note _ _ _ ⟨_, hb, trivial⟩)
                    · cases h
                  · split at h
                    · cases h
                      exact (m1.trans (Mono.put_note _ _ .dead ⟨_, hb, trivial⟩)).trans (Mono.new _ _)
                    · cases h
                · split at h
                  · split at h
                    · rename_i hrd
                      cases h
                      exact (m1.trans (rd_mono hrd).2).trans (Mono.new _ _)
                    · cases h
                  · cases h
              · cases h
          · cases h
        · cases h
    · cases h
  · cases h
theorem repL_top (n i : Nat) (a : AV) (h : (repL [.top] n)[i]? = some a) : a = .top := by
  have hi : i < n := by
    have := (List.getElem?_eq_some_iff.1 h).1
    rw [repL_len] at this
    simpa using this
  rw [repL_get [.top] n i (by simpa using hi)] at h
  simp [Nat.mod_one] at h
  exact h.symm
theorem repL_top_len (n : Nat) : (repL [.top] n).length = n := by rw [repL_len]; simp
theorem OK1.after {m : Sem Value} {v : AV} {s1 : St} (m1 : Mono s s1) (m2 : Mono s1 s') (h : Post ρ T s w ρ s1 w) (k : OK1 P m ρ (Tn T s.n s1.n) s1 w v s') : OK1 P m ρ T s w v s' := by
  obtain ⟨ρ', w', v', h1, h2, h3⟩ := k
  exact ⟨ρ', w', v', h1, h.trans m1 m2 h2, h3⟩
section
variable {t u ty e : TypeId} {i : TypeInfo} {z : Value} {n : Nat} {cs : List AV} {vs : List Value} {y' : Value}
  (hu : P.underlying t = some (.slice e)) (hi : P.info? e = some i) (hzi : i.zero = some z) (hzs : z.cells.size = i.size) (hun : (∃ e', P.underlying u = some (.slice e')) ∨ P.underlying u = some .string)
  (g1 : VRL ρ cs vs) (g2 : vs.length = n * i.size) (g3 : ∀ w1, (Builtin.lenOf y').run P w1 = .ok n w1) (g4 : ∀ w1 : World, w1.heap = w.heap → (Builtin.firstCells i.size n y').run P w1 = .ok vs.toArray w1)
  (c1 : cs.all one = true) (c2 : i.bytes ≤ 100000) (c3 : 0 < i.size) (c4 : n < 1000000) (h0 : 0 < n)
include hu hi hzi hzs hun g1 g2 g3 g4 c1 c2 c3 c4 h0
theorem app_nil (hp : Pre ρ T s (s.new (.cells (2 * e) cs)) w) : OK1 P (Builtin.append_ #[t, u] ty #[.slice none 0 0, y']) ρ T s w (.slice s.n 0 n n i.size) (s.new (.cells (2 * e) cs)) := by
  have _all := (⟨hzi, hzs, c1, c2, c3, c4⟩ : _ ∧ _ ∧ _ ∧ _ ∧ _ ∧ _)
  obtain ⟨cap, k1, k2⟩ := run_append_more (ty := ty) (base := none) (sLen := 0) (sCap := 0) (olds := []) hu hi hzi hun g3 g4 (fun _ _ => rfl) (by omega) (by omega) c2
  have hsz := g1.length
  rw [Nat.zero_add] at k2 k1
  have hcz : ((([] : List Value).toArray ++ vs.toArray) ++ Builtin.zeroCells z.cells (cap - n)).size = cap * i.size := by
    have : (Builtin.zeroCells z.cells (cap - n)).size = (cap - n) * z.cells.size := by simp [Builtin.zeroCells]
    rw [Array.size_append, Array.size_append, this, hzs]
    simp only [List.size_toArray, List.length_nil, Nat.zero_add, g2]
    rw [← Nat.add_mul]
    congr 1
    omega
  refine ⟨_, _, _, k2, made_ok hp ((Add.push w _).drew _) (fun o _ => by simp) ?_ (fun j a ha => ?_), ?_⟩
  · rw [hcz, ← hsz, g2]
    exact Nat.mul_le_mul_right _ k1
  · obtain ⟨u', hu', hR⟩ := g1.get j ha
    refine ⟨u', ?_, hR⟩
    have hj : j < vs.length := (List.getElem?_eq_some_iff.1 hu').1
    rw [Array.getElem?_append_left (by simp; exact hj)]
    simpa using hu'
  · refine .slice s.n 0 n n i.size _ _ _ (Env.add_self _ _) (Nat.le_refl _) k1 (.inr ⟨rfl, ?_⟩)
    show 0 + cap * i.size ≤ ((([] : List Value).toArray ++ vs.toArray) ++ Builtin.zeroCells z.cells (cap - n)).size
    rw [hcz]
    omega
theorem app_in {b off len mc cap : Nat} {r : RB} {cs0 cs1 : List AV} {t0 : TypeId} (hbg : s.heap.get b = some (.cells t0 cs0)) (hset : setL (cs0 ++ repL [.top] (off + (len + n) * i.size - cs0.length)) (off + len * i.size) cs = some cs1)
    (hp : Pre ρ T s ((s.put b (.cells t0 cs1)).note (.all b)) w) (hb : ρ b = some r) (k1 : len + n ≤ mc) (k2 : mc ≤ cap) (hfit : off + cap * i.size ≤ r.n) :
    OK1 P (Builtin.append_ #[t, u] ty #[.slice (some (r.at off)) len cap, y']) ρ T s w (.slice b off (len + n) mc i.size) ((s.put b (.cells t0 cs1)).note (.all b)) := by
  have _all := (⟨hzi, hzs, c1, c2, c3, c4⟩ : _ ∧ _ ∧ _ ∧ _ ∧ _ ∧ _)
  have hT : ∀ i, T b i := fun i => hp.cov (.all b) (List.mem_cons_self ..) (lt_n hp.wf hbg) b i rfl
  obtain ⟨r0, c, fr, q1, q2, q3, q4, q5, q6⟩ := hp.good.sat b _ hbg ⟨0, hT 0⟩
  have : r0 = r := Option.some.inj (q1.symm.trans hb)
  subst this
  have qf := q4
  replace q4 := q4.1
  obtain ⟨z1, z2, z3⟩ := setL_ok hset
  have hlen := g1.length
  have hle : (len + n) * i.size ≤ cap * i.size := Nat.mul_le_mul_right _ (by omega)
  have hadd : (len + n) * i.size = len * i.size + n * i.size := Nat.add_mul _ _ _
  have hpos : 0 < n * i.size := Nat.mul_pos h0 c3
  have hcslen : cs.length = n * i.size := by omega
  obtain ⟨c', w2, f1, f2, f3, f4, f5, f6, f7, f8, f9⟩ := run_stores (P := P) (o := r0.base + off + len * i.size) vs 0 c w q2 (g1.ones c1) (by omega) (fun j h4 h5 => q5 j (by omega) h5)
  have hrun := run_append_room_ (w := w) (ty := ty) (base := some (r0.at off)) (sLen := len) (sCap := cap) hu hi hun g3 g4 (by omega)
  have hat : (r0.at off).add (len * i.size) = ⟨r0.blk, r0.base + off + len * i.size, none⟩ := by rw [RB.at_add]; unfold RB.at; rw [Nat.add_assoc]
  simp only [hat, f1] at hrun
  refine ⟨ρ, w2, _, hrun, Post.alt hp.good hbg trivial ⟨0, hT 0⟩ hb ⟨f7, f8, f9, f6, f2, f5⟩ ⟨r0, c', fr, hb, f2, by rw [f3]; exact q3, ?_, fun o h1 h2 => q5 o h1 (by rw [← f3]; exact h2), fun j a ha _ => ?_⟩, .slice b off (len + n) mc i.size r0 (r0.at off) cap hb k1 k2 (.inr ⟨rfl, hfit⟩)⟩
  · rw [z1, List.length_append, repL_top_len]
    refine ⟨by omega, fun hx => ?_⟩
    obtain ⟨y1, y2⟩ := qf.2 hx
    exact ⟨y1, by omega⟩
  · rw [z2] at ha
    by_cases hj : off + len * i.size ≤ j ∧ j < off + len * i.size + cs.length
    · rw [if_pos hj] at ha
      rw [f4, if_pos (by omega), show r0.base + j - (r0.base + off + len * i.size + 0) = j - (off + len * i.size) by omega]
      exact g1.get _ ha
    · rw [if_neg hj] at ha
      rw [f4, if_neg (by omega)]
      by_cases hj0 : j < cs0.length
      · rw [List.getElem?_append_left hj0] at ha
        exact q6 j a ha (hT j)
      · rw [List.getElem?_append_right (by omega)] at ha
        have htop := repL_top _ _ a ha
        have hjl := (List.getElem?_eq_some_iff.1 ha).1
        rw [repL_top_len] at hjl
        subst htop
        exact ⟨_, Array.getElem?_eq_getElem (by omega), .top _⟩
theorem app_adopt {b off len cap : Nat} {r : RB} {cs0 : List AV} (hbg : s.heap.get b = some (.cells (2 * e) cs0)) (htop : off + len * i.size = cs0.length)
    (hp : Pre ρ T s (((s.put b .dead).note (.all b)).new (.cells (2 * e) (cs0.drop off ++ cs))) w) (hb : ρ b = some r) (hcap : len + n ≤ cap) (hfit : off + cap * i.size ≤ r.n) :
    OK1 P (Builtin.append_ #[t, u] ty #[.slice (some (r.at off)) len cap, y']) ρ T s w (.slice s.n 0 (len + n) (len + n) i.size) (((s.put b .dead).note (.all b)).new (.cells (2 * e) (cs0.drop off ++ cs))) := by
  have _all := (⟨hzi, hzs, c1, c2, c3, c4⟩ : _ ∧ _ ∧ _ ∧ _ ∧ _ ∧ _)
  have hbn := lt_n hp.wf hbg
  have hT : ∀ i, T b i := fun i => hp.cov (.all b) (List.mem_cons_self ..) hbn b i rfl
  obtain ⟨r0, c, fr, q1, q2, q3, q4, q5, q6⟩ := hp.good.sat b _ hbg ⟨0, hT 0⟩
  have : r0 = r := Option.some.inj (q1.symm.trans hb)
  subst this
  have qf := q4
  replace q4 := q4.1
  have hlen := g1.length
  have hadd : (len + n) * i.size = len * i.size + n * i.size := Nat.add_mul _ _ _
  have hpos : 0 < n * i.size := Nat.mul_pos h0 c3
  have hcslen : cs.length = n * i.size := by omega
  have hfr : ρ s.n = none := hp.fresh s.n (Nat.le_refl _) (Nat.lt_succ_self _)
  have hle : (len + n) * i.size ≤ cap * i.size := Nat.mul_le_mul_right _ hcap
  obtain ⟨c', w2, f1, f2, f3, f4, f5, f6, f7, f8, f9⟩ := run_stores (P := P) (o := r0.base + off + len * i.size) vs 0 c w q2 (g1.ones c1) (by omega) (fun j h4 h5 => q5 j (by omega) h5)
  have hrun := run_append_room_ (w := w) (ty := ty) (base := some (r0.at off)) (sLen := len) (sCap := cap) hu hi hun g3 g4 hcap
  have hat : (r0.at off).add (len * i.size) = ⟨r0.blk, r0.base + off + len * i.size, none⟩ := by rw [RB.at_add]; unfold RB.at; rw [Nat.add_assoc]
  simp only [hat, f1] at hrun
  have hBR : BR (ρ.add s.n ⟨r0.blk, r0.base + off, r0.n - off⟩) (fun _ => True) s.n w2 (.cells (2 * e) (cs0.drop off ++ cs)) := by
    refine ⟨⟨r0.blk, r0.base + off, r0.n - off⟩, c', fr, Env.add_self _ _, f2, ?_, ?_, fun o h1 h2 => ?_, fun j a ha _ => ?_⟩
    · show c'.size = r0.base + off + (r0.n - off)
      omega
    · refine Fits.even e ?_
      show (cs0.drop off ++ cs).length ≤ r0.n - off
      rw [List.length_append, List.length_drop]
      omega
    · have h3 : r0.base + off ≤ o := h1
      exact q5 o (by omega) (by rw [← f3]; exact h2)
    · show ∃ v, c'[r0.base + off + j]? = some v ∧ VR (ρ.add s.n ⟨r0.blk, r0.base + off, r0.n - off⟩) a v
      by_cases hj : j < (cs0.drop off).length
      · rw [List.getElem?_append_left hj, List.getElem?_drop] at ha
        rw [List.length_drop] at hj
        rw [f4, if_neg (by omega), Nat.add_assoc]
        obtain ⟨u', hu', hR⟩ := q6 (off + j) a ha (hT _)
        exact ⟨u', hu', hR.mono (Env.add_le hfr)⟩
      · rw [List.getElem?_append_right (by omega)] at ha
        rw [List.length_drop] at hj ha
        have hjl := (List.getElem?_eq_some_iff.1 ha).1
        rw [f4, if_pos (by omega), show r0.base + off + j - (r0.base + off + len * i.size + 0) = j - (cs0.length - off) by omega]
        obtain ⟨u', hu', hR⟩ := g1.get _ ha
        exact ⟨u', hu', hR.mono (Env.add_le hfr)⟩
  refine ⟨ρ.add s.n ⟨r0.blk, r0.base + off, r0.n - off⟩, w2, _, hrun, Post.adopt hp.good hp.wf hfr hbg trivial ⟨0, hT 0⟩ hb ⟨f7, f8, f9, f6, f2, f5⟩ rfl hbn hBR, .slice s.n 0 (len + n) (len + n) i.size ⟨r0.blk, r0.base + off, r0.n - off⟩ (r0.at off) cap (Env.add_self _ _) (Nat.le_refl _) hcap (.inr ⟨rfl, ?_⟩)⟩
  show 0 + cap * i.size ≤ r0.n - off
  omega
theorem app_more {b off len cap : Nat} {r : RB} {ad : Addr} {cs0 : List AV} (hbg : s.heap.get b = some (.cells (2 * e) cs0)) (htop : off + len * i.size = cs0.length)
    (hp : Pre ρ T s (((s.put b .dead).note (.all b)).new (.cells (2 * e) (cs0.drop off ++ cs))) w) (hb : ρ b = some r) (hl : len < 1000000) (hlc : len ≤ cap) (hcap : cap < len + n) (k3 : cap = 0 ∨ ad = r.at off ∧ off + cap * i.size ≤ r.n) :
    OK1 P (Builtin.append_ #[t, u] ty #[.slice (some ad) len cap, y']) ρ T s w (.slice s.n 0 (len + n) (len + n) i.size) (((s.put b .dead).note (.all b)).new (.cells (2 * e) (cs0.drop off ++ cs))) := by
  have _all := (⟨hzi, hzs, c1, c2, c3, c4⟩ : _ ∧ _ ∧ _ ∧ _ ∧ _ ∧ _)
  have hbn := lt_n hp.wf hbg
  have hT : ∀ i, T b i := fun i => hp.cov (.all b) (List.mem_cons_self ..) hbn b i rfl
  obtain ⟨r0, c, fr, q1, q2, q3, q4, q5, q6⟩ := hp.good.sat b _ hbg ⟨0, hT 0⟩
  have : r0 = r := Option.some.inj (q1.symm.trans hb)
  subst this
  have qf := q4
  replace q4 := q4.1
  have hlen := g1.length
  have hadd : (len + n) * i.size = len * i.size + n * i.size := Nat.add_mul _ _ _
  have hmk : Mono s ((s.put b .dead).note (.all b)) := Mono.put_note _ _ _ ⟨_, hbg, trivial⟩
  have hd : (cs0.drop off).length = len * i.size := by rw [List.length_drop]; omega
  have holds : ∃ os : List Value, os.length = len * i.size ∧ VRL ρ (cs0.drop off) os ∧ ∀ w1 : World, w1.heap = w.heap → (Builtin.firstCells i.size len (.slice (some ad) len cap)).run P w1 = .ok os.toArray w1 := by
    by_cases hl0 : len = 0
    · subst hl0
      have : cs0.drop off = [] := List.length_eq_zero_iff.1 (by omega)
      rw [this]
      refine ⟨[], by simp, .nil, fun w1 _ => ?_⟩
      simp [Builtin.firstCells, loadCells, loadCellsFrom]
    · obtain ⟨had, hfit⟩ := k3.resolve_left (by omega)
      have hl2 : ((c.toList.drop (r0.base + off)).take (len * i.size)).length = len * i.size := by rw [List.length_take, List.length_drop, Array.length_toList]; omega
      refine ⟨(c.toList.drop (r0.base + off)).take (len * i.size), hl2, VRL.of_get (by omega) (fun j a v ha hv => ?_), fun w1 hw1 => ?_⟩
      · have hj : j < len * i.size := by
          have := (List.getElem?_eq_some_iff.1 ha).1
          omega
        rw [List.getElem?_take_of_lt hj, List.getElem?_drop, Array.getElem?_toList] at hv
        rw [List.getElem?_drop] at ha
        obtain ⟨u', hu', hR⟩ := q6 (off + j) a ha (hT _)
        rw [← Nat.add_assoc, hv] at hu'
        cases hu'
        exact hR
      · have hrc := run_cells (P := P) (w := w1) (a := ad) (vs := (c.toList.drop (r0.base + off)).take (len * i.size)) (fun j v hv => ?_)
        · rw [hl2] at hrc
          exact hrc
        have hj : j < len * i.size := by
          have := (List.getElem?_eq_some_iff.1 hv).1
          omega
        rw [List.getElem?_take_of_lt hj, List.getElem?_drop, Array.getElem?_toList] at hv
        rw [cell_heap hw1, had, RB.at_add]
        unfold RB.at
        rw [cell_in q2, ← Nat.add_assoc]
        exact hv
  obtain ⟨os, o1, o2, o3⟩ := holds
  obtain ⟨cap2, m3, m4⟩ := run_append_more (ty := ty) (base := some ad) (sLen := len) (sCap := cap) (olds := os) hu hi hzi hun g3 g4 o3 (by omega) (by omega) c2
  have hkill := Post.kill hp.good hbg trivial (Still.refl w)
  have hpre3 := hp.next hmk (Mono.new _ (.cells (2 * e) (cs0.drop off ++ cs))) hkill
  have hcz : ((os.toArray ++ vs.toArray) ++ Builtin.zeroCells z.cells (cap2 - (len + n))).size = cap2 * i.size := by
    have : (Builtin.zeroCells z.cells (cap2 - (len + n))).size = (cap2 - (len + n)) * z.cells.size := by simp [Builtin.zeroCells]
    rw [Array.size_append, Array.size_append, this, hzs]
    simp only [List.size_toArray, o1, g2]
    rw [← Nat.add_mul, ← Nat.add_mul]
    congr 1
    omega
  have hos := o2.append g1
  have hosl := hos.length
  refine ⟨_, _, _, m4, hkill.trans hmk (Mono.new _ _) (made_ok hpre3 ((Add.push w _).drew _) (fun o _ => by simp) ?_ (fun j a ha => ?_)), ?_⟩
  · rw [hcz, ← hosl, List.length_append, o1, g2, ← Nat.add_mul]
    exact Nat.mul_le_mul_right _ m3
  · obtain ⟨u', hu', hR⟩ := hos.get j ha
    refine ⟨u', ?_, hR⟩
    have hj : j < (os ++ vs).length := (List.getElem?_eq_some_iff.1 hu').1
    rw [Array.getElem?_append_left (by simpa using hj)]
    simpa using hu'
  · refine .slice s.n 0 (len + n) (len + n) i.size _ _ _ (Env.add_self _ _) (Nat.le_refl _) m3 (.inr ⟨rfl, ?_⟩)
    show 0 + cap2 * i.size ≤ ((os.toArray ++ vs.toArray) ++ Builtin.zeroCells z.cells (cap2 - (len + n))).size
    rw [hcz]
    omega
theorem app_fresh {b off len cap : Nat} {r : RB} {ad : Addr} {cs0 os0 : List AV} {s2 : St} (hbg : s.heap.get b = some (.cells (2 * e + 1) cs0)) (hrd : rdCells s b off (len * i.size) = some (os0, s2))
    (hp : Pre ρ T s (s2.new (.cells (2 * e) (os0 ++ cs))) w) (hb : ρ b = some r) (hl : len < 1000000) (hl1 : 0 < len) (hlc : len ≤ cap) (hbig : cs0.length < off + (len + n) * i.size) (k3 : cap = 0 ∨ ad = r.at off ∧ off + cap * i.size ≤ r.n) :
    OK1 P (Builtin.append_ #[t, u] ty #[.slice (some ad) len cap, y']) ρ T s w (.slice s2.n 0 (len + n) (len + n) i.size) (s2.new (.cells (2 * e) (os0 ++ cs))) := by
  have _all := (⟨hzi, hzs, c1, c2, c3, c4⟩ : _ ∧ _ ∧ _ ∧ _ ∧ _ ∧ _)
  obtain ⟨hs2, hm2⟩ := rd_mono hrd
  have hbn := lt_n hp.wf hbg
  have hps : Pre ρ T s s2 w := hp.first (Mono.new _ _)
  obtain ⟨os, o1, o2, o4⟩ := rd_ok hrd hps hb
  have hadd : (len + n) * i.size = len * i.size + n * i.size := Nat.add_mul _ _ _
  have hcap : cap < len + n := by
    rcases k3 with h | ⟨_, hfit⟩
    · omega
    · have hcov : ∃ j, T b j := by
        refine ⟨off, hp.cov (.rd b off (len * i.size)) (by rw [hs2]; exact List.mem_cons_self ..) hbn b off ⟨rfl, Nat.le_refl _, ?_⟩⟩
        have := Nat.mul_pos hl1 c3
        omega
      obtain ⟨r0, c, fr, q1, q2, q3, q4, q5, q6⟩ := hp.good.sat b _ hbg hcov
      have : r0 = r := Option.some.inj (q1.symm.trans hb)
      subst this
      have h1 := (q4.2 (by omega)).2
      have h2 : cap * i.size < (len + n) * i.size := by omega
      exact Nat.lt_of_mul_lt_mul_right h2
  have o3 : ∀ w1 : World, w1.heap = w.heap → (Builtin.firstCells i.size len (.slice (some ad) len cap)).run P w1 = .ok os.toArray w1 := fun w1 hw1 => by
    by_cases hl0 : len = 0
    · subst hl0
      have : os = [] := List.length_eq_zero_iff.1 (by omega)
      rw [this]
      simp [Builtin.firstCells, loadCells, loadCellsFrom]
    · obtain ⟨had, hfit⟩ := k3.resolve_left (by omega)
      have hrc := run_cells (P := P) (w := w1) (a := ad) (vs := os) (fun j v hv => by rw [cell_heap hw1, had]; exact o4 j v hv)
      rw [o1] at hrc
      exact hrc
  obtain ⟨cap2, m3, m4⟩ := run_append_more (ty := ty) (base := some ad) (sLen := len) (sCap := cap) (olds := os) hu hi hzi hun g3 g4 o3 (by omega) (by omega) c2
  have hsame : Post ρ T s w ρ s2 w := Post.same hp.good (by rw [hs2]; rfl) (by rw [hs2]; rfl) (Still.refl w)
  have hpre3 := hp.next hm2 (Mono.new _ (.cells (2 * e) (os0 ++ cs))) hsame
  have hcz : ((os.toArray ++ vs.toArray) ++ Builtin.zeroCells z.cells (cap2 - (len + n))).size = cap2 * i.size := by
    have : (Builtin.zeroCells z.cells (cap2 - (len + n))).size = (cap2 - (len + n)) * z.cells.size := by simp [Builtin.zeroCells]
    rw [Array.size_append, Array.size_append, this, hzs]
    simp only [List.size_toArray, o1, g2]
    rw [← Nat.add_mul, ← Nat.add_mul]
    congr 1
    omega
  have hos := o2.append g1
  have hosl := hos.length
  refine ⟨_, _, _, m4, hsame.trans hm2 (Mono.new _ _) (made_ok hpre3 ((Add.push w _).drew _) (fun o _ => by simp) ?_ (fun j a ha => ?_)), ?_⟩
  · rw [hcz, ← hosl, List.length_append, o1, g2, ← Nat.add_mul]
    exact Nat.mul_le_mul_right _ m3
  · obtain ⟨u', hu', hR⟩ := hos.get j ha
    refine ⟨u', ?_, hR⟩
    have hj : j < (os ++ vs).length := (List.getElem?_eq_some_iff.1 hu').1
    rw [Array.getElem?_append_left (by simpa using hj)]
    simpa using hu'
  · refine .slice s2.n 0 (len + n) (len + n) i.size _ _ _ (Env.add_self _ _) (Nat.le_refl _) m3 (.inr ⟨rfl, ?_⟩)
    show 0 + cap2 * i.size ≤ ((os.toArray ++ vs.toArray) ++ Builtin.zeroCells z.cells (cap2 - (len + n))).size
    rw [hcz]
    omega
end
theorem bAppend_ok {t u ty : TypeId} {x y v : AV} {x' y' : Value} (h : bAppend P t x y s = some (v, s')) (hun : (∃ e', P.underlying u = some (.slice e')) ∨ P.underlying u = some .string) (hp : Pre ρ T s s' w) (hx : VR ρ x x') (hy : VR ρ y y') : OK1 P (Builtin.append_ #[t, u] ty #[x', y']) ρ T s w v s' := by
  unfold bAppend at h
  split at h
  · rename_i e hu
    split at h
    · rename_i i hi
      split at h
      · cases h
      · rename_i n cs s1 hn
        obtain ⟨m1, hs1, hn1⟩ := newA_mono hn
        split at h
        · rename_i hcond
          simp only [Bool.and_eq_true, decide_eq_true_eq] at hcond
          obtain ⟨⟨⟨⟨c1, c2⟩, c3⟩, c4⟩, c5⟩ := hcond
          have hz5 : ∃ z, i.zero = some z ∧ z.cells.size = i.size := by
            unfold zOk at c5
            split at c5
            · rename_i zl hzl
              obtain ⟨zv, hz1, hz2⟩ := zeroC_info (ρ := ρ) hzl hi
              have := hz2.size
              have h6 := of_decide_eq_true c5
              exact ⟨zv, hz1, by omega⟩
            · cases c5
          obtain ⟨z, hzi, hzs⟩ := hz5
          have key : Mono s1 s' → ∃ vs : List Value, VRL ρ cs vs ∧ vs.length = n * i.size ∧ (∀ w1, (Builtin.lenOf y').run P w1 = .ok n w1) ∧ ∀ w1 : World, w1.heap = w.heap → (Builtin.firstCells i.size n y').run P w1 = .ok vs.toArray w1 := fun m2 => newA_ok hn (hp.first m2) hy
          have hpost : Post ρ T s w ρ s1 w := Post.same hp.good hs1 hn1 (Still.refl w)
          split at h
          · cases hx
            split at h
            · rename_i h0
              cases h
              obtain ⟨vs, g1, g2, g3, g4⟩ := key (Mono.refl _)
              subst h0
              have hr := run_append_room_ (ty := ty) (base := none) (sLen := 0) (sCap := 0) hu hi hun g3 g4 (Nat.le_refl _)
              exact ⟨ρ, w, _, hr, hpost, .nils⟩
            · rename_i h0
              cases h
              obtain ⟨vs, g1, g2, g3, g4⟩ := key (Mono.new _ _)
              exact (app_nil hu hi hzi hzs hun g1 g2 g3 g4 c1 c2 c3 c4 (by omega) (hp.next m1 (Mono.new _ _) hpost)).after m1 (Mono.new _ _) hpost
          · rename_i b off len mc es
            cases hx with
            | slice _ _ _ _ _ r ad cap hb k1 k2 k3 =>
            split at h
            · rename_i h0
              cases h
              obtain ⟨vs, g1, g2, g3, g4⟩ := key (Mono.refl _)
              subst h0
              have hvs : vs = [] := List.length_eq_zero_iff.1 (by omega)
              subst hvs
              have hr := run_append_room_ (w := w) (ty := ty) (base := some ad) (sLen := len) (sCap := cap) hu hi hun g3 g4 (by omega)
              exact ⟨ρ, w, _, hr, hpost, .slice b off len mc es r ad cap hb k1 k2 k3⟩
            · rename_i h0
              split at h
              · rename_i t0 cs0 hbg
                split at h
                · rename_i hc
                  obtain ⟨hc1, hc2, hc3⟩ := hc
                  subst hc2
                  subst hc1
                  split at h
                  · rename_i hroom
                    split at h
                    · rename_i cs1 hset
                      cases h
                      have hm2 : Mono s1 ((s1.put b (.cells (2 * e) cs1)).note (.all b)) := Mono.put_note _ _ _ ⟨_, hbg, trivial⟩
                      obtain ⟨vs, g1, g2, g3, g4⟩ := key hm2
                      obtain ⟨had, hfit⟩ := k3.resolve_left (by omega)
                      subst had
                      exact (app_in hu hi hzi hzs hun g1 g2 g3 g4 c1 c2 c3 c4 (by omega) hbg hset (hp.next m1 hm2 hpost) hb hroom k2 hfit).after m1 hm2 hpost
                    · cases h
                  · rename_i hroom
                    split at h
                    · rename_i htop
                      cases h
                      have hm2 : Mono s1 (((s1.put b .dead).note (.all b)).new (.cells (2 * e) (cs0.drop off ++ cs))) := (Mono.put_note _ _ .dead ⟨_, hbg, trivial⟩).trans (Mono.new _ _)
                      obtain ⟨vs, g1, g2, g3, g4⟩ := key hm2
                      by_cases hcap : len + n ≤ cap
                      · obtain ⟨had, hfit⟩ := k3.resolve_left (by omega)
                        subst had
                        exact (app_adopt hu hi hzi hzs hun g1 g2 g3 g4 c1 c2 c3 c4 (by omega) hbg htop (hp.next m1 hm2 hpost) hb hcap hfit).after m1 hm2 hpost
                      · exact (app_more hu hi hzi hzs hun g1 g2 g3 g4 c1 c2 c3 c4 (by omega) hbg htop (hp.next m1 hm2 hpost) hb hc3 (by omega) (by omega) k3).after m1 hm2 hpost
                    · cases h
                · split at h
                  · rename_i hc
                    obtain ⟨hc1, hc2, hc3, hc5, hc4⟩ := hc
                    subst hc2
                    subst hc1
                    split at h
                    · rename_i os s2 hrd
                      cases h
                      have hm2 : Mono s1 (s2.new (.cells (2 * e) (os ++ cs))) := (rd_mono hrd).2.trans (Mono.new _ _)
                      obtain ⟨vs, g1, g2, g3, g4⟩ := key hm2
                      exact (app_fresh hu hi hzi hzs hun g1 g2 g3 g4 c1 c2 c3 c4 (by omega) hbg hrd (hp.next m1 hm2 hpost) hb hc3 hc5 (by omega) hc4 k3).after m1 hm2 hpost
                    · cases h
                  · cases h
              · cases h
          · cases h
        · cases h
    · cases h
  · cases h
end
end Go.Proofs.YtmabpnmnppfgaaaGreatDoor.Rk
namespace Go.Proofs.YtmabpnmnppfgaaaGreatDoor.Rk
open Go
set_option linter.unusedVariables false
section
variable {P : Program} {ρ : Env} {T : Nat → Nat → Prop} {s s' : St} {w w' : World}
theorem opBuild_ok {t : TypeId} {ps : List (Nat × AV)} {ps' : Array (Nat × Value)} {v : AV} (h : opBuild P t ps = some v) (hx : PR ρ ps ps'.toList) : ∃ v', (Instr.build t ps').run P w = .ok v' w ∧ VR ρ v v' := by
  unfold opBuild at h
  have key : ∀ z, zeroC P t = some z → ∃ it zv, P.info? t = some it ∧ it.zero = some zv ∧ VRL ρ z zv.cells.toList := by
    intro z hz
    cases hit : P.info? t with
    | none => unfold zeroC zeroA at hz; rw [hit] at hz; simp at hz
    | some it =>
      obtain ⟨zv, h1, h2⟩ := zeroC_info (ρ := ρ) hz hit
      exact ⟨it, zv, rfl, h1, h2⟩
  split at h
  · rename_i z fs hz hu
    obtain ⟨it, zv, h1, h2, h3⟩ := key z hz
    split at h
    · rename_i places hpl
      split at h
      · rename_i cs hf
        cases h
        obtain ⟨r', h4, h5⟩ := fill_ok hf hx h3
        refine ⟨.agg r', run_build w t ps' r' ?_, .agg _ _ h5⟩
        unfold Program.built
        simp only [h1, hu, h2, hpl]
        simpa using h4
      · cases h
    · cases h
  · rename_i z len e hz hu
    obtain ⟨it, zv, h1, h2, h3⟩ := key z hz
    split at h
    · rename_i i hi
      split at h
      · rename_i cs hf
        cases h
        obtain ⟨r', h4, h5⟩ := fill_ok hf hx h3
        refine ⟨.agg r', run_build w t ps' r' ?_, .agg _ _ h5⟩
        unfold Program.built
        simp only [h1, hu, h2, hi]
        exact h4
      · cases h
    · cases h
  · cases h
theorem str_size (l : List Nat) : (⟨(l.map UInt8.ofNat).toArray⟩ : ByteArray).size = l.length := by simp [ByteArray.size]
inductive VRO (ρ : Env) : Option AV → Option Value → Prop
  | none : VRO ρ none none
  | some (a : AV) (v : Value) (h : VR ρ a v) : VRO ρ (some a) (some v)
theorem bound_ok {x : AV} {x' : Value} {k n y : Nat} {c : BoundsCode} (h : bnd (some x) n = some k) (hx : VR ρ x x') (hle : k ≤ y) : (Instr.sliceBound x' y c).run P w = .ok k w := by
  unfold bnd at h
  split at h
  · rename_i he; cases he
  · rename_i kk n he
    cases he
    cases h
    cases hx
    simp [Instr.sliceBound, asIntOf]
    omega
  · cases h
theorem bounds_ok {lo hi : Option AV} {lo' hi' : Option Value} {b : Bool} {len cap k h : Nat} (hk : bnd lo 0 = some k) (hh : bnd hi len = some h) (hl : VRO ρ lo lo') (hr : VRO ρ hi hi') (h1 : k ≤ h) (h2 : h ≤ cap) : (Instr.sliceBounds b len cap lo' hi' none).run P w = .ok (k, h, cap) w := by
  unfold Instr.sliceBounds
  simp only [Sem.run_bind, Sem.run_pure, Result.andThen_ok]
  cases hr with
  | none =>
    cases hh
    simp only [Sem.run_bind, Sem.run_pure, Result.andThen_ok]
    cases hl with
    | none => cases hk; simp
    | some a v ha => simp [bound_ok (P := P) (w := w) hk ha h1]
  | some a v ha =>
    simp only [Sem.run_bind, bound_ok (P := P) (w := w) hh ha h2, Result.andThen_ok]
    cases hl with
    | none => cases hk; simp
    | some a v ha => simp [bound_ok (P := P) (w := w) hk ha h1]
theorem bnds_ok {lo hi : Option AV} {lo' hi' : Option Value} {b : Bool} {len c cap k h : Nat} (hb : bnds lo hi len c = some (k, h)) (hc : c ≤ cap) (hl : VRO ρ lo lo') (hr : VRO ρ hi hi') : (Instr.sliceBounds b len cap lo' hi' none).run P w = .ok (k, h, cap) w ∧ k ≤ h ∧ h ≤ c := by
  unfold bnds at hb
  split at hb
  · rename_i h' he
    split at hb
    · rename_i k' hk
      split at hb
      · rename_i hh
        cases hb
        exact ⟨bounds_ok hk he hl hr hh.1 (by omega), hh⟩
      · cases hb
    · cases hb
  · cases hb
theorem opSlice_ok {t : TypeId} {x : AV} {x' : Value} {lo hi mx : Option AV} {lo' hi' mx' : Option Value} {v : AV} (h : opSlice P t x lo hi mx = some v) (hx : VR ρ x x') (hl : VRO ρ lo lo') (hr : VRO ρ hi hi') (hm : VRO ρ mx mx') :
    ∃ v', (Instr.sliceAt t x' lo' hi' mx').run P w = .ok v' w ∧ VR ρ v v' := by
  unfold opSlice at h
  split at h
  · cases h
  · cases hm
    split at h
    · rename_i l hu
      split at h
      · rename_i k hh hb
        cases h
        cases hx with
        | str _ hlt =>
        obtain ⟨hb1, hb2, hb3⟩ := bnds_ok (P := P) (w := w) (b := false) hb (Nat.le_refl _) hl hr
        refine ⟨.string ((⟨(l.map UInt8.ofNat).toArray⟩ : ByteArray).extract k hh), ?_, ?_⟩
        · simp only [Instr.sliceAt, Instr.slice, Sem.run_bind, run_underlying hu, Result.andThen_ok, Option.isSome_none, Bool.false_eq_true, if_false, Sem.run_pure, str_size, hb1]
        · have e : (⟨(l.map UInt8.ofNat).toArray⟩ : ByteArray).extract k hh = ⟨(((l.take hh).drop k).map UInt8.ofNat).toArray⟩ := by
            apply ByteArray.ext
            rw [ByteArray.data_extract]
            apply Array.ext'
            simp only [Array.toList_extract, List.extract_eq_take_drop, List.map_drop, List.map_take]
            rw [List.drop_take]
          rw [e]
          exact .str _ (fun z hz => hlt z (List.mem_of_mem_take (List.mem_of_mem_drop hz)))
      · cases h
    · rename_i e hu
      split at h
      · rename_i kh n hb hs
        cases h
        cases hx
        obtain ⟨k, hh⟩ := kh
        obtain ⟨hb1, hb2, hb3⟩ := bnds_ok (P := P) (w := w) (b := true) hb (Nat.le_refl _) hl hr
        have hk0 : k = 0 := by omega
        have hh0 : hh = 0 := by omega
        subst hk0 hh0
        refine ⟨.slice none 0 0, ?_, .nils⟩
        simp [Instr.sliceAt, Instr.slice, run_underlying hu, hb1, run_szOf hs]
      · cases h
    · rename_i b off len mc es e hu
      split at h
      · rename_i k hh n hb hs
        split at h
        · rename_i hn
          cases h
          subst hn
          cases hx with
          | slice b off len mc es r ad cap hbr k1 k2 k3 =>
          obtain ⟨hb1, hb2, hb3⟩ := bnds_ok (P := P) (w := w) (b := true) hb k2 hl hr
          refine ⟨.slice (some (if cap = k then ad else ad.add (k * n))) (hh - k) (cap - k), ?_, ?_⟩
          · by_cases hck : cap = k
            · subst hck
              simp [Instr.sliceAt, Instr.slice, run_underlying hu, hb1, run_szOf hs]
            · simp [Instr.sliceAt, Instr.slice, run_underlying hu, hb1, run_szOf hs, hck]
          · by_cases hck : cap = k
            · rw [if_pos hck]
              exact .slice b _ _ _ n r ad _ hbr (by omega) (by omega) (.inl (by omega))
            · rw [if_neg hck]
              obtain ⟨had, hfit⟩ := k3.resolve_left (by omega)
              refine .slice b _ _ _ n r _ _ hbr (by omega) (by omega) (.inr ⟨by rw [had, RB.at_add], ?_⟩)
              have : k * n + (cap - k) * n = cap * n := by rw [← Nat.add_mul]; congr 1; omega
              omega
        · cases h
      · cases h
    · cases h
theorem opSliceArr_mono {t : TypeId} {b off : Nat} {lo hi mx : Option AV} {v : AV} (h : opSliceArr P t b off lo hi mx s = some (v, s')) : Mono s s' := by
  unfold opSliceArr at h
  split at h
  · cases h
  · split at h
    · split at h
      · rename_i hbg
        split at h
        · cases h; exact Mono.note _ _ ⟨_, hbg, trivial⟩
        · cases h
      · cases h
    · cases h
theorem opSliceArr_ok {t : TypeId} {b off : Nat} {x' : Value} {lo hi mx : Option AV} {lo' hi' mx' : Option Value} {v : AV} (h : opSliceArr P t b off lo hi mx s = some (v, s')) (hp : Pre ρ T s s' w) (hx : VR ρ (.ptr b off) x') (hl : VRO ρ lo lo') (hr : VRO ρ hi hi') (hm : VRO ρ mx mx') :
    OK1 P (Instr.sliceAt t x' lo' hi' mx') ρ T s w v s' := by
  unfold opSliceArr at h
  split at h
  · cases h
  · cases hm
    split at h
    · rename_i len e hu
      split at h
      · rename_i k hh n t0 cs hb hs hbg
        split at h
        · rename_i hfit
          cases h
          cases hx with
          | ptr b off r hbr =>
          obtain ⟨hb1, hb2, hb3⟩ := bnds_ok (P := P) (w := w) (b := false) hb (Nat.le_refl _) hl hr
          have hT : T b off := hp.cov (.rd b off 1) (List.mem_cons_self ..) (lt_n hp.wf hbg) b off ⟨rfl, Nat.le_refl _, Nat.lt_succ_self _⟩
          obtain ⟨r0, c, fr, q1, q2, q3, q4, q5, q6⟩ := hp.good.sat b _ hbg ⟨off, hT⟩
          replace q4 := q4.1
          have : r0 = r := Option.some.inj (q1.symm.trans hbr)
          subst this
          refine ⟨ρ, w, .slice (some (if len = k then r0.at off else (r0.at off).add (k * n))) (hh - k) (len - k), ?_, Post.same hp.good rfl rfl (Still.refl w), ?_⟩
          · by_cases hck : len = k
            · subst hck
              simp [Instr.sliceAt, Instr.sureAddr, run_underlying hu, hb1, run_szOf hs]
            · simp [Instr.sliceAt, Instr.sureAddr, run_underlying hu, hb1, run_szOf hs, hck]
          · by_cases hck : len = k
            · rw [if_pos hck]
              exact .slice b _ _ _ n r0 _ _ hbr (by omega) (by omega) (.inl (by omega))
            · rw [if_neg hck]
              refine .slice b _ _ _ n r0 _ _ hbr (by omega) (by omega) (.inr ⟨by rw [RB.at_add], ?_⟩)
              have : k * n + (len - k) * n = len * n := by rw [← Nat.add_mul]; congr 1; omega
              omega
        · cases h
      · cases h
    · cases h
theorem opFieldAddr_ok {t : TypeId} {x v : AV} {x' : Value} {f : Nat} (h : opFieldAddr P t x f = some v) (hx : VR ρ x x') : ∃ v', (Instr.fieldAt t x' f).run P w = .ok v' w ∧ VR ρ v v' := by
  unfold opFieldAddr at h
  split at h
  · rename_i fs b off hu
    split at h
    · rename_i fd hfd
      split at h
      · rename_i n hs
        cases h
        cases hx with
        | ptr b off r hbr =>
        refine ⟨_, ?_, .ptr b (off + fd.offset) r hbr⟩
        simp [Instr.fieldAt, run_underlying hu, hfd, Instr.sureAddr, fieldPlace, run_szOf hs, RB.at_add]
      · cases h
    · cases h
  · cases h
theorem opField_ok {t : TypeId} {x v : AV} {x' : Value} {f : Nat} (h : opField P t x f = some v) (hx : VR ρ x x') : ∃ v', (Instr.field t x' f).run P w = .ok v' w ∧ VR ρ v v' := by
  unfold opField at h
  split at h
  · rename_i fs cs hu
    split at h
    · rename_i fd hfd
      cases hx with
      | agg _ cs' hc =>
      obtain ⟨v', h1, h2⟩ := part_ok (P := P) (w := w) h hc
      exact ⟨v', by simp [Instr.field, run_underlying hu, hfd, asAgg, h1], h2⟩
    · cases h
  · cases h
theorem opIndexAddr_ok {t : TypeId} {x i v : AV} {x' i' : Value} (h : opIndexAddr P t x i = some v) (hx : VR ρ x x') (hi : VR ρ i i') : ∃ v', (Instr.indexAt t x' i').run P w = .ok v' w ∧ VR ρ v v' := by
  unfold opIndexAddr at h
  split at h
  · rename_i len e b off k n hu
    split at h
    · rename_i m hs
      split at h
      · rename_i hlt
        cases h
        cases hi
        cases hx with
        | ptr b off r hbr =>
        refine ⟨_, ?_, .ptr b (off + n * m) r hbr⟩
        have hc : (0 : Int) ≤ Int.ofNat n ∧ Int.ofNat n < (len : Int) := ⟨Int.natCast_nonneg n, by show (n : Int) < len; omega⟩
        simp only [Instr.indexAt, asIntOf, Sem.run_bind, Sem.run_pure, Result.andThen_ok, run_underlying hu, Instr.sureAddr, Sem.run_ite, if_pos hc, run_szOf hs, RB.at_add]
        rfl
      · cases h
    · cases h
  · rename_i e b off len mc es k n hu
    split at h
    · rename_i m hs
      split at h
      · rename_i hlt
        cases h
        cases hi
        cases hx with
        | slice b off len mc es r ad cap hbr k1 k2 k3 =>
        obtain ⟨had, hfit⟩ := k3.resolve_left (by omega)
        refine ⟨_, ?_, .ptr b (off + n * m) r hbr⟩
        have hc : (0 : Int) ≤ Int.ofNat n ∧ Int.ofNat n < (len : Int) := ⟨Int.natCast_nonneg n, by show (n : Int) < len; omega⟩
        simp only [Instr.indexAt, asIntOf, Sem.run_bind, Sem.run_pure, Result.andThen_ok, run_underlying hu, Sem.run_ite, if_pos hc, run_szOf hs, had, RB.at_add]
        rfl
      · cases h
    · cases h
  · cases h
theorem ba_get (ba : ByteArray) (n : Nat) : ba[n]? = ba.data[n]? := by
  by_cases h : n < ba.size
  · rw [getElem?_pos ba n h, Array.getElem?_eq_getElem (show n < ba.data.size from h)]; rfl
  · rw [getElem?_neg ba n h, Array.getElem?_eq_none (Nat.not_lt.1 h)]
theorem opIndex_ok {t : TypeId} {x i v : AV} {x' i' : Value} (h : opIndex P t x i = some v) (hx : VR ρ x x') (hi : VR ρ i i') : ∃ v', (Instr.index t x' i').run P w = .ok v' w ∧ VR ρ v v' := by
  unfold opIndex at h
  split at h
  · rename_i l k n hu
    split at h
    · rename_i m hm
      cases h
      cases hi
      cases hx with
      | str _ hlt =>
      refine ⟨_, ?_, .int _ _⟩
      have hc : (0 : Int) ≤ Int.ofNat n := Int.natCast_nonneg n
      have hg : (⟨(l.map UInt8.ofNat).toArray⟩ : ByteArray)[n]? = some (UInt8.ofNat m) := by
        rw [ba_get]
        simp [hm]
      have hmm := hlt m (List.mem_of_getElem? hm)
      have e : (UInt8.ofNat m).toNat = m := by simp; omega
      simp only [Instr.index, asIntOf, Sem.run_bind, Sem.run_pure, Result.andThen_ok, run_underlying hu, if_pos hc]
      show (match (⟨(l.map UInt8.ofNat).toArray⟩ : ByteArray)[n]? with
        | some b => (Pure.pure (.int .u8 b.toNat) : Sem Value)
        | none => boundsPanic k n _ .index).run P w = _
      rw [hg]
      simp only [Sem.run_pure, e]
      rfl
    · cases h
  · rename_i len e cs k n hu
    split at h
    · rename_i m hs
      split at h
      · rename_i hlt
        cases hi
        cases hx with
        | agg _ cs' hc =>
        obtain ⟨v', h1, h2⟩ := part_ok (P := P) (w := w) h hc
        refine ⟨v', ?_, h2⟩
        have hc : (0 : Int) ≤ Int.ofNat n ∧ Int.ofNat n < (len : Int) := ⟨Int.natCast_nonneg n, by show (n : Int) < len; omega⟩
        simp only [Instr.index, asIntOf, Sem.run_bind, Sem.run_pure, Result.andThen_ok, run_underlying hu, Sem.run_ite, if_pos hc, run_szOf hs]
        exact h1
      · cases h
    · cases h
  · cases h
theorem opAssert_ok {x v : AV} {x' : Value} {tx t : TypeId} {ok : Bool} (h : opAssert P x t ok = some v) (hx : VR ρ x x') : ∃ v', (Instr.typeAssert x' tx t ok).run P w = .ok v' w ∧ VR ρ v v' := by
  unfold opAssert at h
  split at h
  · cases h
  · rename_i d hd hu
    split at h
    · rename_i hok
      split at h
      · rename_i z hz
        cases h
        cases hx
        subst hok
        obtain ⟨zv, h1, _, h3⟩ := run_zero (ρ := ρ) hz w
        refine ⟨.tuple #[zv, .bool false], ?_, .tuple _ _ (.cons _ _ _ _ h3 (.cons _ _ _ _ (.bool _) .nil))⟩
        cases d <;> first | (simp [Instr.typeAssert, run_underlying hu, h1]; done) | exact absurd rfl (hd _)
      · cases h
    · cases h
  · rename_i d u a hd hu
    cases hx with
    | iface _ _ a' ha =>
    split at h
    · rename_i hut
      subst hut
      cases h
      refine ⟨if ok then .tuple #[a', .bool true] else a', ?_, ?_⟩
      · cases d <;> first | (simp [Instr.typeAssert, run_underlying hu]; done) | exact absurd rfl (hd _)
      · cases ok
        · exact ha
        · exact .tuple _ _ (.cons _ _ _ _ ha (.cons _ _ _ _ (.bool _) .nil))
    · rename_i hut
      split at h
      · rename_i hok
        split at h
        · rename_i z hz
          cases h
          subst hok
          obtain ⟨zv, h1, _, h3⟩ := run_zero (ρ := ρ) hz w
          refine ⟨.tuple #[zv, .bool false], ?_, .tuple _ _ (.cons _ _ _ _ h3 (.cons _ _ _ _ (.bool _) .nil))⟩
          cases d <;> first | (simp [Instr.typeAssert, run_underlying hu, h1, hut]; done) | exact absurd rfl (hd _)
        · cases h
      · cases h
  · cases h
end
end Go.Proofs.YtmabpnmnppfgaaaGreatDoor.Rk
namespace Go.Proofs.YtmabpnmnppfgaaaGreatDoor.Rk
open Go
set_option linter.unusedVariables false
def MR (ρ : Env) (es : List ME) (l : List MapEntry) : Prop := VRL ρ (es.map (·.k)) (l.map (·.key)) ∧ VRL ρ (es.map (·.v)) (l.map (·.val)) ∧ es.map (·.born) = l.map (·.born)
theorem MR.nil {ρ : Env} : MR ρ [] [] := ⟨.nil, .nil, rfl⟩
theorem MR.cons {ρ : Env} {e : ME} {e' : MapEntry} {es : List ME} {l : List MapEntry} (h1 : VR ρ e.k e'.key) (h2 : VR ρ e.v e'.val) (h3 : e.born = e'.born) (h : MR ρ es l) : MR ρ (e :: es) (e' :: l) :=
  ⟨.cons _ _ _ _ h1 h.1, .cons _ _ _ _ h2 h.2.1, by simp [h3, h.2.2]⟩
theorem MR.inv {ρ : Env} {e : ME} {es : List ME} {l : List MapEntry} (h : MR ρ (e :: es) l) : ∃ e' l', l = e' :: l' ∧ VR ρ e.k e'.key ∧ VR ρ e.v e'.val ∧ e.born = e'.born ∧ MR ρ es l' := by
  obtain ⟨h1, h2, h3⟩ := h
  cases l with
  | nil => cases h1
  | cons e' l' =>
    simp only [List.map_cons] at h1 h2 h3
    cases h1 with
    | cons _ _ _ _ a b => cases h2 with
      | cons _ _ _ _ c d =>
        simp only [List.cons.injEq] at h3
        exact ⟨e', l', rfl, a, c, h3.1, b, d, h3.2⟩
theorem MR.inv_nil {ρ : Env} {l : List MapEntry} (h : MR ρ [] l) : l = [] := by
  cases l with
  | nil => rfl
  | cons e l => cases h.1
theorem MR.len {ρ : Env} {es : List ME} {l : List MapEntry} (h : MR ρ es l) : l.length = es.length := by
  have := h.1.length
  simpa using this
theorem MR.filter {ρ : Env} (p : Nat → Bool) : ∀ {es : List ME} {l : List MapEntry}, MR ρ es l → MR ρ (es.filter fun e => p e.born) (l.filter fun e => p e.born)
  | [], l, h => by rw [h.inv_nil]; exact .nil
  | e :: es, l, h => by
    obtain ⟨e', l', rfl, h1, h2, h3, h4⟩ := h.inv
    have ih := MR.filter p h4
    rw [List.filter_cons, List.filter_cons, h3]
    cases p e'.born
    · simpa using ih
    · simpa using ih.cons h1 h2 h3
theorem MR.any {ρ : Env} (p : Nat → Bool) {es : List ME} {l : List MapEntry} (h : MR ρ es l) : es.any (fun e => p e.born) = l.any (fun e => p e.born) := by
  have e1 : es.any (fun e => p e.born) = (es.map (·.born)).any p := by rw [List.any_map]; rfl
  have e2 : l.any (fun e => p e.born) = (l.map (·.born)).any p := by rw [List.any_map]; rfl
  rw [e1, e2, h.2.2]
theorem MR.append {ρ : Env} : ∀ {es : List ME} {l : List MapEntry} {e : ME} {e' : MapEntry}, MR ρ es l → VR ρ e.k e'.key → VR ρ e.v e'.val → e.born = e'.born → MR ρ (es ++ [e]) (l ++ [e'])
  | [], l, e, e', h, h1, h2, h3 => by rw [h.inv_nil]; exact .cons h1 h2 h3 .nil
  | x :: es, l, e, e', h, h1, h2, h3 => by
    obtain ⟨x', l', rfl, g1, g2, g3, g4⟩ := h.inv
    exact .cons g1 g2 g3 (MR.append g4 h1 h2 h3)
theorem MR.modify {ρ : Env} {x : AV} {x' k' : Value} (hx : VR ρ x x') : ∀ {es : List ME} {l : List MapEntry} (i : Nat), MR ρ es l → (∀ e', l[i]? = some e' → e'.key = k') → MR ρ (es.modify i fun e => { e with v := x }) (l.modify i fun e => { e with key := k', val := x' })
  | [], l, i, h, _ => by rw [h.inv_nil]; simpa using MR.nil
  | e :: es, l, 0, h, hk => by
    obtain ⟨e', l', rfl, g1, g2, g3, g4⟩ := h.inv
    have := hk e' rfl
    simp only [List.modify_zero_cons]
    exact .cons (by rw [← this]; exact g1) hx g3 g4
  | e :: es, l, i + 1, h, hk => by
    obtain ⟨e', l', rfl, g1, g2, g3, g4⟩ := h.inv
    simp only [List.modify_succ_cons]
    exact .cons g1 g2 g3 (MR.modify hx i g4 (fun y hy => hk y (by simpa using hy)))
section
variable {P : Program} {ρ : Env} {T : Nat → Nat → Prop} {s s' : St} {w w' : World}
theorem ba_beq (l k : List Nat) (hl : ∀ x ∈ l, x < 256) (hk : ∀ x ∈ k, x < 256) : ((⟨(l.map UInt8.ofNat).toArray⟩ : ByteArray) == ⟨(k.map UInt8.ofNat).toArray⟩) = decide (l = k) := by
  show ((l.map UInt8.ofNat).toArray == (k.map UInt8.ofNat).toArray) = decide (l = k)
  rw [Bool.eq_iff_iff]
  simp [map_ofNat_inj hl hk]
theorem run_array1 {t e : TypeId} {x y : Value} {xs ys : Array Value} {n : Nat} {b : Bool} (hu : P.underlying t = some (.array 1 e)) (hs : szOf P e = some 1) (hx : (part e xs 0).run P w = .ok x w) (hy : (part e ys 0).run P w = .ok y w) (h : (Op.equalIn n e x y).run P w = .ok b w) :
    (Op.equalIn (n + 1) t (.agg xs) (.agg ys)).run P w = .ok b w := by
  conv => lhs; unfold Op.equalIn
  simp only [Sem.run_bind, run_underlying hu, Result.andThen_ok, run_szOf hs]
  simp only [Std.Legacy.Range.forIn_eq_forIn_range', Std.Legacy.Range.size, Nat.sub_zero, Nat.add_one_sub_one, Nat.div_one]
  simp only [List.range'_succ, List.range'_zero, List.forIn_cons, List.forIn_nil, Nat.zero_mul, Sem.run_bind, hx, hy, h, Result.andThen_ok]
  cases b <;> simp
theorem cellOk_noagg {d : TypeDesc} {a : List AV} (h : cellOk d (.agg a) = true) : False := by cases d <;> cases h
theorem same_cell {d : TypeDesc} {k : AV} {k' : Value} (hk : cellOk d k = true) (hkk : VR ρ k k') : ∀ n, Instr.sameBits n k' k' = true := by
  intro n
  cases hkk <;> first | (cases d <;> cases hk; done) | skip
  · cases n <;> simp [Instr.sameBits]
  · cases n <;> simp [Instr.sameBits]
  · rename_i lk hlk
    have := ba_beq lk lk hlk hlk
    cases n <;> simp [Instr.sameBits, this]
theorem same_cells (n : Nat) : ∀ {fs : List Field} {cs : List AV} {i : Nat} {cs' : List Value}, cellsOk P fs cs i = true → VRL ρ cs cs' → ((cs'.zip cs').all fun (x, y) => Instr.sameBits n x y) = true
  | [], [], i, cs', hk, hx => by cases hx; rfl
  | [], _ :: _, i, cs', hk, hx => by cases hk
  | _ :: _, [], i, cs', hk, hx => by cases hk
  | f :: fs, c :: cs, i, cs', hk, hx => by
    cases hx with
    | cons _ v _ vs g1 g2 =>
      simp only [cellsOk, Bool.and_eq_true, bne_iff_ne, ne_eq, decide_eq_true_eq] at hk
      obtain ⟨⟨⟨k1, k2⟩, k3⟩, k4⟩ := hk
      cases hu : P.underlying f.type with
      | none => rw [hu] at k3; cases k3
      | some d =>
        rw [hu] at k3
        simp only [List.zip_cons_cons, List.all_cons, Bool.and_eq_true]
        exact ⟨same_cell k3 g1 n, same_cells n k4 g2⟩
theorem same_key {kt : TypeId} {d : TypeDesc} {k : AV} {k' : Value} (hk : keyOk P kt d k = true) (hkk : VR ρ k k') : Instr.sameBits 10000 k' k' = true := by
  unfold keyOk at hk
  split at hk
  · simp only [Bool.and_eq_true, Bool.not_eq_true'] at hk
    cases hkk with
    | agg _ xs hx =>
    show (xs.size == xs.size && (xs.toList.zip xs.toList).all fun (x, y) => Instr.sameBits 9999 x y) = true
    rw [same_cells 9999 hk.2 hx]
    simp
  · rename_i el c
    simp only [Bool.and_eq_true, decide_eq_true_eq] at hk
    cases hu : P.underlying el with
    | none => rw [hu] at hk; cases hk.2
    | some de =>
      rw [hu] at hk
      cases hkk with
      | agg _ xs hx =>
      show (xs.size == xs.size && (xs.toList.zip xs.toList).all fun (x, y) => Instr.sameBits 9999 x y) = true
      generalize xs.toList = xl at hx
      cases hx with
      | cons _ v _ vs a b =>
        cases b
        simp [same_cell hk.2 a 9999]
  · exact same_cell hk hkk _
theorem keyEq_run {kt : TypeId} {d : TypeDesc} {k y : AV} {k' y' : Value} {b : Bool} (hd : P.underlying kt = some d) (hk : keyOk P kt d k = true) (h : keyEq k y = some b) (hkk : VR ρ k k') (hy : VR ρ y y') (w : World) :
    (Op.equal kt k' y').run P w = .ok b w ∧ (Instr.sameNow d k' y' = some b ∨ Instr.sameNow d k' y' = none) ∧ (b = true → y' = k') := by
  show (Op.equalIn (9998 + 2) kt k' y').run P w = .ok b w ∧ _
  unfold keyEq at h
  split at h
  · rename_i a c
    cases hkk with
    | agg _ xs hx1 => cases hy with
      | agg _ ys hy1 =>
        have hn : Instr.sameNow d (.agg xs) (.agg ys) = none := by cases d <;> rfl
        refine (fun ⟨h1, h2⟩ => ⟨h1, .inr hn, h2⟩ : (_ ∧ _) → _) ?_
        unfold keyOk at hk
        split at hk
        · rename_i fs cs he
          cases he
          simp only [Bool.and_eq_true, Bool.not_eq_true'] at hk
          obtain ⟨h1, h2⟩ := run_structEq (n := 9998) hd hk.1 hk.2 h hx1 hy1 w
          exact ⟨h1, fun h => by rw [h2 h]⟩
        · rename_i e cc he
          cases he
          simp only [Bool.and_eq_true, decide_eq_true_eq] at hk
          cases hu : P.underlying e with
          | none => rw [hu] at hk; cases hk.2
          | some de =>
            rw [hu] at hk
            cases c with
            | nil => cases h
            | cons c2 c3 =>
              obtain ⟨x1, xr, ex, g1, g2⟩ : ∃ x1 xr, xs.toList = x1 :: xr ∧ VR ρ cc x1 ∧ VRL ρ [] xr := by
                generalize xs.toList = xl at hx1
                cases hx1 with
                | cons _ v _ vs a b => exact ⟨v, vs, rfl, a, b⟩
              obtain ⟨y1, yr, ey, q1, q2⟩ : ∃ y1 yr, ys.toList = y1 :: yr ∧ VR ρ c2 y1 ∧ VRL ρ c3 yr := by
                generalize ys.toList = yl at hy1
                cases hy1 with
                | cons _ v _ vs a b => exact ⟨v, vs, rfl, a, b⟩
              have p1 := part_cell hu (cellOk_agg hk.2) (show xs[0]? = some x1 by rw [← Array.getElem?_toList, ex]; rfl) w
              have p2 := part_cell hu (cellOk_agg hk.2) (show ys[0]? = some y1 by rw [← Array.getElem?_toList, ey]; rfl) w
              unfold cellsEq at h
              cases hc : cellEq cc c2 with
              | none => rw [hc] at h; cases h
              | some b0 =>
                rw [hc] at h
                obtain ⟨r1, _, r2⟩ := cellEq_ok (n := 9998) hu hk.2 hc g1 q1 w
                have hr := run_array1 hd hk.1 p1 p2 r1
                cases b0 with
                | false => cases h; exact ⟨hr, fun h => by cases h⟩
                | true =>
                  cases c3 with
                  | cons _ _ => cases h
                  | nil =>
                    cases h
                    refine ⟨hr, fun _ => ?_⟩
                    cases g2
                    cases q2
                    have : ys = xs := Array.ext' (by rw [ex, ey, r2 rfl])
                    rw [this]
        · exact (cellOk_noagg hk).elim
  · rename_i hn
    have hkc : cellOk d k = true := by
      unfold keyOk at hk
      split at hk
      · unfold cellEq at h
        split at h <;> first | (cases h; done) | cases ‹AV.agg _ = _›
      · unfold cellEq at h
        split at h <;> first | (cases h; done) | cases ‹AV.agg _ = _›
      · exact hk
    obtain ⟨h1, h2, h3⟩ := cellEq_ok (n := 9999) hd hkc h hkk hy w
    exact ⟨h1, .inl h2, h3⟩
def Fnd (P : Program) (w : World) (kt : TypeId) (d : TypeDesc) (k' : Value) (l : List MapEntry) (i : Nat) (q : Option (Nat × Value)) : Prop := (Instr.findAsking kt k' l i).run P w = .ok q w ∧ (Instr.findNow d k' l i = some q ∨ Instr.findNow d k' l i = none)
theorem findK_ok {kt : TypeId} {d : TypeDesc} {k : AV} {k' : Value} (hd : P.underlying kt = some d) (hk : keyOk P kt d k = true) (hkk : VR ρ k k') (w : World) : ∀ {es : List ME} {l : List MapEntry} (i : Nat) {r : Option (Nat × AV)}, MR ρ es l → findK k es i = some r →
    (r = none ∧ Fnd P w kt d k' l i none) ∨ ∃ j v e', r = some (j, v) ∧ i ≤ j ∧ l[j - i]? = some e' ∧ Fnd P w kt d k' l i (some (j, e'.val)) ∧ e'.key = k' ∧ VR ρ v e'.val
  | [], l, i, r, h, hf => by
    simp [findK] at hf
    subst hf
    rw [h.inv_nil]
    exact .inl ⟨rfl, rfl, .inl rfl⟩
  | e :: es, l, i, r, h, hf => by
    obtain ⟨e', l', rfl, g1, g2, g3, g4⟩ := h.inv
    unfold findK at hf
    split at hf
    · rename_i hb
      cases hf
      obtain ⟨h1, h2, h3⟩ := keyEq_run hd hk hb hkk g1 w
      refine .inr ⟨i, e.v, e', rfl, Nat.le_refl _, by simp, ⟨by simp [Instr.findAsking, h1], ?_⟩, h3 rfl, g2⟩
      rcases h2 with h2 | h2
      · exact .inl (by simp [Instr.findNow, h2])
      · exact .inr (by simp [Instr.findNow, h2])
    · rename_i hb
      obtain ⟨h1, h2, _⟩ := keyEq_run hd hk hb hkk g1 w
      have hgo : ∀ q, Fnd P w kt d k' l' (i + 1) q → Fnd P w kt d k' (e' :: l') i q := fun q ⟨a1, a2⟩ => ⟨by simp [Instr.findAsking, h1, a1], by
        rcases h2 with h2 | h2
        · simpa [Instr.findNow, h2] using a2
        · exact .inr (by simp [Instr.findNow, h2])⟩
      rcases findK_ok hd hk hkk w (i + 1) g4 hf with ⟨h2, h3⟩ | ⟨j, v, x, h2, h3, h4, h5, h6, h7⟩
      · exact .inl ⟨h2, hgo _ h3⟩
      · refine .inr ⟨j, v, x, h2, by omega, ?_, hgo _ h5, h6, h7⟩
        rw [show j - i = (j - (i + 1)) + 1 by omega, List.getElem?_cons_succ]
        exact h4
    · cases hf
theorem ck_cell {t : TypeId} {d : TypeDesc} {k : AV} {k' : Value} {n : Nat} (hd : P.underlying t = some d) (hk : cellOk d k = true) (hkk : VR ρ k k') (e : Bool) (w : World) : (Instr.checkKey e (n + 1) t k').run P w = .ok () w := by
  conv => lhs; unfold Instr.checkKey
  rw [Sem.run_bind, run_underlying hd]
  cases d <;> simp [cellOk] at hk <;> cases hkk <;> first | rfl | simp at hk
theorem ck_cells {n : Nat} {xs : Array Value} (e : Bool) (w : World) : ∀ {fs : List Field} {cs : List AV} {i : Nat} {cs' : List Value}, cellsOk P fs cs i = true → VRL ρ cs cs' → (∀ j v, cs'[j]? = some v → xs[i + j]? = some v) →
    (forIn (m := Sem) fs PUnit.unit (fun f (_ : PUnit) => if f.name ≠ "_" then do let v ← part f.type xs f.offset; Instr.checkKey e (n + 1) f.type v; pure (ForInStep.yield PUnit.unit) else pure (ForInStep.yield PUnit.unit))).run P w = .ok PUnit.unit w
  | [], [], i, cs', hk, hx, h1 => rfl
  | [], _ :: _, i, cs', hk, hx, h1 => by cases hk
  | _ :: _, [], i, cs', hk, hx, h1 => by cases hk
  | f :: fs, c :: cs, i, cs', hk, hx, h1 => by
    cases hx with
    | cons _ v _ vs g1 g2 =>
      simp only [cellsOk, Bool.and_eq_true, bne_iff_ne, ne_eq, decide_eq_true_eq] at hk
      obtain ⟨⟨⟨k1, k2⟩, k3⟩, k4⟩ := hk
      cases hu : P.underlying f.type with
      | none => rw [hu] at k3; cases k3
      | some d =>
        rw [hu] at k3
        have p1 := part_cell hu (cellOk_agg k3) (h1 0 v rfl) w
        rw [Nat.add_zero] at p1
        have ih := ck_cells (n := n) e w k4 g2 (fun j v hv => by rw [show i + 1 + j = i + (j + 1) by omega]; exact h1 (j + 1) v (by simpa using hv))
        rw [List.forIn_cons, if_pos k1, k2]
        simp only [Sem.run_bind, p1, Result.andThen_ok, ck_cell hu k3 g1 e w, Sem.run_pure]
        exact ih
theorem run_ck {d : TypeDesc} {kt : TypeId} {k : AV} {k' : Value} (hd : P.underlying kt = some d) (hk : keyOk P kt d k = true) (hkk : VR ρ k k') (e : Bool) (w : World) : (Instr.checkKey e 10000 kt k').run P w = .ok () w := by
  unfold keyOk at hk
  split at hk
  · rename_i fs cs
    simp only [Bool.and_eq_true, Bool.not_eq_true'] at hk
    cases hkk with
    | agg _ xs hx =>
    show (Instr.checkKey e (9998 + 1 + 1) kt (.agg xs)).run P w = .ok () w
    conv => lhs; unfold Instr.checkKey
    rw [Sem.run_bind, run_underlying hd]
    simp only [Result.andThen_ok]
    rw [← Array.forIn_toList]
    rw [Sem.run_bind]
    have := ck_cells (n := 9998) e w hk.2 hx (fun j v hv => by simpa using hv)
    rw [this]
    rfl
  · rename_i el c
    simp only [Bool.and_eq_true, decide_eq_true_eq] at hk
    cases hu : P.underlying el with
    | none => rw [hu] at hk; cases hk.2
    | some de =>
      rw [hu] at hk
      cases hkk with
      | agg _ xs hx =>
      obtain ⟨x1, xr, ex, g1, g2⟩ : ∃ x1 xr, xs.toList = x1 :: xr ∧ VR ρ c x1 ∧ VRL ρ [] xr := by
        generalize xs.toList = xl at hx
        cases hx with
        | cons _ v _ vs a b => exact ⟨v, vs, rfl, a, b⟩
      have p1 := part_cell hu (cellOk_agg hk.2) (show xs[0]? = some x1 by rw [← Array.getElem?_toList, ex]; rfl) w
      show (Instr.checkKey e (9998 + 1 + 1) kt (.agg xs)).run P w = .ok () w
      conv => lhs; unfold Instr.checkKey
      simp only [Sem.run_bind, run_underlying hd, Result.andThen_ok]
      simp only [Std.Legacy.Range.forIn_eq_forIn_range', Std.Legacy.Range.size, Nat.sub_zero, Nat.add_one_sub_one, Nat.div_one]
      simp [List.range'_succ, List.range'_zero, List.forIn_cons, List.forIn_nil, run_szOf hk.1, p1, ck_cell hu hk.2 g1 e w]
  · exact ck_cell hd hk hkk e w
theorem run_fk {d : TypeDesc} {kt : TypeId} {k' : Value} {l : List MapEntry} {r : Option (Nat × Value)} (hd : P.underlying kt = some d) (h : Fnd P w kt d k' l 0 r) : (Instr.findKey kt k' l).run P w = .ok r w := by
  obtain ⟨h1, h2⟩ := h
  rcases h2 with h2 | h2
  · simp [Instr.findKey, run_underlying hd, h2]
  · simp [Instr.findKey, run_underlying hd, h2, h1]
theorem mapA_mono {x : AV} {es : List ME} {s1 : St} (h : mapA x s = some (es, s1)) : Mono s s1 ∧ s1.heap = s.heap ∧ s1.n = s.n := by
  unfold mapA at h
  split at h
  · cases h; exact ⟨Mono.refl _, rfl, rfl⟩
  · split at h
    · rename_i hb
      cases h; exact ⟨Mono.note _ _ ⟨_, hb, trivial⟩, rfl, rfl⟩
    · cases h
  · cases h
theorem mapA_ok {x : AV} {x' : Value} {es : List ME} {s1 : St} (h : mapA x s = some (es, s1)) (hp : Pre ρ T s s1 w) (hx : VR ρ x x') :
    (x' = .map none ∧ es = []) ∨ ∃ r l clock, x' = .map (some r) ∧ w.heap[r]? = some (.map l clock) ∧ MR ρ es l.toList := by
  unfold mapA at h
  split at h
  · cases h; cases hx; exact .inl ⟨rfl, rfl⟩
  · rename_i b
    split at h
    · rename_i es0 clock hb
      cases h
      cases hx with
      | map b r hbr =>
      have hT : T b 0 := hp.cov (.rd b 0 1) (List.mem_cons_self ..) (lt_n hp.wf hb) b 0 ⟨rfl, Nat.le_refl _, Nat.one_pos⟩
      obtain ⟨r0, l, q1, q2, q3⟩ := hp.good.sat b _ hb ⟨0, hT⟩
      have : r0 = r := Option.some.inj (q1.symm.trans hbr)
      subst this
      exact .inr ⟨r0.blk, l, clock, rfl, q2, q3⟩
    · cases h
  · cases h
theorem opLookup_mono {t : TypeId} {x i v : AV} {ok : Bool} (h : opLookup P t x i ok s = some (v, s')) : Mono s s' := by
  unfold opLookup at h
  split at h
  · split at h
    · rename_i hm
      obtain ⟨h1, h2, h3⟩ := mapA_mono hm
      split at h
      · split at h
        · cases h; exact h1
        · split at h
          · cases h; exact h1
          · cases h
        · cases h
      · cases h
    · cases h
  · cases h
theorem opLookup_ok {t : TypeId} {x i v : AV} {x' i' : Value} {ok : Bool} (h : opLookup P t x i ok s = some (v, s')) (hp : Pre ρ T s s' w) (hx : VR ρ x x') (hi : VR ρ i i') : OK1 P (Instr.lookup t x' i' ok) ρ T s w v s' := by
  unfold opLookup at h
  split at h
  · rename_i kt e hu
    split at h
    · rename_i d es s1 hd hm
      obtain ⟨m1, m2, m3⟩ := mapA_mono hm
      split at h
      · rename_i hk
        have hs1 : s1 = s' := by
          split at h
          · cases h; rfl
          · split at h
            · cases h; rfl
            · cases h
          · cases h
        subst hs1
        have hpost : Post ρ T s w ρ s1 w := Post.same hp.good m2 m3 (Still.refl w)
        have hes : ∃ l : Array MapEntry, MR ρ es l.toList ∧ ((x' = .map none ∧ l = #[]) ∨ ∃ r clock, x' = .map (some r) ∧ w.heap[r]? = some (.map l clock)) := by
          rcases mapA_ok hm hp hx with ⟨rfl, rfl⟩ | ⟨r, l, clock, rfl, h2, h3⟩
          · exact ⟨#[], MR.nil, .inl ⟨rfl, rfl⟩⟩
          · exact ⟨l, h3, .inr ⟨r, clock, rfl, h2⟩⟩
        obtain ⟨l, hmr, hx'⟩ := hes
        split at h
        · rename_i j v0 hf
          cases h
          rcases findK_ok hd hk hi w 0 hmr hf with ⟨h2, _⟩ | ⟨j', v', e', h2, h3, h4, h5, h6, h7⟩
          · cases h2
          · cases h2
            refine ⟨ρ, w, if ok then .tuple #[e'.val, .bool true] else e'.val, ?_, hpost, ?_⟩
            · rcases hx' with ⟨rfl, rfl⟩ | ⟨r, clock, rfl, hr⟩
              · simp at h4
              · unfold Instr.lookup
                simp only [Sem.run_bind, run_underlying hu, Result.andThen_ok, MapKept.run_getObj_map hr, Sem.run_pure, run_ck hd hk hi, run_fk hd h5]
            · cases ok
              · exact h7
              · exact .tuple _ _ (.cons _ _ _ _ h7 (.cons _ _ _ _ (.bool _) .nil))
        · rename_i hf
          split at h
          · rename_i z hz
            cases h
            obtain ⟨zv, hz1, _, hz3⟩ := run_zero (ρ := ρ) hz w
            rcases findK_ok hd hk hi w 0 hmr hf with ⟨_, h3⟩ | ⟨j', v', e', h2, _⟩
            · refine ⟨ρ, w, if ok then .tuple #[zv, .bool false] else zv, ?_, hpost, ?_⟩
              · rcases hx' with ⟨rfl, rfl⟩ | ⟨r, clock, rfl, hr⟩
                · unfold Instr.lookup
                  simp only [Sem.run_bind, run_underlying hu, Result.andThen_ok, Sem.run_pure, run_ck hd hk hi, run_fk hd h3, hz1]
                · unfold Instr.lookup
                  simp only [Sem.run_bind, run_underlying hu, Result.andThen_ok, MapKept.run_getObj_map hr, Sem.run_pure, run_ck hd hk hi, run_fk hd h3, hz1]
              · cases ok
                · exact hz3
                · exact .tuple _ _ (.cons _ _ _ _ hz3 (.cons _ _ _ _ (.bool _) .nil))
            · cases h2
          · cases h
        · cases h
      · cases h
    · cases h
  · cases h
theorem pmapOf_inv {x : AV} {b : Nat} {es : List ME} (h : pmapOf x s = some (b, es)) : x = .map b ∧ s.heap.get b = some (.pmap es) := by
  unfold pmapOf at h
  split at h
  · split at h
    · rename_i hb
      cases h
      exact ⟨rfl, hb⟩
    · cases h
  · cases h
theorem opLookupP_log {t : TypeId} {b : Nat} {es : List ME} {i v : AV} {ok : Bool} (h : opLookupP P t b es i ok s = some (v, s')) : s' = s.note (.rd b 0 1) := by
  unfold opLookupP at h
  split at h
  · split at h
    · split at h
      · split at h
        · cases h; rfl
        · split at h
          · cases h; rfl
          · cases h
        · cases h
      · cases h
    · cases h
  · cases h
theorem opLookupP_mono {t : TypeId} {x : AV} {b : Nat} {es : List ME} {i v : AV} {ok : Bool} (hx : pmapOf x s = some (b, es)) (h : opLookupP P t b es i ok s = some (v, s')) : Mono s s' := by
  rw [opLookupP_log h]
  exact Mono.note _ _ ⟨_, (pmapOf_inv hx).2, trivial⟩
theorem findK_all {k : AV} : ∀ {es : List ME} (i : Nat), (es.all fun e => (keyEq k e.k).isSome) = true → ∃ r, findK k es i = some r ∧ r.map (·.2) = ((es.filter fun e => keyEq k e.k == some true).head?).map (·.v)
  | [], i, _ => ⟨none, rfl, rfl⟩
  | e :: es, i, h => by
    simp only [List.all_cons, Bool.and_eq_true] at h
    cases he : keyEq k e.k with
    | none => rw [he] at h; cases h.1
    | some b =>
      unfold findK
      simp only [he]
      cases b with
      | true => exact ⟨_, rfl, by simp [he]⟩
      | false =>
        obtain ⟨r, h1, h2⟩ := findK_all (i + 1) h.2
        exact ⟨r, h1, by rw [h2]; simp [he]⟩
theorem lookP_perm {k : AV} {es el : List ME} {r : Option AV} (h : lookP k es = some r) (hp : List.Perm el es) : ∃ q, findK k el 0 = some q ∧ q.map (·.2) = r := by
  unfold lookP at h
  split at h
  · rename_i ha
    have ha' : (el.all fun e => (keyEq k e.k).isSome) = true := by
      rw [List.all_eq_true] at ha ⊢
      exact fun x hx => ha x (hp.mem_iff.1 hx)
    obtain ⟨q, h1, h2⟩ := findK_all 0 ha'
    have hf := hp.filter (fun e => keyEq k e.k == some true)
    refine ⟨q, h1, ?_⟩
    rw [h2]
    split at h
    · rename_i hn
      cases h
      rw [hn] at hf
      rw [hf.eq_nil]
      rfl
    · rename_i e hn
      cases h
      rw [hn] at hf
      rw [List.perm_singleton.1 hf]
      rfl
    · cases h
  · cases h
theorem MR.stamped {ρ : Env} : ∀ {el : List ME} {l : List MapEntry}, VRL ρ (el.map (·.k)) (l.map (·.key)) → VRL ρ (el.map (·.v)) (l.map (·.val)) → ∃ el', MR ρ el' l ∧ ∀ k i, (findK k el' i).map (·.map (·.2)) = (findK k el i).map (·.map (·.2))
  | [], [], _, _ => ⟨[], .nil, fun _ _ => rfl⟩
  | [], _ :: _, h, _ => by cases h
  | _ :: _, [], h, _ => by cases h
  | e :: el, x :: l, h1, h2 => by
    simp only [List.map_cons] at h1 h2
    cases h1 with
    | cons _ _ _ _ a b => cases h2 with
      | cons _ _ _ _ c d =>
        obtain ⟨el', g1, g2⟩ := MR.stamped b d
        refine ⟨⟨e.k, e.v, x.born⟩ :: el', g1.cons a c rfl, fun k i => ?_⟩
        unfold findK
        cases keyEq k e.k with
        | none => rfl
        | some b => cases b <;> first | rfl | exact g2 k (i + 1)
theorem opLookupP_ok {t : TypeId} {x : AV} {b : Nat} {es : List ME} {i v : AV} {x' i' : Value} {ok : Bool} (hx0 : pmapOf x s = some (b, es)) (h : opLookupP P t b es i ok s = some (v, s')) (hp : Pre ρ T s s' w) (hx : VR ρ x x') (hi : VR ρ i i') : OK1 P (Instr.lookup t x' i' ok) ρ T s w v s' := by
  have hlog := opLookupP_log h
  subst hlog
  obtain ⟨rfl, hb⟩ := pmapOf_inv hx0
  cases hx with
  | map _ r hbr =>
  have hT : T b 0 := hp.cov (.rd b 0 1) (List.mem_cons_self ..) (lt_n hp.wf hb) b 0 ⟨rfl, Nat.le_refl _, Nat.one_pos⟩
  obtain ⟨r0, l, el, clock, q1, q2, q3, q4, q5⟩ := hp.good.sat b _ hb ⟨0, hT⟩
  have : r0 = r := Option.some.inj (q1.symm.trans hbr)
  subst this
  have hpost : Post ρ T s w ρ (s.note (.rd b 0 1)) w := Post.same hp.good rfl rfl (Still.refl w)
  obtain ⟨el', hmr, hfe⟩ := MR.stamped q4 q5
  unfold opLookupP at h
  split at h
  · rename_i kt e hu
    split at h
    · rename_i d hd
      split at h
      · rename_i hk
        have fin : ∀ r1, lookP i es = some r1 → ∃ q, findK i el' 0 = some q ∧ q.map (·.2) = r1 := fun r1 hr1 => by
          obtain ⟨q, g1, g2⟩ := lookP_perm hr1 q3
          have := hfe i 0
          rw [g1] at this
          cases hq : findK i el' 0 with
          | none => rw [hq] at this; cases this
          | some q' =>
            rw [hq] at this
            simp only [Option.map_some, Option.some.injEq] at this
            exact ⟨q', rfl, this.trans g2⟩
        split at h
        · rename_i v0 hf
          obtain ⟨q, g1, g2⟩ := fin _ hf
          cases h
          rcases findK_ok hd hk hi w 0 hmr g1 with ⟨h2, _⟩ | ⟨j', v', e', h2, h3, h4, h5, h6, h7⟩
          · rw [h2] at g2; cases g2
          · rw [h2] at g2
            simp only [Option.map_some, Option.some.injEq] at g2
            subst g2
            refine ⟨ρ, w, if ok then .tuple #[e'.val, .bool true] else e'.val, ?_, hpost, ?_⟩
            · unfold Instr.lookup
              simp only [Sem.run_bind, run_underlying hu, Result.andThen_ok, MapKept.run_getObj_map q2, Sem.run_pure, run_ck hd hk hi, run_fk hd h5]
            · cases ok
              · exact h7
              · exact .tuple _ _ (.cons _ _ _ _ h7 (.cons _ _ _ _ (.bool _) .nil))
        · rename_i hf
          obtain ⟨q, g1, g2⟩ := fin _ hf
          split at h
          · rename_i z hz
            cases h
            obtain ⟨zv, hz1, _, hz3⟩ := run_zero (ρ := ρ) hz w
            rcases findK_ok hd hk hi w 0 hmr g1 with ⟨h2, h3⟩ | ⟨j', v', e', h2, _⟩
            · refine ⟨ρ, w, if ok then .tuple #[zv, .bool false] else zv, ?_, hpost, ?_⟩
              · unfold Instr.lookup
                simp only [Sem.run_bind, run_underlying hu, Result.andThen_ok, MapKept.run_getObj_map q2, Sem.run_pure, run_ck hd hk hi, run_fk hd h3, hz1]
              · cases ok
                · exact hz3
                · exact .tuple _ _ (.cons _ _ _ _ hz3 (.cons _ _ _ _ (.bool _) .nil))
            · rw [h2] at g2; cases g2
          · cases h
        · cases h
      · cases h
    · cases h
  · cases h
theorem opUpdate_mono {t : TypeId} {m k x : AV} (h : opUpdate P t m k x s = some s') : Mono s s' := by
  unfold opUpdate at h
  split at h
  · split at h
    · rename_i hb
      split at h
      · split at h
        · cases h; exact Mono.put_note _ _ _ ⟨_, hb, trivial⟩
        · cases h; exact Mono.put_note _ _ _ ⟨_, hb, trivial⟩
        · cases h
      · cases h
    · cases h
  · cases h
theorem alt_set {B : Nat} {o o' : Obj} (h : w.heap[B]? = some o) : Alt w { w with heap := w.heap.setIfInBounds B o' } B o' :=
  ⟨rfl, rfl, rfl, by simp, by have := lt_of_some h; simp [this], fun B' hB => by simp [Ne.symm hB]⟩
theorem setObj_run {B : Nat} {l : Array MapEntry} {c : Nat} {o' : Obj} (h : w.heap[B]? = some (.map l c)) : (setObj B o').run P w = .ok () { w with heap := w.heap.setIfInBounds B o' } := MapKept.run_setObj_map o' h
theorem opUpdate_ok {t : TypeId} {m k x : AV} {m' k' x' : Value} (h : opUpdate P t m k x s = some s') (hp : Pre ρ T s s' w) (hm : VR ρ m m') (hk : VR ρ k k') (hx : VR ρ x x') : ∃ w', (Instr.mapUpdate t m' k' x').run P w = .ok () w' ∧ Post ρ T s w ρ s' w' := by
  unfold opUpdate at h
  split at h
  · rename_i kt et b hu
    split at h
    · rename_i d es clock hd hb
      split at h
      · rename_i hko
        cases hm with
        | map b r hbr =>
        split at h
        · rename_i j v0 hf
          cases h
          have hT : ∀ i, T b i := fun i => hp.cov (.all b) (List.mem_cons_self ..) (lt_n hp.wf hb) b i rfl
          obtain ⟨r0, l, q1, q2, q3⟩ := hp.good.sat b _ hb ⟨0, hT 0⟩
          have : r0 = r := Option.some.inj (q1.symm.trans hbr)
          subst this
          rcases findK_ok hd hko hk w 0 q3 hf with ⟨h2, _⟩ | ⟨j', v', e', h2, h3, h4, h5, h6, h7⟩
          · cases h2
          · cases h2
            rw [Nat.sub_zero, Array.getElem?_toList] at h4
            refine ⟨_, ?_, Post.alt hp.good hb trivial ⟨0, hT 0⟩ hbr (alt_set q2 (o' := .map (l.modify j fun e => { e with key := k', val := x' }) clock)) ⟨r0, _, hbr, (alt_set q2).here, ?_⟩⟩
            · have hkey : (((l[j]?).map (·.key)).getD k') = k' := by rw [h4]; exact h6
              have hst : (Instr.keyThatStays k' k').run P w = .ok k' w := by
                have hsb : Instr.sameBits 10000 k' k' = true := same_key hko hk
                simp [Instr.keyThatStays, hsb]
              unfold Instr.mapUpdate
              rw [Sem.run_bind, run_underlying hu]
              simp only [Result.andThen_ok, Sem.run_bind, MapKept.run_getObj_map q2, run_ck hd hko hk, run_fk hd h5, hkey, hst, setObj_run q2]
            · have := MR.modify hx j q3 (fun y hy => by
                rw [Array.getElem?_toList, h4] at hy
                cases hy
                exact h6)
              rw [Array.toList_modify]
              exact this
        · rename_i hf
          cases h
          have hT : ∀ i, T b i := fun i => hp.cov (.all b) (List.mem_cons_self ..) (lt_n hp.wf hb) b i rfl
          obtain ⟨r0, l, q1, q2, q3⟩ := hp.good.sat b _ hb ⟨0, hT 0⟩
          have : r0 = r := Option.some.inj (q1.symm.trans hbr)
          subst this
          rcases findK_ok hd hko hk w 0 q3 hf with ⟨_, h3⟩ | ⟨j', v', e', h2, _⟩
          · refine ⟨_, ?_, Post.alt hp.good hb trivial ⟨0, hT 0⟩ hbr (alt_set q2 (o' := .map (l.push { key := k', val := x', born := clock }) (clock + 1))) ⟨r0, _, hbr, (alt_set q2).here, ?_⟩⟩
            · unfold Instr.mapUpdate
              rw [Sem.run_bind, run_underlying hu]
              simp only [Result.andThen_ok, Sem.run_bind, MapKept.run_getObj_map q2, run_ck hd hko hk, run_fk hd h3, setObj_run q2]
            · rw [Array.toList_push]
              exact MR.append q3 hk hx rfl
          · cases h2
        · cases h
      · cases h
    · cases h
  · cases h
theorem MR.erase {ρ : Env} : ∀ {es : List ME} {l : List MapEntry} (i : Nat), MR ρ es l → MR ρ (es.eraseIdx i) (l.eraseIdx i)
  | [], l, i, h => by rw [h.inv_nil]; simpa using MR.nil
  | e :: es, l, 0, h => by
    obtain ⟨e', l', rfl, g1, g2, g3, g4⟩ := h.inv
    exact g4
  | e :: es, l, i + 1, h => by
    obtain ⟨e', l', rfl, g1, g2, g3, g4⟩ := h.inv
    simp only [List.eraseIdx_cons_succ]
    exact .cons g1 g2 g3 (MR.erase i g4)
theorem unit_inv {x : Option St} {v : AV} (h : unit x = some (v, s')) : x = some s' ∧ v = undefA := by
  unfold unit at h
  split at h
  · cases h; exact ⟨rfl, rfl⟩
  · cases h
theorem opDelete_mono {t : TypeId} {m k : AV} (h : opDelete P t m k s = some s') : Mono s s' := by
  unfold opDelete at h
  split at h
  · split at h
    · rename_i hb
      split at h
      · split at h
        · cases h; exact Mono.put_note _ _ _ ⟨_, hb, trivial⟩
        · cases h; exact Mono.put_note _ _ _ ⟨_, hb, trivial⟩
        · cases h
      · cases h
    · cases h
  · cases h
theorem opDelete_ok {ts : Array TypeId} {t ty : TypeId} {m k : AV} {m' k' : Value} (ht : ts[0]? = some t) (h : opDelete P t m k s = some s') (hp : Pre ρ T s s' w) (hm : VR ρ m m') (hk : VR ρ k k') : OK1 P (Builtin.delete_ ts ty #[m', k']) ρ T s w undefA s' := by
  unfold opDelete at h
  split at h
  · rename_i kt et b hu
    split at h
    · rename_i d es clock hd hb
      split at h
      · rename_i hko
        cases hm with
        | map b r hbr =>
        split at h
        · rename_i j v0 hf
          cases h
          have hT : ∀ i, T b i := fun i => hp.cov (.all b) (List.mem_cons_self ..) (lt_n hp.wf hb) b i rfl
          obtain ⟨r0, l, q1, q2, q3⟩ := hp.good.sat b _ hb ⟨0, hT 0⟩
          have : r0 = r := Option.some.inj (q1.symm.trans hbr)
          subst this
          rcases findK_ok hd hko hk w 0 q3 hf with ⟨h2, _⟩ | ⟨j', v', e', h2, h3, h4, h5, h6, h7⟩
          · cases h2
          · cases h2
            refine ⟨ρ, _, .tuple #[], ?_, Post.alt hp.good hb trivial ⟨0, hT 0⟩ hbr (alt_set q2 (o' := .map (l.eraseIdxIfInBounds j) clock)) ⟨r0, _, hbr, (alt_set q2).here, ?_⟩, .tuple _ _ .nil⟩
            · unfold Builtin.delete_
              simp only [ht, List.getElem?_toArray, List.getElem?_cons_zero, List.getElem?_cons_succ, Sem.run_bind, run_underlying hu, Result.andThen_ok, MapKept.run_getObj_map q2, run_ck hd hko hk, run_fk hd h5, setObj_run q2, Sem.run_pure]
            · rw [Array.toList_eraseIdxIfInBounds]
              exact MR.erase j q3
        · rename_i hf
          cases h
          have hT : ∀ i, T b i := fun i => hp.cov (.all b) (List.mem_cons_self ..) (lt_n hp.wf hb) b i rfl
          obtain ⟨r0, l, q1, q2, q3⟩ := hp.good.sat b _ hb ⟨0, hT 0⟩
          have : r0 = r := Option.some.inj (q1.symm.trans hbr)
          subst this
          rcases findK_ok hd hko hk w 0 q3 hf with ⟨_, h3⟩ | ⟨j', v', e', h2, _⟩
          · refine ⟨ρ, _, .tuple #[], ?_, Post.alt hp.good hb trivial ⟨0, hT 0⟩ hbr (alt_set q2 (o' := .map l clock)) ⟨r0, _, hbr, (alt_set q2).here, q3⟩, .tuple _ _ .nil⟩
            unfold Builtin.delete_
            simp only [ht, List.getElem?_toArray, List.getElem?_cons_zero, List.getElem?_cons_succ, Sem.run_bind, run_underlying hu, Result.andThen_ok, MapKept.run_getObj_map q2, run_ck hd hko hk, run_fk hd h3, setObj_run q2, Sem.run_pure]
          · cases h2
        · cases h
      · cases h
    · cases h
  · cases h
theorem opClear_mono {t : TypeId} {x : AV} (h : opClear P t x s = some s') : Mono s s' := by
  unfold opClear at h
  split at h
  · cases h; exact Mono.refl _
  · split at h
    · split at h
      · split at h
        · cases h; exact Mono.refl _
        · exact wr_mono h
      · cases h
    · cases h
  · cases h
theorem opClear_ok {ts : Array TypeId} {t ty : TypeId} {x : AV} {x' : Value} (ht : ts[0]? = some t) (h : opClear P t x s = some s') (hp : Pre ρ T s s' w) (hx : VR ρ x x') : OK1 P (Builtin.clear_ ts ty #[x']) ρ T s w undefA s' := by
  unfold opClear at h
  split at h
  · rename_i e hu
    cases h
    cases hx
    exact OK1.pure hp (by
      unfold Builtin.clear_
      simp only [ht, List.getElem?_toArray, List.getElem?_cons_zero, Sem.run_bind, run_underlying hu, Result.andThen_ok, Sem.run_pure]) (.tuple _ _ .nil)
  · rename_i e b off len mc es hu
    split at h
    · rename_i n z hs hz
      split at h
      · rename_i hc
        obtain ⟨c1, c2, c3⟩ := hc
        cases hx with
        | slice _ _ _ _ _ r ad cap hbr h1 h2 h3 =>
        split at h
        · rename_i h0
          subst h0
          cases h
          exact OK1.pure hp (by
            unfold Builtin.clear_
            simp only [ht, List.getElem?_toArray, List.getElem?_cons_zero, Sem.run_bind, run_underlying hu, Result.andThen_ok, Sem.run_pure]) (.tuple _ _ .nil)
        · rename_i h0
          obtain ⟨q, rfl⟩ : ∃ q, len = q + 1 := ⟨len - 1, by omega⟩
          obtain ⟨e1, _⟩ := h3.resolve_left (by omega)
          subst e1
          cases hi : P.info? e with
          | none => unfold zeroC zeroA at hz; rw [hi] at hz; simp at hz
          | some i =>
            obtain ⟨zv, hz1, hz2⟩ := zeroC_info (ρ := ρ) hz hi
            have hzr : (zeroValue e).run P w = .ok zv w := by
              simp [zeroValue, run_info hi, hz1]
            have hzs := hz2.size
            have hv : VRL ρ (repL z (q + 1)) (Builtin.zeroCells zv.cells (q + 1)).toList := by
              refine VRL.of_get (by rw [repL_len, Array.length_toList]; simp [Builtin.zeroCells, hzs]) (fun i a v ha hv => ?_)
              obtain ⟨v', g1, g2⟩ := repL_ok hz2 (by omega) (q + 1) (q + 1) (Nat.le_refl _) hzs i a ha
              have : v' = v := by
                rw [Array.getElem?_toList] at hv
                have e2 : (Builtin.zeroCells zv.cells (q + 1))[i]? = some v' := by
                  unfold Builtin.zeroCells
                  rw [hzs]
                  rw [hzs] at g1
                  exact g1
                exact Option.some.inj (e2.symm.trans hv)
              rw [← this]
              exact g2
            obtain ⟨w', g1, g2⟩ := wr_ok (P := P) h hp hbr hv
            refine ⟨ρ, w', .tuple #[], ?_, g2, .tuple _ _ .nil⟩
            unfold Builtin.clear_
            simp only [ht, List.getElem?_toArray, List.getElem?_cons_zero, Sem.run_bind, run_underlying hu, Result.andThen_ok, hzr, g1, Sem.run_pure]
      · cases h
    · cases h
  · cases h
end
end Go.Proofs.YtmabpnmnppfgaaaGreatDoor.Rk
namespace Go.Proofs.YtmabpnmnppfgaaaGreatDoor.Rk
open Go
set_option linter.unusedVariables false
section
variable {P : Program} {ρ : Env} {T : Nat → Nat → Prop} {s s' : St} {w w' : World}
theorem sliceDataA_ok {ts : Array TypeId} {ty : TypeId} {x v : AV} {x' : Value} (h : sliceDataA [x] = some v) (hp : Pre ρ T s s w) (hx : VR ρ x x') : OK1 P (Builtin.unsafeSliceData_ ts ty #[x']) ρ T s w v s := by
  unfold sliceDataA at h
  split at h
  · rename_i he
    cases he
    cases h
    cases hx
    exact OK1.pure hp rfl .nilp
  · rename_i b off len mc es he
    cases he
    split at h
    · rename_i hl
      cases h
      cases hx with
      | slice _ _ _ _ _ r ad cap hb h1 h2 h3 =>
      have hc : cap ≠ 0 := by omega
      obtain ⟨had, _⟩ := h3.resolve_left hc
      subst had
      exact OK1.pure hp (Lib.run_unsafeSliceData_row w ts ty _ _ _ hc) (.ptr b off r hb)
    · cases h
  · cases h
theorem liesAt_bytes' {e : TypeId} (hc : P.cellsOf e = 1) (count off n : Nat) (hn : off + n ≤ count) : liesAt P P.depth e count off e n = true := by
  have hd : P.depth = (2 * (P.types.size + Made.depth) + 1) + 1 := rfl
  rw [hd]
  simp only [liesAt, Bool.or_eq_true]
  left
  rw [hd]
  simp [rowAt, hc, hn, sameLayout, Nat.mod_one]
theorem loadBytes_ok : ∀ (xs : List Int) (a : Addr) (acc : ByteArray), (∀ (j : Nat) x, xs[j]? = some x → w.cell? (a.add j) = some (.int .u8 x)) →
    (loadBytes a acc xs.length).run P w = .ok ⟨acc.data ++ (xs.map fun n => UInt8.ofNat n.toNat).toArray⟩ w
  | [], a, acc, _ => by simp [loadBytes]
  | x :: l, a, acc, h => by
    have h0 : w.cell? a = some (.int .u8 x) := by
      have := h 0 x rfl
      simpa [Addr.add] using this
    have ih := loadBytes_ok l (a.add 1) (acc.push x.toNat.toUInt8) (fun j y hy => by
      have := h (j + 1) y (by simpa using hy)
      have e : (a.add 1).add j = a.add (j + 1) := by
        unfold Addr.add
        by_cases hj : j = 0
        · subst hj; simp
        · simp [hj]; omega
      rw [e]; exact this)
    simp only [List.length_cons, loadBytes, Sem.run_bind, run_load, h0, Result.andThen]
    rw [ih]
    congr 1
    apply ByteArray.ext
    simp [ByteArray.push]
theorem stringA_mono {t : TypeId} {args : List AV} {v : AV} (h : stringA P t args s = some (v, s')) : Mono s s' := by
  unfold stringA at h
  split at h
  · split at h
    · cases h; exact Mono.refl _
    · cases h
  · split at h
    · rename_i t0 cs0 hu hb
      split at h
      · split at h
        · rename_i cs s1 hr
          split at h
          · cases h
            obtain ⟨e1, m1⟩ := rd_mono hr
            refine m1.trans (Mono.put_note _ _ _ ⟨.cells t0 cs0, ?_, trivial⟩)
            rw [e1]
            exact hb
          · cases h
        · cases h
      · cases h
    · cases h
  · cases h
theorem freeze_alt {w : World} {B : Nat} {c : Array Value} {t : TypeId} {fr : Nat × Nat} (h : w.heap[B]? = some (.cells c t fr)) (o n : Nat) (hn : n ≠ 0) : ∃ fr', Alt w (w.freeze ⟨B, o, none⟩ n) B (.cells c t fr') := by
  unfold World.freeze
  rw [if_neg hn]
  obtain ⟨lo, hi⟩ := fr
  refine ⟨if lo == hi then (o, o + n) else (min lo o, max hi (o + n)), rfl, rfl, rfl, by simp, ?_, fun B' hB => ?_⟩
  · simp [Array.getElem?_modify, h]
  · simp [Array.getElem?_modify, Ne.symm hB]
theorem stringA_ok {pt it ty : TypeId} {x y v : AV} {x' y' : Value} (h : stringA P pt [x, y] s = some (v, s')) (hp : Pre ρ T s s' w) (hx : VR ρ x x') (hy : VR ρ y y') : OK1 P (Builtin.unsafeString_ #[pt, it] ty #[x', y']) ρ T s w v s' := by
  unfold stringA at h
  split at h
  · rename_i n he
    cases he
    split at h
    · rename_i hn
      cases h
      subst hn
      cases hx
      cases hy
      exact OK1.pure hp (Lib.run_unsafeString_none (P := P) w pt it ty none) (VR.string ByteArray.empty)
    · cases h
  · rename_i b off n he
    cases he
    split at h
    · rename_i e t0 cs0 hu hb
      split at h
      · rename_i hc
        obtain ⟨c1, c2, c3, c4⟩ := hc
        subst c1
        split at h
        · rename_i cs s1 hr
          split at h
          · rename_i l hl
            cases h
            cases hx with
            | ptr _ _ r hbr =>
            cases hy
            obtain ⟨e1, m1⟩ := rd_mono hr
            have hb1 : s1.heap.get b = some (.cells t0 cs0) := by rw [e1]; exact hb
            have m2 : Mono s1 ((s1.put b .dead).note (.all b)) := Mono.put_note _ _ _ ⟨_, hb1, trivial⟩
            obtain ⟨vs, h1, h2, h3⟩ := rd_ok hr (hp.first m2) hbr
            obtain ⟨xs, x1, x2, x3, x4⟩ := byteAt_ok hl h2
            have hT : ∃ i, T b i := ⟨0, hp.cov (.all b) (List.mem_cons_self ..) (lt_n hp.wf hb) b 0 rfl⟩
            obtain ⟨r0, c, fr, q1, q2, q3, q4, q5, q6⟩ := hp.good.sat b _ hb hT
            have : r0 = r := Option.some.inj (q1.symm.trans hbr)
            subst this
            have hxl : xs.length = n := by rw [← h1, x2, List.length_map]
            have hcsl : off + n ≤ cs0.length := by
              have hr' := hr
              unfold rdCells at hr'
              rw [hb] at hr'
              simp only at hr'
              split at hr'
              · rename_i l1 hcut
                obtain ⟨_, z2⟩ := cutL_ok hcut
                exact z2.resolve_left (by omega)
              · cases hr'
            have hpost1 : Post ρ T s w ρ s1 w := Post.same hp.good (by rw [e1]; rfl) (by rw [e1]; rfl) (Still.refl w)
            have hp1 := hp.next m1 m2 hpost1
            obtain ⟨fr', halt⟩ := freeze_alt q2 (r0.base + off) n (by omega)
            have hpost2 : Post ρ (Tn T s.n s1.n) s1 w ρ ((s1.put b .dead).note (.all b)) (w.freeze ⟨r0.blk, r0.base + off, none⟩ n) :=
              Post.alt (x' := .dead) hp1.good hb1 trivial (let ⟨i, hi⟩ := hT; ⟨i, .inl hi⟩) hbr halt trivial
            refine ⟨ρ, _, .string ⟨(l.map UInt8.ofNat).toArray⟩, ?_, hpost1.trans m1 m2 hpost2, .str l x3⟩
            have hlb := loadBytes_ok (P := P) (w := w) xs (r0.at off) .empty (fun j x hj => h3 j _ (by rw [x2, List.getElem?_map, hj]; rfl))
            have hsh : w.shape? r0.blk = some (t0 / 2, c.size) := by simp [World.shape?, q2]
            have hlies := liesAt_bytes' (P := P) c2 (c.size / P.cellsOf (t0 / 2)) (r0.base + off) n (by
              rw [c2, Nat.div_one]
              have := q4.1
              omega)
            have h63 : ¬ (9223372036854775807 : Int) < (n : Int) := by omega
            have hn0 : ¬ n = 0 := by omega
            have hneg : ¬ (n : Int) < 0 := by omega
            have hmax : IntKind.i64.max = 9223372036854775807 := rfl
            have hdef : Builtin.unsafeString_ #[pt, it] ty #[.pointer (some (r0.at off)), .int .i64 (n : Int)] =
                (do
                  let n ← asInt (.int .i64 (n : Int))
                  if n < 0 then runtimePanic (.error "unsafe.String: len out of range")
                  if n > IntKind.i64.max then unsupported (.unsafePointer "String: a length above the largest int")
                  if n = 0 then pure (.string .empty)
                  else if ← variablesAt (r0.at off) (← elemOf pt) n.toNat then do
                    let s ← loadBytes (r0.at off) .empty n.toNat
                    freeze (r0.at off) n.toNat
                    pure (.string s)
                  else unsupported (.unsafePointer "String: not so many bytes at ptr")) := rfl
            show (Builtin.unsafeString_ #[pt, it] ty #[.pointer (some (r0.at off)), .int .i64 (n : Int)]).run P w = _
            rw [hdef]
            rw [hxl] at hlb
            have hat : (r0.at off).off = r0.base + off := rfl
            have hat2 : (r0.at off).block = r0.blk := rfl
            rw [x4] at hlb
            simp [asInt, asIntOf, hmax, h63, hneg, hn0, variablesAt, hsh, elemOf, run_underlying hu, hlies, hlb, hat, hat2]
            rfl
          · cases h
        · cases h
      · cases h
    · cases h
  · cases h
end
end Go.Proofs.YtmabpnmnppfgaaaGreatDoor.Rk
namespace Go.Proofs.YtmabpnmnppfgaaaGreatDoor.Rk
open Go
set_option linter.unusedVariables false
inductive DefR (ρ : Env) : DE → Deferred → Prop
  | fn (f : FuncId) (args : List AV) (cap as : Array Value) (h : VRL ρ args (as ++ cap).toList) : DefR ρ (.fn f args) { target := .fn (.func f) cap, args := as }
  | mark (b : Nat) (r : RB) (h : ρ b = some r) : DefR ρ (.mark b) { target := .collected r.blk, args := #[] }
inductive DefsR (ρ : Env) : List DE → List Deferred → Prop
  | nil : DefsR ρ [] []
  | cons (e : DE) (d : Deferred) (l : List DE) (k : List Deferred) (h : DefR ρ e d) (t : DefsR ρ l k) : DefsR ρ (e :: l) (d :: k)
theorem DefsR.mono {ρ ρ' : Env} (hr : ρ.le ρ') : ∀ {l : List DE} {k : List Deferred}, DefsR ρ l k → DefsR ρ' l k
  | _, _, .nil => .nil
  | _, _, .cons _ _ _ _ h t => .cons _ _ _ _ (by
      cases h with
      | fn f args cap as h => exact .fn f args cap as (VRL.mono hr h)
      | mark b r h => exact .mark b r (hr _ _ h)) (DefsR.mono hr t)
structure ActR (ρ : Env) (aa : AAct) (a : Act) : Prop where
  size : a.tmps.size = aa.sz
  get : ∀ t, VR ρ (aa.get t) (a.tmps.getD t undef)
  defs : DefsR ρ aa.defs a.defers
section
variable {P : Program} {ρ : Env} {T : Nat → Nat → Prop} {s s' : St} {w w' : World} {aa : AAct} {a : Act}
theorem ActR.mono {ρ' : Env} (h : ActR ρ aa a) (hr : ρ.le ρ') : ActR ρ' aa a := ⟨h.size, fun t => (h.get t).mono hr, h.defs.mono hr⟩
theorem ActR.eval (h : ActR ρ aa a) (x : Operand) : VR ρ (aeval aa x) (a.eval x) := by
  cases x with
  | tmp t => exact h.get t
  | const v => exact ofV_ok 3 v
  | global g => exact .top _
  | func f => exact .func f [] [] #[] #[] .nil .nil
theorem undef_ok : VR ρ undefA undef := .tuple [] #[] .nil
theorem ActR.putT {v : AV} {v' : Value} (h : ActR ρ aa a) (d : Tmp) (hv : VR ρ v v') : ActR ρ (aa.putT d v) { a with tmps := a.tmps.setIfInBounds d v' } := by
  unfold AAct.putT
  split
  · rename_i hd
    refine ⟨by simp [h.size], fun t => ?_, h.defs⟩
    unfold AAct.get
    rw [Tr.get_set]
    by_cases ht : t = d
    · subst ht
      rw [if_pos rfl]
      have hlt : t < a.tmps.size := by rw [h.size]; exact hd
      simpa [Array.getD_eq_getD_getElem?, Array.getElem?_setIfInBounds, hlt] using hv
    · rw [if_neg ht]
      have := h.get t
      unfold AAct.get at this
      simpa [Array.getD_eq_getD_getElem?, Array.getElem?_setIfInBounds, Ne.symm ht] using this
  · rename_i hd
    have : a.tmps.setIfInBounds d v' = a.tmps := by
      apply Array.ext_getElem?
      intro i
      rw [Array.getElem?_setIfInBounds]
      split
      · rename_i hi
        subst hi
        rw [if_neg (by rw [h.size]; exact hd), Array.getElem?_eq_none (Nat.not_lt.1 (by rw [h.size]; exact hd))]
      · rfl
    rw [this]
    exact h
theorem ActR.put {v : AV} {v' : Value} (h : ActR ρ aa a) (d : Option Tmp) (hv : VR ρ v v') : ActR ρ (aa.put d v) (a.put d v') := by
  cases d with
  | none => exact h
  | some d => exact h.putT d hv
theorem ActR.args (h : ActR ρ aa a) (xs : Array Operand) : VRL ρ (xs.toList.map (aeval aa)) (xs.map a.eval).toList := by
  rw [Array.toList_map]
  exact VRL.map _ _ _ (fun x _ => h.eval x)
theorem ActR.parts (h : ActR ρ aa a) (ps : Array (Nat × Operand)) : PR ρ (parts aa ps) (ps.map fun (i, x) => (i, a.eval x)).toList := by
  unfold Rk.parts
  rw [Array.toList_map]
  have : ∀ l : List (Nat × Operand), PR ρ (l.map fun p => (p.1, aeval aa p.2)) (l.map fun (i, x) => (i, a.eval x)) := by
    intro l
    induction l with
    | nil => exact .nil
    | cons p l ih => exact .cons p.1 _ _ _ _ (h.eval p.2) ih
  exact this _
theorem opRange_mono {t : TypeId} {x v : AV} (h : opRange P t x s = some (v, s')) : Mono s s' := by
  unfold opRange at h
  split at h
  · cases h; exact Mono.new _ _
  · cases h; exact Mono.new _ _
  · split at h
    · rename_i es clock hm
      cases h; exact (Mono.note _ (.rd _ 0 1) ⟨.map es clock, hm, trivial⟩).trans (Mono.new _ _)
    · cases h
  · cases h
theorem opRange_ok {t : TypeId} {x v : AV} {x' : Value} (h : opRange P t x s = some (v, s')) (hp : Pre ρ T s s' w) (hx : VR ρ x x') : OK1 P (Instr.range t x') ρ T s w v s' := by
  unfold opRange at h
  split at h
  · rename_i l hu
    cases h
    cases hx with
    | str _ hl =>
    have hf : ρ s.n = none := hp.fresh s.n (Nat.le_refl _) (Nat.lt_succ_self _)
    refine ⟨_, _, .pointer (some ⟨w.heap.size, 0, none⟩), by simp [Instr.range, run_underlying hu], Post.made (o := .stringIter ⟨(l.map UInt8.ofNat).toArray⟩ 0) (r := ⟨w.heap.size, 0, 0⟩) hp.good hp.wf hf hp.tn (Add.push w _) rfl ⟨_, Env.add_self _ _, rfl, (Add.push w _).here, hl⟩, ?_⟩
    exact .ptr s.n 0 _ (Env.add_self _ _)
  · rename_i k e hu
    cases h
    cases hx
    have hf : ρ s.n = none := hp.fresh s.n (Nat.le_refl _) (Nat.lt_succ_self _)
    refine ⟨_, _, .pointer (some ⟨w.heap.size, 0, none⟩), by simp [Instr.range, run_underlying hu], Post.made (o := .mapIter none 0 #[] 0) (r := ⟨w.heap.size, 0, 0⟩) hp.good hp.wf hf hp.tn (Add.push w _) rfl ⟨_, none, Env.add_self _ _, rfl, (Add.push w _).here, rfl⟩, ?_⟩
    exact .ptr s.n 0 _ (Env.add_self _ _)
  · rename_i k e m hu
    split at h
    · rename_i es clock hm
      cases h
      cases hx with
      | map _ r hbr =>
      have hmn := lt_n hp.wf hm
      have hT : T m 0 := hp.cov (.rd m 0 1) (List.mem_cons_self ..) hmn m 0 ⟨rfl, Nat.le_refl _, Nat.one_pos⟩
      obtain ⟨r0, l, q1, q2, q3⟩ := hp.good.sat m _ hm ⟨0, hT⟩
      have : r0 = r := Option.some.inj (q1.symm.trans hbr)
      subst this
      have hf : ρ s.n = none := hp.fresh s.n (Nat.le_refl _) (Nat.lt_succ_self _)
      have hpost : Post ρ T s w ρ (s.note (.rd m 0 1)) w := Post.same hp.good rfl rfl (Still.refl w)
      have hmn1 : Mono s (s.note (.rd m 0 1)) := Mono.note _ _ ⟨_, hm, trivial⟩
      have hpre := hp.next hmn1 (Mono.new _ (.miter (some m) clock [] clock)) hpost
      refine ⟨_, _, .pointer (some ⟨w.heap.size, 0, none⟩), by simp [Instr.range, run_underlying hu, MapKept.run_getObj_map q2], hpost.trans hmn1 (Mono.new _ _) (Post.made (o := .mapIter (some r0.blk) clock #[] clock) (r := ⟨w.heap.size, 0, 0⟩) hpre.good hpre.wf hf hpre.tn (Add.push w _) rfl ⟨_, some r0.blk, Env.add_self _ _, rfl, (Add.push w _).here, r0, Env.add_le hf _ _ hbr, rfl⟩), ?_⟩
      exact .ptr s.n 0 _ (Env.add_self _ _)
    · cases h
  · cases h
theorem opNext_mono {x v : AV} (h : opNext x s = some (v, s')) : Mono s s' := by
  unfold opNext at h
  split at h
  · split at h
    · rename_i hb
      cases h; exact Mono.note _ _ ⟨_, hb, trivial⟩
    · rename_i m0 _ _ _ hb
      split at h
      · rename_i hm
        have hnm : ∀ b0 a1 a2 a3 a4, s.heap.get b0 = some (.miter a1 a2 a3 a4) → m0 ≠ b0 := fun b0 _ _ _ _ hb e => by subst e; rw [hm] at hb; cases hb
        split at h
        · split at h
          · cases h; exact (Mono.note _ (.all _) ⟨.miter _ _ _ _, hb, trivial⟩).trans (Mono.note _ (.rd _ 0 1) ⟨.map _ _, hm, trivial⟩)
          · split at h
            · cases h; exact (Mono.put_note _ _ _ ⟨_, hb, trivial⟩).trans (Mono.note _ (.rd _ 0 1) ⟨.map _ _, by
                show (s.put _ _).heap.get m0 = _
                rw [get_put, if_neg (hnm _ _ _ _ _ hb)]; exact hm, trivial⟩)
            · cases h
          · cases h
        · cases h
      · cases h
    · cases h
  · cases h
theorem opNext_ok {x v : AV} {x' : Value} {ty : TypeId} (h : opNext x s = some (v, s')) (hp : Pre ρ T s s' w) (hx : VR ρ x x') : OK1 P (Instr.next x' false ty) ρ T s w v s' := by
  unfold opNext at h
  split at h
  · rename_i b
    cases hx with
    | ptr _ _ r hbr =>
    split at h
    · rename_i hb
      cases h
      have hT : ∀ i, T b i := fun i => hp.cov (.all b) (List.mem_cons_self ..) (lt_n hp.wf hb) b i rfl
      obtain ⟨r0, m', q1, q2, q3, q4⟩ := hp.good.sat b _ hb ⟨0, hT 0⟩
      have : r0 = r := Option.some.inj (q1.symm.trans hbr)
      subst this
      have q4 : m' = none := q4
      subst q4
      refine ⟨ρ, w, _, ?_, Post.same hp.good rfl rfl (Still.refl w), .tuple _ _ (.cons _ _ _ _ (.bool false) .nil)⟩
      simp [Instr.next, RB.at, q2, getObj, Sem.run, q3]
    · rename_i m since seen last hb
      split at h
      · rename_i es clock hm
        split at h
        · rename_i hcond
          have hmn := lt_n hp.wf hm
          have hbn := lt_n hp.wf hb
          have hlog : LE.all b ∈ s'.log ∧ LE.rd m 0 1 ∈ s'.log := by
            split at h
            · cases h; exact ⟨List.mem_cons_of_mem _ (List.mem_cons_self ..), List.mem_cons_self ..⟩
            · split at h
              · cases h; exact ⟨List.mem_cons_of_mem _ (List.mem_cons_self ..), List.mem_cons_self ..⟩
              · cases h
            · cases h
          have hT : ∀ i, T b i := fun i => hp.cov (.all b) hlog.1 hbn b i rfl
          have hTm : T m 0 := hp.cov (.rd m 0 1) hlog.2 hmn m 0 ⟨rfl, Nat.le_refl _, Nat.one_pos⟩
          obtain ⟨r0, m', q1, q2, q3, q, q5, q6⟩ := hp.good.sat b _ hb ⟨0, hT 0⟩
          have : r0 = r := Option.some.inj (q1.symm.trans hbr)
          subst this
          subst q6
          obtain ⟨rm, l, p1, p2, p3⟩ := hp.good.sat m _ hm ⟨0, hTm⟩
          have : rm = q := Option.some.inj (p1.symm.trans q5)
          subst this
          have p3 : MR ρ es l.toList := p3
          have hany := p3.any (fun b => decide (b < last))
          have hguard : (!seen.toArray.isEmpty && !l.isEmpty && l.all (fun e => decide (e.born ≥ last))) = false := by
            have e1 : l.isEmpty = es.isEmpty := by
              have := p3.len
              rw [Array.length_toList] at this
              rw [Bool.eq_iff_iff]
              simp only [Array.isEmpty_iff_size_eq_zero, List.isEmpty_iff_length_eq_zero]
              omega
            have e2 : l.all (fun e => decide (e.born ≥ last)) = !(es.any (fun e => decide (e.born < last))) := by
              rw [hany, ← Array.all_toList, List.not_any_eq_all_not]
              congr 1
              funext e
              rw [Bool.eq_iff_iff]
              simp
            rw [e1, e2]
            simp only [Bool.or_eq_true] at hcond
            rcases hcond with (h1 | h1) | h1
            · have : seen.toArray.isEmpty = true := by simpa using h1
              rw [this]; rfl
            · rw [h1]; simp
            · rw [h1]; simp
          have hleft := p3.filter (fun b => !seen.contains b)
          have hleft' : (l.filter (fun e => !seen.toArray.contains e.born)).toList = l.toList.filter (fun e => !seen.contains e.born) := by
            rw [Array.toList_filter]
            congr 1
            funext e
            simp
          have hget : (getObj r0.blk).run P w = .ok (.mapIter (some rm.blk) since seen.toArray last) w := by simp [getObj, Sem.run, q3]
          split at h
          · rename_i hnil
            cases h
            rw [hnil] at hleft
            have hl0 := hleft.inv_nil
            have hl1 : l.filter (fun e => !seen.toArray.contains e.born) = #[] := by
              apply Array.ext'
              rw [hleft', hl0]
            refine ⟨ρ, w, _, ?_, Post.same hp.good rfl rfl (Still.refl w), .tuple _ _ (.cons _ _ _ _ (.bool false) .nil)⟩
            unfold Instr.next
            simp only [RB.at, q2, Nat.add_zero, Sem.run_bind, hget, Result.andThen_ok, MapKept.run_getObj_map p2, hguard, Bool.false_eq_true, if_false, hl1]
            simp [Question.forced]
          · rename_i e hone
            split at h
            · rename_i hborn
              cases h
              rw [hone] at hleft
              obtain ⟨e', l', hl0, g1, g2, g3, g4⟩ := hleft.inv
              have := g4.inv_nil
              subst this
              have hl1 : l.filter (fun e => !seen.toArray.contains e.born) = #[e'] := by
                apply Array.ext'
                rw [hleft', hl0]
              have hob : e'.born < since := by omega
              have hnew : (#[e'].filter fun e => decide (e.born < since)) = #[e'] := by
                apply Array.ext'
                rw [Array.toList_filter]
                simp [hob]
              have hnew2 : (#[e'].filter fun e => decide (e.born ≥ since)) = #[] := by
                apply Array.ext'
                rw [Array.toList_filter]
                simp
                omega
              have hset : (setObj r0.blk (.mapIter (some rm.blk) since (seen ++ [e'.born]).toArray clock)).run P w = .ok () { w with heap := w.heap.setIfInBounds r0.blk (.mapIter (some rm.blk) since (seen ++ [e'.born]).toArray clock) } := by simp [setObj, Sem.run, q3]
              have halt := alt_set q3 (o' := .mapIter (some rm.blk) since (seen ++ [e'.born]).toArray clock)
              have hpost := Post.alt (x' := .miter (some m) since (seen ++ [e.born]) clock) hp.good hb trivial ⟨0, hT 0⟩ hbr halt ⟨r0, some rm.blk, hbr, q2, by rw [halt.here, g3], rm, q5, rfl⟩
              refine ⟨ρ, _, .tuple #[.bool true, e'.key, e'.val], ?_, hpost.trans (Mono.put_note _ _ _ ⟨_, hb, trivial⟩) (Mono.note _ (.rd _ 0 1) ⟨.map es clock, by
                show (s.put b _).heap.get m = _
                rw [get_put, if_neg (fun e => by subst e; rw [hm] at hb; cases hb)]; exact hm, trivial⟩) (Post.same hpost.good rfl rfl (Still.refl _)), .tuple _ _ (.cons _ _ _ _ (.bool true) (.cons _ _ _ _ g1 (.cons _ _ _ _ g2 .nil)))⟩
              unfold Instr.next
              simp only [RB.at, q2, Nat.add_zero, Sem.run_bind, hget, Result.andThen_ok, MapKept.run_getObj_map p2, hguard, Bool.false_eq_true, if_false, hl1, hnew, hnew2]
              simp [Question.forced, hset]
            · cases h
          · cases h
        · cases h
      · cases h
    · cases h
  · cases h
theorem opNextS_mono {x v : AV} (h : opNextS x s = some (v, s')) : Mono s s' := by
  unfold opNextS at h
  split at h
  · split at h
    · rename_i hb
      split at h
      · cases h; exact Mono.note _ _ ⟨_, hb, trivial⟩
      · split at h
        · cases h; exact Mono.put_note _ _ _ ⟨_, hb, trivial⟩
        · cases h
    · cases h
  · cases h
theorem dec_ascii (l : List Nat) (hl : ∀ x ∈ l, x < 256) {i c : Nat} (h : l[i]? = some c) (hc : c < 128) : Utf8.decode ⟨(l.map UInt8.ofNat).toArray⟩ i = (c, 1) := by
  have hi := (List.getElem?_eq_some_iff.1 h).1
  have hg : ((⟨(l.map UInt8.ofNat).toArray⟩ : ByteArray).get! (i + 0)).toNat = c := by
    show (((l.map UInt8.ofNat).toArray)[i + 0]!).toNat = c
    rw [Nat.add_zero, getElem!_pos _ _ (by simpa using hi)]
    simp only [List.getElem_toArray, List.getElem_map]
    have : l[i] = c := (List.getElem?_eq_some_iff.1 h).2
    rw [this, UInt8.toNat_ofNat']
    omega
  unfold Utf8.decode
  simp only [hg]
  rw [if_pos (by omega)]
theorem opNextS_ok {x v : AV} {x' : Value} {ty : TypeId} (h : opNextS x s = some (v, s')) (hp : Pre ρ T s s' w) (hx : VR ρ x x') : OK1 P (Instr.next x' true ty) ρ T s w v s' := by
  unfold opNextS at h
  split at h
  · rename_i b
    cases hx with
    | ptr _ _ r hbr =>
    split at h
    · rename_i l pos hb
      have hT0 : T b 0 := by
        split at h
        · cases h; exact hp.cov (.all b) (List.mem_cons_self ..) (lt_n hp.wf hb) b 0 rfl
        · split at h
          · cases h; exact hp.cov (.all b) (List.mem_cons_self ..) (lt_n hp.wf hb) b 0 rfl
          · cases h
      obtain ⟨r0, q1, q2, q3, q4⟩ := hp.good.sat b _ hb ⟨0, hT0⟩
      have : r0 = r := Option.some.inj (q1.symm.trans hbr)
      subst this
      have hget : (getObj r0.blk).run P w = .ok (.stringIter ⟨(l.map UInt8.ofNat).toArray⟩ pos) w := by simp [getObj, Sem.run, q3]
      have hsz : (⟨(l.map UInt8.ofNat).toArray⟩ : ByteArray).size = l.length := by
        show ((l.map UInt8.ofNat).toArray).size = l.length
        simp
      split at h
      · rename_i hn
        cases h
        refine ⟨ρ, w, _, ?_, Post.same hp.good rfl rfl (Still.refl w), .tuple _ _ (.cons _ _ _ _ (.bool false) .nil)⟩
        unfold Instr.next
        simp only [RB.at, q2, Nat.add_zero, Sem.run_bind, hget, Result.andThen_ok]
        rw [if_neg (by rw [hsz]; have := List.getElem?_eq_none_iff.1 hn; omega)]
        rfl
      · rename_i c hc
        split at h
        · rename_i hlt
          cases h
          have hset : (setObj r0.blk (.stringIter ⟨(l.map UInt8.ofNat).toArray⟩ (pos + 1))).run P w = .ok () { w with heap := w.heap.setIfInBounds r0.blk (.stringIter ⟨(l.map UInt8.ofNat).toArray⟩ (pos + 1)) } := by simp [setObj, Sem.run, q3]
          have halt := alt_set q3 (o' := .stringIter ⟨(l.map UInt8.ofNat).toArray⟩ (pos + 1))
          have hpost := Post.alt (x' := .siter l (pos + 1)) hp.good hb trivial ⟨0, hT0⟩ hbr halt ⟨r0, hbr, q2, halt.here, q4⟩
          refine ⟨ρ, _, .tuple #[.bool true, goInt pos, .int .i32 c], ?_, hpost, .tuple _ _ (.cons _ _ _ _ (.bool true) (.cons _ _ _ _ (.int _ _) (.cons _ _ _ _ (.int _ _) .nil)))⟩
          unfold Instr.next
          simp only [RB.at, q2, Nat.add_zero, Sem.run_bind, hget, Result.andThen_ok]
          rw [if_pos (by rw [hsz]; exact (List.getElem?_eq_some_iff.1 hc).1), dec_ascii l q4 hc hlt]
          simp only [Sem.run_bind, hset, Result.andThen_ok, Sem.run_pure]
        · cases h
    · cases h
  · cases h
theorem opEntry_mono {x v : AV} (h : opEntry x s = some (v, s')) : Mono s s' := by
  unfold opEntry at h
  split at h
  · split at h
    · rename_i hb
      split at h
      · rename_i hm _
        split at h
        · split at h
          · cases h; exact (Mono.note _ (.rd _ 0 1) ⟨_, hb, trivial⟩).trans (Mono.note _ (.rd _ 0 1) ⟨_, hm, trivial⟩)
          · cases h
        · cases h
      · cases h
    · cases h
  · cases h
theorem MR.find {ρ : Env} (p : Nat → Bool) : ∀ {es : List ME} {l : List MapEntry} {e : ME}, MR ρ es l → es.find? (fun e => p e.born) = some e → ∃ e', l.find? (fun e => p e.born) = some e' ∧ VR ρ e.k e'.key ∧ VR ρ e.v e'.val
  | [], l, e, h, hf => by cases hf
  | x :: es, l, e, h, hf => by
    obtain ⟨e', l', rfl, g1, g2, g3, g4⟩ := h.inv
    rw [List.find?_cons] at hf
    rw [List.find?_cons, ← g3]
    cases hb : p x.born with
    | true => rw [hb] at hf; cases hf; exact ⟨e', rfl, g1, g2⟩
    | false => rw [hb] at hf; exact MR.find p g4 hf
theorem opEntry_ok {x v : AV} {x' : Value} (h : opEntry x s = some (v, s')) (hp : Pre ρ T s s' w) (hx : VR ρ x x') : OK1 P (Instr.entry x') ρ T s w v s' := by
  unfold opEntry at h
  split at h
  · rename_i b
    cases hx with
    | ptr _ _ r hbr =>
    split at h
    · rename_i m since seen last hb
      split at h
      · rename_i es clock stamp hm hst
        split at h
        · rename_i hcl
          split at h
          · rename_i e hf
            cases h
            have hT0 : T b 0 := hp.cov (.rd b 0 1) (List.mem_cons_of_mem _ (List.mem_cons_self ..)) (lt_n hp.wf hb) b 0 ⟨rfl, Nat.le_refl _, Nat.one_pos⟩
            have hT1 : T m 0 := hp.cov (.rd m 0 1) (List.mem_cons_self ..) (lt_n hp.wf hm) m 0 ⟨rfl, Nat.le_refl _, Nat.one_pos⟩
            obtain ⟨r0, m', q1, q2, q3, rm, q5, q6⟩ := hp.good.sat b _ hb ⟨0, hT0⟩
            subst q6
            have : r0 = r := Option.some.inj (q1.symm.trans hbr)
            subst this
            obtain ⟨r1, l, p1, p2, p3⟩ := hp.good.sat m _ hm ⟨0, hT1⟩
            have : r1 = rm := Option.some.inj (p1.symm.trans q5)
            subst this
            have hget : (getObj r0.blk).run P w = .ok (.mapIter (some r1.blk) since seen.toArray last) w := by simp [getObj, Sem.run, q3]
            obtain ⟨e', h1, h2, h3⟩ := MR.find (fun n => n == stamp) p3 hf
            refine ⟨ρ, w, .tuple #[e'.key, e'.val], ?_, Post.same hp.good rfl rfl (Still.refl w), .tuple _ _ (.cons _ _ _ _ h2 (.cons _ _ _ _ h3 .nil))⟩
            have hbk : seen.toArray.back? = some stamp := by rw [List.back?_toArray]; exact hst
            have hfd : l.find? (fun e => e.born == stamp) = some e' := by rw [← Array.find?_toList]; exact h1
            unfold Instr.entry
            simp only [RB.at, q2, Nat.add_zero, Sem.run_bind, hget, Result.andThen_ok, hbk, MapKept.run_getObj_map p2, hcl]
            simp [hfd]
          · cases h
        · cases h
      · cases h
    · cases h
  · cases h
end
end Go.Proofs.YtmabpnmnppfgaaaGreatDoor.Rk
namespace Go.Proofs.YtmabpnmnppfgaaaGreatDoor.Rk
open Go
set_option linter.unusedVariables false
section
variable {P : Program} {ρ : Env} {T : Nat → Nat → Prop} {s s' : St} {w w' : World} {aa : AAct} {a : Act}
theorem lenA_mono {d : Option TypeDesc} {x v : AV} (h : lenA P d x s = some (v, s')) : Mono s s' := by
  unfold lenA at h
  split at h
  case h_5 =>
    split at h
    · rename_i hb
      cases h; exact Mono.note _ _ ⟨_, hb, trivial⟩
    · cases h
  case h_7 =>
    split at h
    · cases h; exact Mono.refl _
    · cases h
  all_goals first | (cases h; done) | (cases h; exact Mono.refl _)
theorem lenA_ok {ts : Array TypeId} {t ty : TypeId} {x v : AV} {x' : Value} (ht : ts[0]? = some t) (h : lenA P (P.underlying t) x s = some (v, s')) (hp : Pre ρ T s s' w) (hx : VR ρ x x') : OK1 P (Builtin.len_ ts ty #[x']) ρ T s w v s' := by
  unfold lenA at h
  split at h
  · rename_i l hu
    cases h
    cases hx with
    | str _ hl => exact OK1.pure hp (v' := .int .i64 l.length) (by simp only [Builtin.len_, ht, List.getElem?_toArray, List.getElem?_cons_zero, Sem.run_bind, run_underlying hu, Result.andThen_ok, Sem.run_pure, str_size, goInt]) (.int _ _)
  · rename_i e hu
    cases h
    cases hx
    exact OK1.pure hp (v' := .int .i64 0) (by simp only [Builtin.len_, ht, List.getElem?_toArray, List.getElem?_cons_zero, Sem.run_bind, run_underlying hu, Result.andThen_ok, Sem.run_pure, goInt]; rfl) (.int _ _)
  · rename_i e b off n mc es hu
    cases h
    cases hx
    exact OK1.pure hp (v' := .int .i64 n) (by simp only [Builtin.len_, ht, List.getElem?_toArray, List.getElem?_cons_zero, Sem.run_bind, run_underlying hu, Result.andThen_ok, Sem.run_pure, goInt]) (.int _ _)
  · rename_i k e hu
    cases h
    cases hx
    exact OK1.pure hp (v' := .int .i64 0) (by simp only [Builtin.len_, ht, List.getElem?_toArray, List.getElem?_cons_zero, Sem.run_bind, run_underlying hu, Result.andThen_ok, Sem.run_pure, goInt]) (.int _ _)
  · rename_i k e b hu
    split at h
    · rename_i es clock hb
      cases h
      cases hx with
      | map _ r hbr =>
      have hT : T b 0 := hp.cov (.rd b 0 1) (List.mem_cons_self ..) (lt_n hp.wf hb) b 0 ⟨rfl, Nat.le_refl _, Nat.one_pos⟩
      obtain ⟨r0, l, q1, q2, q3⟩ := hp.good.sat b _ hb ⟨0, hT⟩
      have : r0 = r := Option.some.inj (q1.symm.trans hbr)
      subst this
      have q3 : MR ρ es l.toList := q3
      have hl := q3.len
      rw [Array.length_toList] at hl
      refine ⟨ρ, w, .int .i64 es.length, ?_, Post.same hp.good rfl rfl (Still.refl w), .int _ _⟩
      simp only [Builtin.len_, ht, List.getElem?_toArray, List.getElem?_cons_zero, Sem.run_bind, run_underlying hu, Result.andThen_ok, MapKept.run_getObj_map q2, Sem.run_pure, goInt, hl]
    · cases h
  · rename_i _ n e hu
    cases h
    exact OK1.pure hp (v' := .int .i64 n) (by simp only [Builtin.len_, ht, List.getElem?_toArray, List.getElem?_cons_zero, Sem.run_bind, run_underlying hu, Result.andThen_ok, Sem.run_pure, goInt]) (.int _ _)
  · rename_i u _ hu
    split at h
    · rename_i n e hu2
      cases h
      exact OK1.pure hp (v' := .int .i64 n) (by simp only [Builtin.len_, ht, List.getElem?_toArray, List.getElem?_cons_zero, Sem.run_bind, run_underlying hu, run_underlying hu2, Result.andThen_ok, Sem.run_pure, goInt]) (.int _ _)
    · cases h
  · cases h
theorem foldMin_ok : ∀ {l : List AV} {vs : List Value} {x : AV} {x' : Value} {v : AV}, foldA minA x l = some v → VR ρ x x' → VRL ρ l vs → ∃ v', (vs.foldlM Builtin.min2 x').run P w = .ok v' w ∧ VR ρ v v'
  | [], _, x, x', v, h, hx, .nil => by simp [foldA] at h; subst h; exact ⟨x', rfl, hx⟩
  | y :: l, _, x, x', v, h, hx, .cons _ y' _ vs hy ht => by
    unfold foldA at h
    split at h
    · rename_i z hz
      unfold minA at hz
      split at hz
      · cases hz; cases hx; cases hy
        obtain ⟨v', h1, h2⟩ := foldMin_ok h (.int _ _) ht
        exact ⟨v', by simp [Builtin.min2, h1], h2⟩
      · cases hz
    · cases h
theorem foldMax_ok : ∀ {l : List AV} {vs : List Value} {x : AV} {x' : Value} {v : AV}, foldA maxA x l = some v → VR ρ x x' → VRL ρ l vs → ∃ v', (vs.foldlM Builtin.max2 x').run P w = .ok v' w ∧ VR ρ v v'
  | [], _, x, x', v, h, hx, .nil => by simp [foldA] at h; subst h; exact ⟨x', rfl, hx⟩
  | y :: l, _, x, x', v, h, hx, .cons _ y' _ vs hy ht => by
    unfold foldA at h
    split at h
    · rename_i z hz
      unfold maxA at hz
      split at hz
      · cases hz; cases hx; cases hy
        obtain ⟨v', h1, h2⟩ := foldMax_ok h (.int _ _) ht
        exact ⟨v', by simp [Builtin.max2, h1], h2⟩
      · cases hz
    · cases h
theorem aBuiltin_mono {b : Builtin} {ts : Array TypeId} {args : List AV} {v : AV} (hwf : WfS s) (h : aBuiltin P b ts args s = some (v, s')) : Mono s s' := by
  unfold aBuiltin at h
  split at h
  · split at h
    · exact lenA_mono h
    · cases h
  · split at h
    · exact bAppend_mono hwf h
    · exact bAppend_mono hwf h
    · cases h
  · split at h
    · split at h
      · cases h; exact Mono.refl _
      · cases h
    · cases h
  · split at h
    · split at h
      · cases h; exact Mono.refl _
      · cases h
    · cases h
  · split at h
    · cases h; exact Mono.refl _
    · cases h
  · split at h
    · exact stringA_mono h
    · cases h
  · split at h
    · exact opDelete_mono (unit_inv h).1
    · cases h
  · split at h
    · exact opClear_mono (unit_inv h).1
    · cases h
  · cases h
theorem val_inv {x : Option AV} {v : AV} (h : val s x = some (v, s')) : x = some v ∧ s' = s := by
  unfold val at h
  split at h
  · cases h; exact ⟨rfl, rfl⟩
  · cases h
theorem aop_mono {o : Op} {v : AV} (hwf : WfS s) (h : aop P aa o s = some (v, s')) : Mono s s' := by
  unfold aop at h
  split at h
  case h_3 => split at h <;> first | (cases h; done) | (cases h; exact Mono.refl _)
  case h_4 => split at h <;> first | (cases h; done) | (cases h; exact Mono.new _ _)
  case h_5 => split at h <;> first | (cases h; done) | (cases h; exact Mono.new _ _)
  case h_7 => exact opBuildSlice_mono h
  case h_8 => exact opLoad_mono h
  case h_9 => exact opStore_mono (unit_inv h).1
  case h_10 => split at h <;> first | (cases h; done) | (cases h; exact Mono.refl _)
  case h_13 =>
    split at h
    · exact conv_mono h
    · cases h
  case h_14 => split at h <;> first | (cases h; done) | (cases h; exact Mono.refl _)
  case h_16 => cases h; exact Mono.new _ _
  case h_17 => exact opMakeSlice_mono h
  case h_18 =>
    split at h
    · exact opSliceArr_mono h
    · rw [(val_inv h).2]; exact Mono.refl _
  case h_23 =>
    split at h
    · rename_i hx
      exact opLookupP_mono hx h
    · exact opLookup_mono h
  case h_24 => exact opUpdate_mono (unit_inv h).1
  case h_25 => exact opUpdate_mono (unit_inv h).1
  case h_26 => exact opRange_mono h
  case h_27 => exact opNext_mono h
  case h_28 => exact opNextS_mono h
  case h_29 => exact opEntry_mono h
  case h_31 =>
    split at h
    · rw [(val_inv h).2]; exact Mono.refl _
    · cases h
  case h_32 => exact aBuiltin_mono hwf h
  all_goals first | (cases h; done) | (cases h; exact Mono.refl _) | (rw [(val_inv h).2]; exact Mono.refl _)
def Yld (P : Program) (a : Act) (o : Oper) (w : World) (v : Value) (w' : World) : Prop := (execOp a.eval o).run P w = .ok (.value v) w' ∨ ((execOp a.eval o).run P w = .ok .skip w' ∧ v = undef)
def OpsR (ρ : Env) (aa : AAct) (a : Act) (o : Op) : Prop := ∀ x ∈ o.operands, VR ρ (aeval aa x) (a.eval x)
theorem args_ok {xs : Array Operand} (h : ∀ x ∈ xs, VR ρ (aeval aa x) (a.eval x)) : VRL ρ (xs.toList.map (aeval aa)) (xs.map a.eval).toList := by
  rw [Array.toList_map]
  exact VRL.map _ _ _ (fun x hx => h x (Array.mem_toList_iff.1 hx))
theorem opt_ok {x : Option Operand} (h : ∀ y, x = some y → VR ρ (aeval aa y) (a.eval y)) : VRO ρ (x.map (aeval aa)) (x.map a.eval) := by
  cases x with
  | none => exact .none
  | some x => exact .some _ _ (h x rfl)
theorem parts_ok {ps : Array (Nat × Operand)} (h : ∀ p ∈ ps, VR ρ (aeval aa p.2) (a.eval p.2)) : PR ρ (parts aa ps) (ps.map fun (i, x) => (i, a.eval x)).toList := by
  unfold Rk.parts
  rw [Array.toList_map]
  have : ∀ l : List (Nat × Operand), (∀ p ∈ l, VR ρ (aeval aa p.2) (a.eval p.2)) → PR ρ (l.map fun p => (p.1, aeval aa p.2)) (l.map fun (i, x) => (i, a.eval x)) := by
    intro l
    induction l with
    | nil => exact fun _ => .nil
    | cons p l ih => exact fun h => .cons p.1 _ _ _ _ (h p (by simp)) (ih (fun q hq => h q (by simp [hq])))
  exact this _ (fun p hp => h p (Array.mem_toList_iff.1 hp))
theorem yld_pure {o : Oper} {m : Sem Value} {v : AV} {v' : Value} (he : execOp a.eval o = do pure (.value (← m))) (hp : Pre ρ T s s w) (hm : m.run P w = .ok v' w) (hv : VR ρ v v') : ∃ ρ' w' v', Yld P a o w v' w' ∧ Post ρ T s w ρ' s w' ∧ VR ρ' v v' :=
  ⟨ρ, w, v', .inl (by rw [he]; simp [hm]), Post.same hp.good rfl rfl (Still.refl w), hv⟩
theorem yld_ok1 {o : Oper} {m : Sem Value} {v : AV} (he : execOp a.eval o = do pure (.value (← m))) (h : OK1 P m ρ T s w v s') : ∃ ρ' w' v', Yld P a o w v' w' ∧ Post ρ T s w ρ' s' w' ∧ VR ρ' v v' := by
  obtain ⟨ρ', w', v', h1, h2, h3⟩ := h
  exact ⟨ρ', w', v', .inl (by rw [he]; simp [h1]), h2, h3⟩
theorem yld_unit {o : Oper} {m : Sem Unit} (he : execOp a.eval o = do m; pure .skip) (h : ∃ w', m.run P w = .ok () w' ∧ Post ρ T s w ρ s' w') : ∃ ρ' w' v', Yld P a o w v' w' ∧ Post ρ T s w ρ' s' w' ∧ VR ρ' undefA v' := by
  obtain ⟨w', h1, h2⟩ := h
  exact ⟨ρ, w', undef, .inr ⟨by rw [he]; simp [h1], rfl⟩, h2, undef_ok⟩
theorem aop_ok {o : Oper} {v : AV} (h : aop P aa o.op s = some (v, s')) (hp : Pre ρ T s s' w) (ha : OpsR ρ aa a o.op) : ∃ ρ' w' v', Yld P a o w v' w' ∧ Post ρ T s w ρ' s' w' ∧ VR ρ' v v' := by
  unfold aop at h
  split at h
  · rename_i x ho
    cases h
    exact ⟨ρ, w, _, .inl (by unfold execOp; rw [ho]; rfl), Post.same hp.good rfl rfl (Still.refl w), ha x (by rw [ho]; simp [Op.operands])⟩
  · rename_i x ho
    cases h
    exact ⟨ρ, w, _, .inl (by unfold execOp; rw [ho]; rfl), Post.same hp.good rfl rfl (Still.refl w), ha x (by rw [ho]; simp [Op.operands])⟩
  · rename_i c x y ho
    split at h
    · rename_i b hc
      cases h
      have hcv := ha c (by rw [ho]; simp [Op.operands])
      rw [hc] at hcv
      generalize hcc : a.eval c = c' at hcv
      cases hcv
      refine ⟨ρ, w, if b then a.eval x else a.eval y, .inl (by unfold execOp; rw [ho]; simp [hcc, asBool]), Post.same hp.good rfl rfl (Still.refl w), ?_⟩
      cases b
      · exact ha y (by rw [ho]; simp [Op.operands])
      · exact ha x (by rw [ho]; simp [Op.operands])
    · cases h
  · rename_i t ho
    split at h
    · rename_i z hz
      cases h
      exact yld_ok1 (by unfold execOp; rw [ho]) (opAlloc_ok hz hp)
    · cases h
  · rename_i t x ho
    split at h
    · rename_i c hc
      cases h
      exact yld_ok1 (by unfold execOp; rw [ho]) (opBox_ok hc hp (ha x (by rw [ho]; simp [Op.operands])))
    · cases h
  · rename_i t ps ho
    obtain ⟨h1, rfl⟩ := val_inv h
    obtain ⟨v', h2, h3⟩ := opBuild_ok (P := P) (ρ := ρ) (w := w) h1 (parts_ok (fun p hp => ha p.2 (by rw [ho]; simp [Op.operands]; exact ⟨p.1, hp⟩)))
    exact yld_pure (by unfold execOp; rw [ho]) hp h2 h3
  · rename_i t len ps ho
    exact yld_ok1 (by unfold execOp; rw [ho]) (opBuildSlice_ok h hp (parts_ok (fun p hp => ha p.2 (by rw [ho]; simp [Op.operands]; exact ⟨p.1, hp⟩))))
  · rename_i t x ho
    exact yld_ok1 (by unfold execOp; rw [ho]) (opLoad_ok h hp (ha x (by rw [ho]; simp [Op.operands])))
  · rename_i t x y ho
    obtain ⟨h1, rfl⟩ := unit_inv h
    exact yld_unit (by unfold execOp; rw [ho]) (opStore_ok h1 hp (ha x (by rw [ho]; simp [Op.operands])) (ha y (by rw [ho]; simp [Op.operands])))
  · rename_i x ho
    have hxv := ha x (by rw [ho]; simp [Op.operands])
    split at h
    · rename_i b off hx
      cases h
      rw [hx] at hxv
      generalize hcc : a.eval x = x' at hxv
      cases hxv with
      | ptr _ _ r hb => exact ⟨ρ, w, _, .inl (by unfold execOp; rw [ho]; simp only [hcc]; rfl), Post.same hp.good rfl rfl (Still.refl w), .ptr _ _ r hb⟩
    · rename_i f k l hx
      cases h
      rw [hx] at hxv
      generalize hcc : a.eval x = x' at hxv
      cases hxv with
      | func _ _ _ k' l' h1 h2 => exact ⟨ρ, w, _, .inl (by unfold execOp; rw [ho]; simp only [hcc]; rfl), Post.same hp.good rfl rfl (Still.refl w), .func _ _ _ k' l' h1 h2⟩
    · rename_i t v0 hx
      cases h
      rw [hx] at hxv
      generalize hcc : a.eval x = x' at hxv
      cases hxv with
      | iface _ _ v1 h1 => exact ⟨ρ, w, _, .inl (by unfold execOp; rw [ho]; simp only [hcc]; rfl), Post.same hp.good rfl rfl (Still.refl w), .iface _ _ v1 h1⟩
    · cases h
  · rename_i op t x y _ ho
    obtain ⟨h1, rfl⟩ := val_inv h
    obtain ⟨v', h2, h3⟩ := bop_ok (P := P) (ρ := ρ) (w := w) h1 (ha x (by rw [ho]; simp [Op.operands])) (ha y (by rw [ho]; simp [Op.operands]))
    exact yld_pure (by unfold execOp; rw [ho]) hp h2 h3
  · rename_i op _ x ho
    obtain ⟨h1, rfl⟩ := val_inv h
    obtain ⟨v', h2, h3⟩ := uop_ok (P := P) (ρ := ρ) (w := w) h1 (ha x (by rw [ho]; simp [Op.operands]))
    exact yld_pure (by unfold execOp; rw [ho]) hp h2 h3
  · rename_i src dst x ho
    split at h
    · rename_i hs
      exact yld_ok1 (by unfold execOp; rw [ho]) (conv_ok h (Option.isSome_iff_exists.1 hs) hp (ha x (by rw [ho]; simp [Op.operands])))
    · cases h
  · rename_i t x ho
    split at h
    · cases h
    · rename_i d hd hu
      cases h
      refine yld_pure (m := Instr.makeInterface t (a.eval x)) (v' := .iface t (a.eval x)) (by unfold execOp; rw [ho]) hp ?_ (.iface _ _ _ (ha x (by rw [ho]; simp [Op.operands])))
      cases d <;> first | (simp [Instr.makeInterface, run_underlying hu]; done) | exact absurd rfl (hd _)
    · cases h
  · rename_i f first cap ho
    cases h
    exact ⟨ρ, w, _, .inl (by unfold execOp; rw [ho]; rfl), Post.same hp.good rfl rfl (Still.refl w), .func _ _ _ _ _ (args_ok (fun x hx => ha x (by rw [ho]; simp [Op.operands, hx]))) (args_ok (fun x hx => ha x (by rw [ho]; simp [Op.operands, hx])))⟩
  · rename_i t ho
    cases h
    have hf : ρ s.n = none := hp.fresh s.n (Nat.le_refl _) (Nat.lt_succ_self _)
    refine ⟨_, _, .map (some w.heap.size), .inl (by unfold execOp; rw [ho]; simp [Instr.makeMap]), Post.made (o := .map #[] 0) (r := ⟨w.heap.size, 0, 0⟩) hp.good hp.wf hf hp.tn (Add.push w _) rfl ⟨_, #[], Env.add_self _ _, (Add.push w _).here, MR.nil⟩, .map s.n _ (Env.add_self _ _)⟩
  · rename_i t l c ho
    exact yld_ok1 (by unfold execOp; rw [ho]) (opMakeSlice_ok h hp (ha l (by rw [ho]; simp [Op.operands])) (ha c (by rw [ho]; simp [Op.operands])))
  · rename_i t x lo hi mx ho
    split at h
    · rename_i b off hx
      have hxv := ha x (by rw [ho]; simp [Op.operands])
      rw [hx] at hxv
      exact yld_ok1 (by unfold execOp; rw [ho]) (opSliceArr_ok h hp hxv (opt_ok (fun x hx => ha x (by rw [ho]; simp [Op.operands, hx]))) (opt_ok (fun x hx => ha x (by rw [ho]; simp [Op.operands, hx]))) (opt_ok (fun x hx => ha x (by rw [ho]; simp [Op.operands, hx]))))
    · obtain ⟨h1, rfl⟩ := val_inv h
      obtain ⟨v', h2, h3⟩ := opSlice_ok (P := P) (ρ := ρ) (w := w) h1 (ha x (by rw [ho]; simp [Op.operands])) (opt_ok (fun x hx => ha x (by rw [ho]; simp [Op.operands, hx]))) (opt_ok (fun x hx => ha x (by rw [ho]; simp [Op.operands, hx]))) (opt_ok (fun x hx => ha x (by rw [ho]; simp [Op.operands, hx])))
      exact yld_pure (by unfold execOp; rw [ho]) hp h2 h3
  · rename_i t x f ho
    obtain ⟨h1, rfl⟩ := val_inv h
    obtain ⟨v', h2, h3⟩ := opFieldAddr_ok (P := P) (ρ := ρ) (w := w) h1 (ha x (by rw [ho]; simp [Op.operands]))
    exact yld_pure (by unfold execOp; rw [ho]) hp h2 h3
  · rename_i t x f ho
    obtain ⟨h1, rfl⟩ := val_inv h
    obtain ⟨v', h2, h3⟩ := opField_ok (P := P) (ρ := ρ) (w := w) h1 (ha x (by rw [ho]; simp [Op.operands]))
    exact yld_pure (by unfold execOp; rw [ho]) hp h2 h3
  · rename_i t x i ho
    obtain ⟨h1, rfl⟩ := val_inv h
    obtain ⟨v', h2, h3⟩ := opIndexAddr_ok (P := P) (ρ := ρ) (w := w) h1 (ha x (by rw [ho]; simp [Op.operands])) (ha i (by rw [ho]; simp [Op.operands]))
    exact yld_pure (by unfold execOp; rw [ho]) hp h2 h3
  · rename_i t x i ho
    obtain ⟨h1, rfl⟩ := val_inv h
    obtain ⟨v', h2, h3⟩ := opIndex_ok (P := P) (ρ := ρ) (w := w) h1 (ha x (by rw [ho]; simp [Op.operands])) (ha i (by rw [ho]; simp [Op.operands]))
    exact yld_pure (by unfold execOp; rw [ho]) hp h2 h3
  · rename_i t x i ok ho
    split at h
    · rename_i b es hx
      exact yld_ok1 (by unfold execOp; rw [ho]) (opLookupP_ok hx h hp (ha x (by rw [ho]; simp [Op.operands])) (ha i (by rw [ho]; simp [Op.operands])))
    exact yld_ok1 (by unfold execOp; rw [ho]) (opLookup_ok h hp (ha x (by rw [ho]; simp [Op.operands])) (ha i (by rw [ho]; simp [Op.operands])))
  · rename_i t m k x ho
    obtain ⟨h1, rfl⟩ := unit_inv h
    exact yld_unit (by unfold execOp; rw [ho]) (opUpdate_ok h1 hp (ha m (by rw [ho]; simp [Op.operands])) (ha k (by rw [ho]; simp [Op.operands])) (ha x (by rw [ho]; simp [Op.operands])))
  · rename_i t m k x ho
    obtain ⟨h1, rfl⟩ := unit_inv h
    exact yld_unit (by unfold execOp; rw [ho]) (opUpdate_ok h1 hp (ha m (by rw [ho]; simp [Op.operands])) (ha k (by rw [ho]; simp [Op.operands])) (ha x (by rw [ho]; simp [Op.operands])))
  · rename_i t x ho
    exact yld_ok1 (by unfold execOp; rw [ho]) (opRange_ok h hp (ha x (by rw [ho]; simp [Op.operands])))
  · rename_i x ho
    exact yld_ok1 (by unfold execOp; rw [ho]) (opNext_ok (ty := o.type) h hp (ha x (by rw [ho]; simp [Op.operands])))
  · rename_i x ho
    exact yld_ok1 (by unfold execOp; rw [ho]) (opNextS_ok (ty := o.type) h hp (ha x (by rw [ho]; simp [Op.operands])))
  · rename_i x ho
    exact yld_ok1 (by unfold execOp; rw [ho]) (opEntry_ok h hp (ha x (by rw [ho]; simp [Op.operands])))
  · rename_i x tx t ok ho
    obtain ⟨h1, rfl⟩ := val_inv h
    obtain ⟨v', h2, h3⟩ := opAssert_ok (P := P) (ρ := ρ) (w := w) (tx := tx) h1 (ha x (by rw [ho]; simp [Op.operands]))
    exact yld_pure (by unfold execOp; rw [ho]) hp h2 h3
  · rename_i t i ho
    split at h
    · rename_i vs hx
      obtain ⟨h1, rfl⟩ := val_inv h
      have hxv := ha t (by rw [ho]; simp [Op.operands])
      rw [hx] at hxv
      generalize hcc : a.eval t = x' at hxv
      cases hxv with
      | tuple _ vs' hvs =>
      obtain ⟨v', h2, h3⟩ := hvs.aget h1
      exact yld_pure (m := Instr.extract (.tuple vs') i) (by unfold execOp; rw [ho]; simp only [hcc]) hp (by simp [Instr.extract, h2]) h3
    · cases h
  · rename_i b args argTypes ho
    have hargs := args_ok (ρ := ρ) (aa := aa) (a := a) (xs := args) (fun x hx => ha x (by rw [ho]; simp [Op.operands, Call.operands, hx]))
    have he : ∃ c : Array Bool, ∀ w1, (execOp a.eval o).run P w1 = (builtin b argTypes o.type c (args.map a.eval)).run P w1 := ⟨_, fun w1 => by
      unfold execOp
      rw [ho]
      simp only [resolve, invoke, Sem.run_bind, Sem.run_pure, Result.andThen_ok]
      rfl⟩
    obtain ⟨cc, he⟩ := he
    generalize hal : args.toList.map (aeval aa) = al at h hargs
    generalize hvl : args.map a.eval = vl at hargs he
    have kv : ∀ (m : Sem Value), builtin b argTypes o.type cc vl = (do pure (.value (← m))) → OK1 P m ρ T s w v s' → ∃ ρ' w' v', Yld P a o w v' w' ∧ Post ρ T s w ρ' s' w' ∧ VR ρ' v v' := fun m hb ⟨ρ', w', v', k1, k2, k3⟩ => by
      refine ⟨ρ', w', v', .inl ?_, k2, k3⟩
      rw [he, hb]
      simp [k1]
    have one_ : ∀ {x : AV}, VRL ρ [x] vl.toList → ∃ x', vl = #[x'] ∧ VR ρ x x' := fun {x} hh => by
      rcases vl with ⟨l⟩
      cases hh with
      | cons _ x' _ _ hx ht => cases ht; exact ⟨x', rfl, hx⟩
    have two_ : ∀ {x y : AV}, VRL ρ [x, y] vl.toList → ∃ x' y', vl = #[x', y'] ∧ VR ρ x x' ∧ VR ρ y y' := fun {x y} hh => by
      rcases vl with ⟨l⟩
      cases hh with
      | cons _ x' _ _ hx ht => cases ht with
        | cons _ y' _ _ hy ht => cases ht; exact ⟨x', y', rfl, hx, hy⟩
    have more_ : ∀ {x : AV} {l : List AV}, VRL ρ (x :: l) vl.toList → ∃ x' l', vl = ⟨x' :: l'⟩ ∧ VR ρ x x' ∧ VRL ρ l l' := fun {x l} hh => by
      rcases vl with ⟨l⟩
      cases hh with
      | cons _ x' _ l' hx ht => exact ⟨x', l', rfl, hx, ht⟩
    unfold aBuiltin at h
    split at h
    · split at h
      · rename_i x
        obtain ⟨x', rfl, hx⟩ := one_ hargs
        cases ht : argTypes[0]? with
        | none => rw [ht] at h; simp [lenA] at h
        | some t =>
          rw [ht] at h
          exact kv (Builtin.len_ argTypes o.type #[x']) rfl (lenA_ok ht h hp hx)
      · cases h
    · split at h
      · rename_i t x y e ht hu
        obtain ⟨x', y', rfl, hx, hy⟩ := two_ hargs
        obtain ⟨u, hu1, hu2⟩ := Option.bind_eq_some_iff.1 hu
        have happ : Builtin.append_ argTypes o.type #[x', y'] = Builtin.append_ #[t, u] o.type #[x', y'] := by
          unfold Builtin.append_
          simp only [ht, hu1, List.getElem?_toArray, List.getElem?_cons_zero, List.getElem?_cons_succ]
        exact kv (Builtin.append_ #[t, u] o.type #[x', y']) (by rw [← happ]; rfl) (bAppend_ok h (.inl ⟨_, hu2⟩) hp hx hy)
      · rename_i t x y ht hu
        obtain ⟨x', y', rfl, hx, hy⟩ := two_ hargs
        obtain ⟨u, hu1, hu2⟩ := Option.bind_eq_some_iff.1 hu
        have happ : Builtin.append_ argTypes o.type #[x', y'] = Builtin.append_ #[t, u] o.type #[x', y'] := by
          unfold Builtin.append_
          simp only [ht, hu1, List.getElem?_toArray, List.getElem?_cons_zero, List.getElem?_cons_succ]
        exact kv (Builtin.append_ #[t, u] o.type #[x', y']) (by rw [← happ]; rfl) (bAppend_ok h (.inr hu2) hp hx hy)
      · cases h
    · split at h
      · rename_i x l
        split at h
        · rename_i hf
          cases h
          obtain ⟨x', l', rfl, hx, hl⟩ := more_ hargs
          obtain ⟨v', h1, h2⟩ := foldMin_ok (P := P) (w := w) hf hx hl
          exact kv (Builtin.min_ argTypes o.type ⟨x' :: l'⟩) rfl (OK1.pure hp (by simpa [Builtin.min_] using h1) h2)
        · cases h
      · cases h
    · split at h
      · rename_i x l
        split at h
        · rename_i hf
          cases h
          obtain ⟨x', l', rfl, hx, hl⟩ := more_ hargs
          obtain ⟨v', h1, h2⟩ := foldMax_ok (P := P) (w := w) hf hx hl
          exact kv (Builtin.max_ argTypes o.type ⟨x' :: l'⟩) rfl (OK1.pure hp (by simpa [Builtin.max_] using h1) h2)
        · cases h
      · cases h
    · split at h
      · rename_i hf
        cases h
        rcases al with _ | ⟨x, _ | ⟨y, l⟩⟩
        · simp [sliceDataA] at hf
        · obtain ⟨x', rfl, hx⟩ := one_ hargs
          exact kv (Builtin.unsafeSliceData_ argTypes o.type #[x']) rfl (sliceDataA_ok hf hp hx)
        · unfold sliceDataA at hf
          split at hf <;> rename_i he <;> first | (cases he; done) | cases hf
      · cases h
    · split at h
      · rename_i t it hts
        have hat : argTypes = #[t, it] := by rw [← Array.toList_inj]; exact hts
        rcases al with _ | ⟨x, _ | ⟨y, _ | ⟨z, l⟩⟩⟩
        · simp [stringA] at h
        · unfold stringA at h
          split at h <;> rename_i he <;> first | (cases he; done) | cases h
        · obtain ⟨x', y', rfl, hx, hy⟩ := two_ hargs
          refine kv (Builtin.unsafeString_ argTypes o.type #[x', y']) rfl ?_
          rw [hat]
          exact stringA_ok h hp hx hy
        · unfold stringA at h
          split at h <;> rename_i he <;> first | (cases he; done) | cases h
      · cases h
    · split at h
      · rename_i t m k ht
        obtain ⟨m', k', rfl, hm, hk⟩ := two_ hargs
        obtain ⟨h1, rfl⟩ := unit_inv h
        exact kv (Builtin.delete_ argTypes o.type #[m', k']) rfl (opDelete_ok ht h1 hp hm hk)
      · cases h
    · split at h
      · rename_i t x ht
        obtain ⟨x', rfl, hx⟩ := one_ hargs
        obtain ⟨h1, rfl⟩ := unit_inv h
        exact kv (Builtin.clear_ argTypes o.type #[x']) rfl (opClear_ok ht h1 hp hx)
      · cases h
    · cases h
  · cases h
end
end Go.Proofs.YtmabpnmnppfgaaaGreatDoor.Rk
namespace Go.Proofs.YtmabpnmnppfgaaaGreatDoor.Rk
open Go
set_option linter.unusedVariables false
def FW (r : Option Nat) : Fence := { Fence.wide with round := r }
def ResR (ρ : Env) : Res → Ending → Prop
  | .ret v, .returned v' => VR ρ v v'
  | .pan v, .panicked ch => ∃ v', ch = [{ v := v', recovered := false }] ∧ VR ρ v v'
  | _, _ => False
def CSound (P : Program) (C : Callee) : Prop := ∀ f args s res s', C f args s = some (res, s') → WfS s → Mono s s' ∧ ∀ (ρ : Env) (T : Nat → Nat → Prop) (w : World) (vs : Array Value), Pre ρ T s s' w → VRL ρ args vs.toList →
  (∀ w1, (callFunc f vs).run P w1 = .ok (.enter f vs) w1) ∧ ∀ n, CallsIn Fence.wide n P f vs w (fun e w' => ∃ ρ', Post ρ T s w ρ' s' w' ∧ ResR ρ' res e)
def YSound (P : Program) (Y : Yielder) : Prop := ∀ b args s res s', Y b args s = some (res, s') → WfS s → Mono s s' ∧ ∀ (ρ : Env) (T : Nat → Nat → Prop) (w : World) (vs : Array Value), Pre ρ T s s' w → VRL ρ args vs.toList → ∀ r, ρ b = some r →
  ∃ f tmps assign body, (Instr.yield r.blk vs).run P w = .ok (.round r.blk f tmps assign body) w ∧ ∀ rr n, RoundIn (FW rr) n P r.blk f tmps assign body w (fun e w' => ∃ ρ', Post ρ T s w ρ' s' w' ∧ ResR ρ' res e)
section
variable {P : Program} {ρ : Env} {T : Nat → Nat → Prop} {s s' : St} {w w' : World} {aa : AAct} {a : Act} {C : Callee} {Y : Yielder}
theorem val_wp {r : Option Nat} {n : Nat} {o : Oper} {v : Value} {K : Act → World → Prop} {Q : Exit → Act → World → Prop} (hd : ∀ c, o.op ≠ .defer c) (hy : Yld P a o w v w') (hk : K (a.put o.dst v) w') : o.wpIn (FW r) n P a w K Q := by
  refine ⟨fun _ _ => trivial, ?_⟩
  rw [Oper.semAt_eq _ _ _ hd]
  rcases hy with hy | ⟨hy, rfl⟩
  · rw [hy]; exact hk
  · rw [hy]; exact hk
theorem oneVal_mono {o : Oper} {res : Res} (hC : CSound P C) (hY : YSound P Y) (h : oneVal P C Y aa o s = some (res, s')) (hwf : WfS s) : Mono s s' := by
  unfold oneVal at h
  split at h
  · split at h
    · exact (hC _ _ _ _ _ h hwf).1
    · exact (hY _ _ _ _ _ h hwf).1
    · cases h
  · split at h
    · cases h; exact Mono.refl _
    · cases h
  · cases h
  · split at h
    · rename_i ho
      cases h
      exact aop_mono hwf ho
    · cases h
theorem oneVal_ok {o : Oper} {res : Res} (hC : CSound P C) (hY : YSound P Y) (h : oneVal P C Y aa o s = some (res, s')) (hp : Pre ρ T s s' w) (ha : OpsR ρ aa a o.op) {r : Option Nat} {n : Nat} {K : Act → World → Prop} {Q : Exit → Act → World → Prop}
    (hk : ∀ ρ' w', Post ρ T s w ρ' s' w' → match res with
      | .ret v => ∀ v', VR ρ' v v' → K (a.put o.dst v') w'
      | .pan v => ∀ v', VR ρ' v v' → Q (.panic [{ v := v', recovered := false }]) a w') : o.wpIn (FW r) n P a w K Q := by
  have hwf := hp.wf
  unfold oneVal at h
  split at h
  · rename_i g args ats ho
    have hargs := args_ok (ρ := ρ) (aa := aa) (a := a) (xs := args) (fun x hx => ha x (by rw [ho]; simp [Op.operands, Call.operands, hx]))
    have hg := ha g (by rw [ho]; simp [Op.operands, Call.operands])
    have hnd : ∀ c, o.op ≠ .defer c := fun c => by rw [ho]; simp
    split at h
    · rename_i f first cap hf
      rw [hf] at hg
      generalize hgg : a.eval g = g' at hg
      cases hg with
      | func _ _ _ k' l' h1 h2 =>
      have hall : VRL ρ (first ++ args.toList.map (aeval aa) ++ cap) (k' ++ args.map a.eval ++ l').toList := by
        simp only [Array.toList_append]
        exact (h1.append hargs).append h2
      obtain ⟨_, hc⟩ := hC _ _ _ _ _ h hwf
      obtain ⟨he, hcall⟩ := hc ρ T w _ hp hall
      have hrun : (execOp a.eval o).run P w = .ok (.enter f (k' ++ args.map a.eval ++ l')) w := by
        unfold execOp
        rw [ho]
        simp only [resolve, hgg, Deferred.ofValue, Sem.run_bind, Sem.run_pure, Result.andThen_ok, invoke]
        exact he w
      refine ⟨fun _ _ => trivial, ?_⟩
      rw [Oper.semAt_eq _ _ _ hnd, hrun, Oper.uponIn_enter]
      refine ⟨fun hh => by simp [FW, Fence.wide] at hh, ?_⟩
      have hcall2 : CallsIn (FW r) (n - 1) P f (k' ++ args.map a.eval ++ l') w (fun e w' => ∃ ρ', Post ρ T s w ρ' s' w' ∧ ResR ρ' res e) := hcall (n - 1)
      refine hcall2.mono (fun e w2 ⟨ρ', hpost, hres⟩ => ?_)
      have hk' := hk ρ' w2 hpost
      cases res with
      | ret v =>
        cases e with
        | returned v' => exact hk' v' hres
        | panicked ch => exact hres.elim
        | outgrown => exact hres.elim
      | pan v =>
        cases e with
        | returned v' => exact hres.elim
        | panicked ch => obtain ⟨v', rfl, hv⟩ := hres; exact hk' v' hv
        | outgrown => exact hres.elim
    · rename_i b hf
      rw [hf] at hg
      generalize hgg : a.eval g = g' at hg
      cases hg with
      | yield _ rb hb =>
      obtain ⟨_, hc⟩ := hY _ _ _ _ _ h hwf
      obtain ⟨f, tmps, assign, body, he, hround⟩ := hc ρ T w _ hp hargs rb hb
      have hrun : (execOp a.eval o).run P w = .ok (.round rb.blk f tmps assign body) w := by
        unfold execOp
        rw [ho]
        simp only [resolve, hgg, Deferred.ofValue, Sem.run_bind, Sem.run_pure, Result.andThen_ok, invoke]
        simpa using he
      refine ⟨fun _ _ => trivial, ?_⟩
      rw [Oper.semAt_eq _ _ _ hnd, hrun, Oper.uponIn_round]
      refine ⟨fun hh => by simp [FW, Fence.wide] at hh, ?_⟩
      refine (hround r (n - 1)).mono (fun e w2 ⟨ρ', hpost, hres⟩ => ?_)
      have hk' := hk ρ' w2 hpost
      cases res with
      | ret v =>
        cases e with
        | returned v' => exact hk' v' hres
        | panicked ch => exact hres.elim
        | outgrown => exact hres.elim
      | pan v =>
        cases e with
        | returned v' => exact hres.elim
        | panicked ch => obtain ⟨v', rfl, hv⟩ := hres; exact hk' v' hv
        | outgrown => exact hres.elim
    · cases h
  · rename_i x ho
    split at h
    · rename_i t v0 hx
      cases h
      have hxv := ha x (by rw [ho]; simp [Op.operands])
      rw [hx] at hxv
      have hnd : ∀ c, o.op ≠ .defer c := fun c => by rw [ho]; simp
      have hk' := hk ρ w (Post.same hp.good rfl rfl (Still.refl w)) _ hxv
      generalize hgg : a.eval x = x' at hxv hk'
      cases hxv with
      | iface _ _ v1 h1 =>
      refine ⟨fun _ _ => trivial, ?_⟩
      have hrun : (execOp a.eval o).run P w = .halt (.panic (.iface t v1)) w := by
        unfold execOp
        rw [ho]
        simp only [hgg, Sem.run_bind]
        rfl
      rw [Oper.semAt_eq _ _ _ hnd, hrun]
      exact hk'
    · cases h
  · cases h
  · rename_i hne1 hne2 hne3
    split at h
    · rename_i v s1 ho
      cases h
      obtain ⟨ρ', w', v', h1, h2, h3⟩ := aop_ok ho hp ha
      exact val_wp (fun c hc => hne3 c hc) h1 (hk ρ' w' h2 v' h3)
    · cases h
end
end Go.Proofs.YtmabpnmnppfgaaaGreatDoor.Rk
namespace Go.Proofs.YtmabpnmnppfgaaaGreatDoor.Rk
open Go
set_option linter.unusedVariables false
def OR.st : OR → Option St
  | .ok _ s => some s
  | .pan _ _ s => some s
  | .no => none
def ORQ (Q : Exit → Act → World → Prop) (ρ : Env) (T : Nat → Nat → Prop) (s : St) (w : World) : OR → Prop
  | .ok aa s' => ∀ ρ' a w', Post ρ T s w ρ' s' w' → ActR ρ' aa a → Q .normal a w'
  | .pan aa v s' => ∀ ρ' a w' v', Post ρ T s w ρ' s' w' → ActR ρ' aa a → VR ρ' v v' → Q (.panic [{ v := v', recovered := false }]) a w'
  | .no => False
section
variable {P : Program} {ρ : Env} {T : Nat → Nat → Prop} {s s' : St} {w w' : World} {aa : AAct} {a : Act} {C : Callee} {Y : Yielder}
theorem wanted_ok {ops : List Oper} {opsA : Array Oper} {o : Oper} {b : Bool} (h : wantedA ops o aa = some b) (hop : opsA.toList = ops) (hg : ∀ j c d, o.guard = some (j, c) → (ops[j]?).bind (·.dst) = some d → VR ρ (aa.get d) (a.tmps.getD d undef)) : Region.wanted o (yielded opsA a.tmps) = b := by
  unfold wantedA at h
  unfold Region.wanted yielded
  cases hgd : o.guard with
  | none => rw [hgd] at h; cases h; rfl
  | some p =>
    obtain ⟨j, c⟩ := p
    rw [hgd] at h
    have he : opsA[j]? = ops[j]? := by rw [← hop, Array.getElem?_toList]
    simp only [he]
    simp only at h
    cases hd : (ops[j]?).bind (·.dst) with
    | none => rw [hd] at h; cases h; rfl
    | some d =>
      rw [hd] at h
      simp only at h
      have hv := hg j c d hgd hd
      simp only [Option.bind_some]
      split at h
      · rename_i b' hb
        cases h
        rw [hb] at hv
        have : a.tmps[d]? = some (.bool b') := by
          cases hx : a.tmps[d]? with
          | none => rw [Array.getD_eq_getD_getElem?, hx] at hv; cases hv
          | some x =>
            rw [Array.getD_eq_getD_getElem?, hx] at hv
            simp only [Option.getD_some] at hv
            cases hv
            rfl
        rw [this]
        cases b' <;> cases c <;> rfl
      · cases h
      · rename_i h1 h2
        cases h
        cases hx : a.tmps[d]? with
        | none => rfl
        | some x =>
          rw [Array.getD_eq_getD_getElem?, hx] at hv
          simp only [Option.getD_some] at hv
          cases x <;> first | rfl | skip
          rename_i bb
          generalize haa : aa.get d = y at *
          cases hv with
          | top => exact absurd rfl h2
          | bool => exact absurd rfl (h1 bb)
theorem ActR.ops (h : ActR ρ aa a) (o : Op) : OpsR ρ aa a o := fun x _ => h.eval x
theorem Post.refl (hp : Pre ρ T s s w) : Post ρ T s w ρ s w := Post.same hp.good rfl rfl (Still.refl w)
theorem oneOp_mono {R : Bool} {o : Oper} {x : OR} (hC : CSound P C) (hY : YSound P Y) (hwf : WfS s) (h : oneOp P C Y R aa o s = x) (hs : x.st = some s') : Mono s s' := by
  subst h
  unfold oneOp at hs
  split at hs
  · split at hs
    · split at hs
      · cases hs
      · cases hs; exact Mono.refl _
    · cases hs
  · cases hv : oneVal P C Y aa o s with
    | none => rw [hv] at hs; cases hs
    | some p =>
      obtain ⟨res, s1⟩ := p
      rw [hv] at hs
      have := oneVal_mono hC hY hv hwf
      cases res <;> (cases hs; exact this)
theorem oneOp_ok {R : Bool} {o : Oper} {x : OR} (hC : CSound P C) (hY : YSound P Y) (h : oneOp P C Y R aa o s = x) (hs : x.st = some s') (hp : Pre ρ T s s' w) (ha : ActR ρ aa a) {r : Option Nat} (hr : R = false → r = none) {n : Nat} {Q : Exit → Act → World → Prop} {K : Act → World → Prop}
    (hk : ORQ (fun e a w => match e with | .normal => K a w | e => Q e a w) ρ T s w x) : o.wpIn (FW r) n P a w K Q := by
  subst h
  unfold oneOp at hs hk
  split at hs
  · rename_i g args ats ho
    split at hs
    · rename_i f first cap hf
      split at hs
      · cases hs
      · rename_i hR
        cases hs
        have hrn := hr (by simpa using hR)
        subst hrn
        simp only [ho, hf] at hk
        rw [if_neg hR] at hk
        have hg := ha.eval g
        rw [hf] at hg
        generalize hgg : a.eval g = g' at hg
        cases hg with
        | func _ _ _ k' l' h1 h2 =>
        have hargs := ha.args args
        have hd : DefR ρ (.fn f (first ++ args.toList.map (aeval aa) ++ cap)) { target := .fn (.func f) l', args := k' ++ args.map a.eval } := .fn _ _ _ _ (by
          simp only [Array.toList_append]
          exact (h1.append hargs).append h2)
        have hrun : (execOp a.eval o).run P w = .ok (.defer { target := .fn (.func f) l', args := k' ++ args.map a.eval }) w := by
          unfold execOp
          rw [ho]
          simp only [resolve, hgg, Deferred.ofValue, Sem.run_bind, Sem.run_pure, Result.andThen_ok]
        refine ⟨fun _ _ => trivial, ?_⟩
        show o.uponIn (FW none) n P a K Q ((Oper.semAt none a.eval o).run P w)
        rw [Oper.semAt_none, hrun]
        have hact : ActR ρ { aa with defs := .fn f (first ++ args.toList.map (aeval aa) ++ cap) :: aa.defs } { a with defers := { target := .fn (.func f) l', args := k' ++ args.map a.eval } :: a.defers } := ⟨ha.size, ha.get, .cons _ _ _ _ hd ha.defs⟩
        exact hk ρ _ w (Post.refl hp) (hact.put o.dst undef_ok)
    · cases hs
  · rename_i hnd
    have hk : ORQ (fun e a w => match e with | .normal => K a w | e => Q e a w) ρ T s w (resOf aa o.dst (oneVal P C Y aa o s)) := by
      split at hk
      · rename_i g args ats ho
        exact absurd ho (hnd g args ats)
      · exact hk
    cases hv : oneVal P C Y aa o s with
    | none => rw [hv] at hs; cases hs
    | some p =>
      obtain ⟨res, s1⟩ := p
      rw [hv] at hs hk
      have hs1 : s1 = s' := by cases res <;> (cases hs; rfl)
      subst hs1
      refine oneVal_ok hC hY hv hp (ha.ops _) (fun ρ' w' hpost => ?_)
      cases res with
      | ret v => exact fun v' hvv => hk ρ' _ w' hpost ((ha.mono hpost.ext).put o.dst hvv)
      | pan v => exact fun v' hvv => hk ρ' a w' v' hpost (ha.mono hpost.ext) hvv
theorem runOps_mono {R : Bool} {ops : List Oper} (hC : CSound P C) (hY : YSound P Y) : ∀ (l : List Oper) {aa : AAct} {s : St} {x : OR} {s' : St}, WfS s → runOps P C Y R ops l aa s = x → x.st = some s' → Mono s s'
  | [], aa, s, x, s', hwf, h, hs => by
    unfold runOps at h
    subst h
    cases hs
    exact Mono.refl _
  | o :: l, aa, s, x, s', hwf, h, hs => by
    unfold runOps at h
    split at h
    · cases h1 : oneOp P C Y R aa o s with
      | no => rw [h1] at h; subst h; cases hs
      | pan aa1 v s1 =>
        rw [h1] at h
        subst h
        exact oneOp_mono hC hY hwf h1 hs
      | ok aa1 s1 =>
        rw [h1] at h
        have m1 := oneOp_mono hC hY hwf h1 rfl
        exact m1.trans (runOps_mono hC hY l (m1.wf hwf) h hs)
    · exact runOps_mono hC hY l hwf h hs
    · subst h; cases hs
theorem ORQ.after {Q : Exit → Act → World → Prop} {ρ1 : Env} {s1 : St} {w1 : World} {x : OR} {s' : St} (hs : x.st = some s') (m1 : Mono s s1) (m2 : Mono s1 s') (hpost : Post ρ T s w ρ1 s1 w1) (h : ORQ Q ρ T s w x) : ORQ Q ρ1 (Tn T s.n s1.n) s1 w1 x := by
  cases x with
  | no => cases hs
  | ok aa s2 => cases hs; exact fun ρ' a w' hp ha => h ρ' a w' (hpost.trans m1 m2 hp) ha
  | pan aa v s2 => cases hs; exact fun ρ' a w' v' hp ha hv => h ρ' a w' v' (hpost.trans m1 m2 hp) ha hv
theorem runOps_ok {R : Bool} {ops : List Oper} {opsA : Array Oper} (hop : opsA.toList = ops) (hC : CSound P C) (hY : YSound P Y) {r : Option Nat} (hr : R = false → r = none) {n : Nat} {Q : Exit → Act → World → Prop} : ∀ (l : List Oper) {aa : AAct} {s : St} {x : OR} {s' : St} {ρ : Env} {T : Nat → Nat → Prop} {w : World} {a : Act},
    runOps P C Y R ops l aa s = x → x.st = some s' → Pre ρ T s s' w → ActR ρ aa a → ORQ Q ρ T s w x → wpListIn (FW r) n P opsA Q l a w
  | [], aa, s, x, s', ρ, T, w, a, h, hs, hp, ha, hk => by
    unfold runOps at h
    subst h
    cases hs
    exact hk ρ a w (Post.refl hp) ha
  | o :: l, aa, s, x, s', ρ, T, w, a, h, hs, hp, ha, hk => by
    unfold runOps at h
    have hguard : ∀ b, wantedA ops o aa = some b → Region.wanted o (yielded opsA a.tmps) = b := fun b hb => wanted_ok hb hop (fun j c d _ _ => ha.get d)
    unfold wpListIn
    split at h
    · rename_i hw
      rw [if_pos (hguard true hw)]
      cases h1 : oneOp P C Y R aa o s with
      | no => rw [h1] at h; subst h; cases hs
      | pan aa1 v s1 =>
        rw [h1] at h
        subst h
        exact oneOp_ok hC hY h1 hs hp ha hr (fun ρ' a' w' v' hpost ha' hv => hk ρ' a' w' v' hpost ha' hv)
      | ok aa1 s1 =>
        rw [h1] at h
        have m1 := oneOp_mono hC hY hp.wf h1 rfl
        have m2 := runOps_mono hC hY l (m1.wf hp.wf) h hs
        refine oneOp_ok hC hY h1 rfl (hp.first m2) ha hr (fun ρ' a' w' hpost ha' => ?_)
        exact runOps_ok hop hC hY hr l h hs (hp.next m1 m2 hpost) ha' (hk.after hs m1 m2 hpost)
    · rename_i hw
      rw [if_neg (by rw [hguard false hw]; simp)]
      exact ⟨fun _ _ => trivial, runOps_ok hop hC hY hr l h hs hp (ha.put o.dst undef_ok) hk⟩
    · subst h; cases hs
end
end Go.Proofs.YtmabpnmnppfgaaaGreatDoor.Rk
