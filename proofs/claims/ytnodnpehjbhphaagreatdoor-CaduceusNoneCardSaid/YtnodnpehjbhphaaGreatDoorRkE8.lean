/- What the reckoner's append says of the model's. Plain lemmas. -/
import Derived.Test.YtnodnpehjbhphaaGreatDoorRkE7
import Derived.Room.Entries
namespace Go.Proofs.YtnodnpehjbhphaaGreatDoor.Rk
open Go
set_option linter.unusedVariables false
section
variable {P : Program} {ρ : Env} {T : Nat → Nat → Prop} {s s' : St} {w w' : World}
theorem newA_mono {e : TypeId} {sz n : Nat} {y : AV} {cs : List AV} {s1 : St} (h : newA e sz y s = some (n, cs, s1)) : Mono s s1 ∧ s1.heap = s.heap ∧ s1.n = s.n := by
  unfold newA at h
  split at h
  · cases h; exact ⟨Mono.refl _, rfl, rfl⟩
  · split at h
    · cases h; exact ⟨Mono.refl _, rfl, rfl⟩
    · cases h
  · split at h
    · split at h
      · rename_i hr
        obtain ⟨h1, h2⟩ := rd_mono hr
        cases h
        exact ⟨h2, by rw [h1]; rfl, by rw [h1]; rfl⟩
      · cases h
    · cases h
  · cases h
theorem cell_heap {w w1 : World} (h : w1.heap = w.heap) (a : Addr) : w1.cell? a = w.cell? a := by unfold World.cell?; rw [h]
theorem extract_all (ba : ByteArray) : ba.extract 0 ba.size = ba := by
  apply ByteArray.ext
  rw [ByteArray.data_extract]
  show ba.data.extract 0 ba.data.size = ba.data
  simp
theorem newA_ok {e : TypeId} {sz n : Nat} {y : AV} {y' : Value} {cs : List AV} {s1 : St} (h : newA e sz y s = some (n, cs, s1)) (hp : Pre ρ T s s1 w) (hy : VR ρ y y') :
    ∃ vs : List Value, VRL ρ cs vs ∧ vs.length = n * sz ∧ (∀ w1, (Builtin.lenOf y').run P w1 = .ok n w1) ∧ ∀ w1 : World, w1.heap = w.heap → (Builtin.firstCells sz n y').run P w1 = .ok vs.toArray w1 := by
  unfold newA at h
  split at h
  · cases h
    cases hy
    exact ⟨[], .nil, by simp, fun _ => rfl, fun _ _ => rfl⟩
  · rename_i l
    split at h
    · rename_i hsz
      cases h
      cases hy with
      | str _ hl =>
        have hb := bytes_get (ρ := ρ) l hl
        have hsize : (⟨(l.map UInt8.ofNat).toArray⟩ : ByteArray).size = l.length := by simp [ByteArray.size]
        refine ⟨_, hb, ?_, fun w1 => ?_, fun w1 _ => ?_⟩
        · rw [hsz, Nat.mul_one, hb.length, bytesA, List.length_map]
        · simp [Builtin.lenOf, hsize]
        · show (Pure.pure (((⟨(l.map UInt8.ofNat).toArray⟩ : ByteArray).extract 0 l.length).data.map fun (b : UInt8) => Value.int .u8 b.toNat) : Sem (Array Value)).run P w1 = _
          rw [← hsize, extract_all, Sem.run_pure, Array.toArray_toList]
    · cases h
  · rename_i b off len mc es
    split at h
    · rename_i hes
      split at h
      · rename_i cs1 s2 hr
        cases h
        cases hy with
        | slice _ _ _ _ _ r ad cap hb h1 h2 h3 =>
          obtain ⟨vs, g1, g2, g3⟩ := rd_ok hr hp hb
          refine ⟨vs, g2, g1, fun w1 => rfl, fun w1 hw => ?_⟩
          unfold Builtin.firstCells
          rw [← g1]
          refine run_cells (fun j v hv => ?_)
          rw [cell_heap hw]
          by_cases h0 : cap = 0
          · have : n = 0 := by omega
            subst this
            simp at g1
            subst g1
            simp at hv
          · rw [(h3.resolve_left h0).1]
            exact g3 j v hv
      · cases h
    · cases h
  · cases h
theorem run_append_room_ {t u ty e : TypeId} {i : TypeInfo} (hu : P.underlying t = some (.slice e)) (hi : P.info? e = some i) (hun : (∃ e', P.underlying u = some (.slice e')) ∨ P.underlying u = some .string) {base : Option Addr} {sLen sCap n : Nat} {y' : Value} {news : List Value}
    (hl : ∀ w1, (Builtin.lenOf y').run P w1 = .ok n w1) (hf : ∀ w1 : World, w1.heap = w.heap → (Builtin.firstCells i.size n y').run P w1 = .ok news.toArray w1) (hr : sLen + n ≤ sCap) :
    (Builtin.append_ #[t, u] ty #[.slice base sLen sCap, y']).run P w = match base with
      | some a => (match (storeCells (a.add (sLen * i.size)) news).run P w with
        | .ok _ w' => .ok (.slice base (sLen + n) sCap) w'
        | .halt h w' => .halt h w')
      | none => .ok (.slice base (sLen + n) sCap) w := by
  have hsz : (sizeOf e).run P w = .ok i.size w := run_szOf (by simp [szOf, hi]) w
  rcases hun with ⟨e', hd⟩ | hd
  all_goals
    unfold Builtin.append_
    simp only [List.getElem?_toArray, List.getElem?_cons_zero, List.getElem?_cons_succ, Sem.run_bind, Sem.run_pure, run_underlying hu, run_underlying hd, Result.andThen_ok, hsz, Bool.false_eq_true, if_false, hl, Sem.run_ite, if_pos hr, Bool.not_false, if_true, hf w rfl]
    cases base with
    | none => simp
    | some a =>
      simp only [Sem.run_bind]
      cases (storeCells (a.add (sLen * i.size)) news).run P w <;> simp
theorem run_append_more {t u ty e : TypeId} {i : TypeInfo} {z : Value} (hu : P.underlying t = some (.slice e)) (hi : P.info? e = some i) (hzi : i.zero = some z) (hun : (∃ e', P.underlying u = some (.slice e')) ∨ P.underlying u = some .string) {base : Option Addr} {sLen sCap n : Nat} {y' : Value} {news olds : List Value}
    (hl : ∀ w1, (Builtin.lenOf y').run P w1 = .ok n w1) (hf : ∀ w1 : World, w1.heap = w.heap → (Builtin.firstCells i.size n y').run P w1 = .ok news.toArray w1) (ho : ∀ w1 : World, w1.heap = w.heap → (Builtin.firstCells i.size sLen (.slice base sLen sCap)).run P w1 = .ok olds.toArray w1)
    (hr : sCap < sLen + n) (hn : sLen + n < 2000000) (hb : i.bytes ≤ 100000) :
    ∃ cap, sLen + n ≤ cap ∧ (Builtin.append_ #[t, u] ty #[.slice base sLen sCap, y']).run P w = .ok (.slice (some ⟨w.heap.size, 0, none⟩) (sLen + n) cap) { w with drawn := w.drawn + 1, heap := w.heap.push (.cells (olds.toArray ++ news.toArray ++ Builtin.zeroCells z.cells (cap - (sLen + n))) e) } := by
  have hsz : (sizeOf e).run P w = .ok i.size w := run_szOf (by simp [szOf, hi]) w
  have h63 : ¬ (((sLen + n : Nat) : Int) > IntKind.i64.max ∧ (False ∨ i.bytes = 0)) := by
    have : IntKind.i64.max = 9223372036854775807 := by decide
    rw [this]
    omega
  have h63' : ¬ (((sLen + n : Nat) : Int) > IntKind.i64.max) := by
    have : IntKind.i64.max = 9223372036854775807 := by decide
    rw [this]
    omega
  have hns : Builtin.nextslicecap (sLen + n) sCap * i.bytes ≤ 400000000000 := by
    have h1 := Go.Room.nextslicecap_le' hr
    have h2 : Builtin.nextslicecap (sLen + n) sCap * i.bytes ≤ 4000000 * 100000 := Nat.mul_le_mul (by omega) hb
    omega
  have h48 : ¬ (Builtin.nextslicecap (sLen + n) sCap * i.bytes > 2 ^ 48) := by omega
  have hforced : (Question.appendCap (sLen + n) sCap e).forced = false := rfl
  have hzv : ∀ w1, (zeroValue e).run P w1 = .ok z w1 := fun w1 => by simp [zeroValue, run_info hi, hzi]
  refine ⟨(Question.appendCap (sLen + n) sCap e).cut (w.tape w.drawn (.appendCap (sLen + n) sCap e)), Nat.le_add_right _ _, ?_⟩
  rcases hun with ⟨e', hd⟩ | hd
  all_goals
    unfold Builtin.append_
    simp only [List.getElem?_toArray, List.getElem?_cons_zero, List.getElem?_cons_succ, Sem.run_bind, run_underlying hu, run_underlying hd, Result.andThen_ok, hsz, Bool.false_eq_true, if_false, hl, Sem.run_ite, if_neg (Nat.not_le.2 hr), Bool.not_false, if_true, run_info hi, h63', false_and, if_neg h48, run_choose, hforced, run_askRoom, ho { w with drawn := w.drawn + 1 } rfl, hf { w with drawn := w.drawn + 1 } rfl, hzv, run_row, Sem.run_pure]
theorem bAppend_mono {t : TypeId} {x y v : AV} (hwf : WfS s) (h : bAppend P t x y s = some (v, s')) : Mono s s' := by
  unfold bAppend at h
  split at h
  · split at h
    · split at h
      · cases h
      · rename_i n cs s1 hn
        obtain ⟨m1, m2, m3⟩ := newA_mono hn
        split at h
        · split at h
          · split at h
            · cases h; exact m1
            · cases h; exact m1.trans (Mono.new _ _)
          · split at h
            · cases h; exact m1
            · split at h
              · rename_i hb
                split at h
                · split at h
                  · split at h
                    · cases h
                      exact m1.trans (Mono.put_note _ _ _ ⟨_, hb, trivial⟩)
                    · cases h
                  · split at h
                    · cases h
                      exact (m1.trans (Mono.put_note _ _ .dead ⟨_, hb, trivial⟩)).trans (Mono.new _ _)
                    · cases h
                · cases h
              · cases h
          · cases h
        · cases h
    · cases h
  · cases h
theorem repL_top (n i : Nat) (a : AV) (h : (repL [.top] n)[i]? = some a) : a = .top := by
  have hi : i < n := by
    have := (List.getElem?_eq_some_iff.1 h).1
    rw [repL_len] at this
    simpa using this
  rw [repL_get [.top] n i (by simpa using hi)] at h
  simp [Nat.mod_one] at h
  exact h.symm
theorem repL_top_len (n : Nat) : (repL [.top] n).length = n := by rw [repL_len]; simp
theorem OK1.after {m : Sem Value} {v : AV} {s1 : St} (m1 : Mono s s1) (m2 : Mono s1 s') (h : Post ρ T s w ρ s1 w) (k : OK1 P m ρ (Tn T s.n s1.n) s1 w v s') : OK1 P m ρ T s w v s' := by
  obtain ⟨ρ', w', v', h1, h2, h3⟩ := k
  exact ⟨ρ', w', v', h1, h.trans m1 m2 h2, h3⟩
section
variable {t u ty e : TypeId} {i : TypeInfo} {z : Value} {n : Nat} {cs : List AV} {vs : List Value} {y' : Value}
  (hu : P.underlying t = some (.slice e)) (hi : P.info? e = some i) (hzi : i.zero = some z) (hzs : z.cells.size = i.size) (hun : (∃ e', P.underlying u = some (.slice e')) ∨ P.underlying u = some .string)
  (g1 : VRL ρ cs vs) (g2 : vs.length = n * i.size) (g3 : ∀ w1, (Builtin.lenOf y').run P w1 = .ok n w1) (g4 : ∀ w1 : World, w1.heap = w.heap → (Builtin.firstCells i.size n y').run P w1 = .ok vs.toArray w1)
  (c1 : cs.all one = true) (c2 : i.bytes ≤ 100000) (c3 : 0 < i.size) (c4 : n < 1000000) (h0 : 0 < n)
include hu hi hzi hzs hun g1 g2 g3 g4 c1 c2 c3 c4 h0
theorem app_nil (hp : Pre ρ T s (s.new (.cells (2 * e) cs)) w) : OK1 P (Builtin.append_ #[t, u] ty #[.slice none 0 0, y']) ρ T s w (.slice s.n 0 n n i.size) (s.new (.cells (2 * e) cs)) := by
  have _all := (⟨hzi, hzs, c1, c2, c3, c4⟩ : _ ∧ _ ∧ _ ∧ _ ∧ _ ∧ _)
  obtain ⟨cap, k1, k2⟩ := run_append_more (ty := ty) (base := none) (sLen := 0) (sCap := 0) (olds := []) hu hi hzi hun g3 g4 (fun _ _ => rfl) (by omega) (by omega) c2
  have hsz := g1.length
  rw [Nat.zero_add] at k2 k1
  have hcz : ((([] : List Value).toArray ++ vs.toArray) ++ Builtin.zeroCells z.cells (cap - n)).size = cap * i.size := by
    have : (Builtin.zeroCells z.cells (cap - n)).size = (cap - n) * z.cells.size := by simp [Builtin.zeroCells]
    rw [Array.size_append, Array.size_append, this, hzs]
    simp only [List.size_toArray, List.length_nil, Nat.zero_add, g2]
    rw [← Nat.add_mul]
    congr 1
    omega
  refine ⟨_, _, _, k2, made_ok hp ((Add.push w _).drew _) (fun o _ => by simp) ?_ (fun j a ha => ?_), ?_⟩
  · rw [hcz, ← hsz, g2]
    exact Nat.mul_le_mul_right _ k1
  · obtain ⟨u', hu', hR⟩ := g1.get j ha
    refine ⟨u', ?_, hR⟩
    have hj : j < vs.length := (List.getElem?_eq_some_iff.1 hu').1
    rw [Array.getElem?_append_left (by simp; exact hj)]
    simpa using hu'
  · refine .slice s.n 0 n n i.size _ _ _ (Env.add_self _ _) (Nat.le_refl _) k1 (.inr ⟨rfl, ?_⟩)
    show 0 + cap * i.size ≤ ((([] : List Value).toArray ++ vs.toArray) ++ Builtin.zeroCells z.cells (cap - n)).size
    rw [hcz]
    omega
theorem app_in {b off len mc cap : Nat} {r : RB} {cs0 cs1 : List AV} {t0 : TypeId} (hbg : s.heap.get b = some (.cells t0 cs0)) (hset : setL (cs0 ++ repL [.top] (off + (len + n) * i.size - cs0.length)) (off + len * i.size) cs = some cs1)
    (hp : Pre ρ T s ((s.put b (.cells t0 cs1)).note (.all b)) w) (hb : ρ b = some r) (k1 : len + n ≤ mc) (k2 : mc ≤ cap) (hfit : off + cap * i.size ≤ r.n) :
    OK1 P (Builtin.append_ #[t, u] ty #[.slice (some (r.at off)) len cap, y']) ρ T s w (.slice b off (len + n) mc i.size) ((s.put b (.cells t0 cs1)).note (.all b)) := by
  have _all := (⟨hzi, hzs, c1, c2, c3, c4⟩ : _ ∧ _ ∧ _ ∧ _ ∧ _ ∧ _)
  have hT : ∀ i, T b i := fun i => hp.cov (.all b) (List.mem_cons_self ..) (lt_n hp.wf hbg) b i rfl
  obtain ⟨r0, c, fr, q1, q2, q3, q4, q5, q6⟩ := hp.good.sat b _ hbg ⟨0, hT 0⟩
  have : r0 = r := Option.some.inj (q1.symm.trans hb)
  subst this
  have qf := q4
  replace q4 := q4.1
  obtain ⟨z1, z2, z3⟩ := setL_ok hset
  have hlen := g1.length
  have hle : (len + n) * i.size ≤ cap * i.size := Nat.mul_le_mul_right _ (by omega)
  have hadd : (len + n) * i.size = len * i.size + n * i.size := Nat.add_mul _ _ _
  have hpos : 0 < n * i.size := Nat.mul_pos h0 c3
  have hcslen : cs.length = n * i.size := by omega
  obtain ⟨c', w2, f1, f2, f3, f4, f5, f6, f7, f8, f9⟩ := run_stores (P := P) (o := r0.base + off + len * i.size) vs 0 c w q2 (g1.ones c1) (by omega) (fun j h4 h5 => q5 j (by omega) h5)
  have hrun := run_append_room_ (w := w) (ty := ty) (base := some (r0.at off)) (sLen := len) (sCap := cap) hu hi hun g3 g4 (by omega)
  have hat : (r0.at off).add (len * i.size) = ⟨r0.blk, r0.base + off + len * i.size, none⟩ := by rw [RB.at_add]; unfold RB.at; rw [Nat.add_assoc]
  simp only [hat, f1] at hrun
  refine ⟨ρ, w2, _, hrun, Post.alt hp.good hbg trivial ⟨0, hT 0⟩ hb ⟨f7, f8, f9, f6, f2, f5⟩ ⟨r0, c', fr, hb, f2, by rw [f3]; exact q3, ?_, fun o h1 h2 => q5 o h1 (by rw [← f3]; exact h2), fun j a ha _ => ?_⟩, .slice b off (len + n) mc i.size r0 (r0.at off) cap hb k1 k2 (.inr ⟨rfl, hfit⟩)⟩
  · rw [z1, List.length_append, repL_top_len]
    refine ⟨by omega, fun hx => ?_⟩
    obtain ⟨y1, y2⟩ := qf.2 hx
    exact ⟨y1, by omega⟩
  · rw [z2] at ha
    by_cases hj : off + len * i.size ≤ j ∧ j < off + len * i.size + cs.length
    · rw [if_pos hj] at ha
      rw [f4, if_pos (by omega), show r0.base + j - (r0.base + off + len * i.size + 0) = j - (off + len * i.size) by omega]
      exact g1.get _ ha
    · rw [if_neg hj] at ha
      rw [f4, if_neg (by omega)]
      by_cases hj0 : j < cs0.length
      · rw [List.getElem?_append_left hj0] at ha
        exact q6 j a ha (hT j)
      · rw [List.getElem?_append_right (by omega)] at ha
        have htop := repL_top _ _ a ha
        have hjl := (List.getElem?_eq_some_iff.1 ha).1
        rw [repL_top_len] at hjl
        subst htop
        exact ⟨_, Array.getElem?_eq_getElem (by omega), .top _⟩
theorem app_adopt {b off len cap : Nat} {r : RB} {cs0 : List AV} (hbg : s.heap.get b = some (.cells (2 * e) cs0)) (htop : off + len * i.size = cs0.length)
    (hp : Pre ρ T s (((s.put b .dead).note (.all b)).new (.cells (2 * e) (cs0.drop off ++ cs))) w) (hb : ρ b = some r) (hcap : len + n ≤ cap) (hfit : off + cap * i.size ≤ r.n) :
    OK1 P (Builtin.append_ #[t, u] ty #[.slice (some (r.at off)) len cap, y']) ρ T s w (.slice s.n 0 (len + n) (len + n) i.size) (((s.put b .dead).note (.all b)).new (.cells (2 * e) (cs0.drop off ++ cs))) := by
  have _all := (⟨hzi, hzs, c1, c2, c3, c4⟩ : _ ∧ _ ∧ _ ∧ _ ∧ _ ∧ _)
  have hbn := lt_n hp.wf hbg
  have hT : ∀ i, T b i := fun i => hp.cov (.all b) (List.mem_cons_self ..) hbn b i rfl
  obtain ⟨r0, c, fr, q1, q2, q3, q4, q5, q6⟩ := hp.good.sat b _ hbg ⟨0, hT 0⟩
  have : r0 = r := Option.some.inj (q1.symm.trans hb)
  subst this
  have qf := q4
  replace q4 := q4.1
  have hlen := g1.length
  have hadd : (len + n) * i.size = len * i.size + n * i.size := Nat.add_mul _ _ _
  have hpos : 0 < n * i.size := Nat.mul_pos h0 c3
  have hcslen : cs.length = n * i.size := by omega
  have hfr : ρ s.n = none := hp.fresh s.n (Nat.le_refl _) (Nat.lt_succ_self _)
  have hle : (len + n) * i.size ≤ cap * i.size := Nat.mul_le_mul_right _ hcap
  obtain ⟨c', w2, f1, f2, f3, f4, f5, f6, f7, f8, f9⟩ := run_stores (P := P) (o := r0.base + off + len * i.size) vs 0 c w q2 (g1.ones c1) (by omega) (fun j h4 h5 => q5 j (by omega) h5)
  have hrun := run_append_room_ (w := w) (ty := ty) (base := some (r0.at off)) (sLen := len) (sCap := cap) hu hi hun g3 g4 hcap
  have hat : (r0.at off).add (len * i.size) = ⟨r0.blk, r0.base + off + len * i.size, none⟩ := by rw [RB.at_add]; unfold RB.at; rw [Nat.add_assoc]
  simp only [hat, f1] at hrun
  have hBR : BR (ρ.add s.n ⟨r0.blk, r0.base + off, r0.n - off⟩) (fun _ => True) s.n w2 (.cells (2 * e) (cs0.drop off ++ cs)) := by
    refine ⟨⟨r0.blk, r0.base + off, r0.n - off⟩, c', fr, Env.add_self _ _, f2, ?_, ?_, fun o h1 h2 => ?_, fun j a ha _ => ?_⟩
    · show c'.size = r0.base + off + (r0.n - off)
      omega
    · refine Fits.even e ?_
      show (cs0.drop off ++ cs).length ≤ r0.n - off
      rw [List.length_append, List.length_drop]
      omega
    · have h3 : r0.base + off ≤ o := h1
      exact q5 o (by omega) (by rw [← f3]; exact h2)
    · show ∃ v, c'[r0.base + off + j]? = some v ∧ VR (ρ.add s.n ⟨r0.blk, r0.base + off, r0.n - off⟩) a v
      by_cases hj : j < (cs0.drop off).length
      · rw [List.getElem?_append_left hj, List.getElem?_drop] at ha
        rw [List.length_drop] at hj
        rw [f4, if_neg (by omega), Nat.add_assoc]
        obtain ⟨u', hu', hR⟩ := q6 (off + j) a ha (hT _)
        exact ⟨u', hu', hR.mono (Env.add_le hfr)⟩
      · rw [List.getElem?_append_right (by omega)] at ha
        rw [List.length_drop] at hj ha
        have hjl := (List.getElem?_eq_some_iff.1 ha).1
        rw [f4, if_pos (by omega), show r0.base + off + j - (r0.base + off + len * i.size + 0) = j - (cs0.length - off) by omega]
        obtain ⟨u', hu', hR⟩ := g1.get _ ha
        exact ⟨u', hu', hR.mono (Env.add_le hfr)⟩
  refine ⟨ρ.add s.n ⟨r0.blk, r0.base + off, r0.n - off⟩, w2, _, hrun, Post.adopt hp.good hp.wf hfr hbg trivial ⟨0, hT 0⟩ hb ⟨f7, f8, f9, f6, f2, f5⟩ rfl hbn hBR, .slice s.n 0 (len + n) (len + n) i.size ⟨r0.blk, r0.base + off, r0.n - off⟩ (r0.at off) cap (Env.add_self _ _) (Nat.le_refl _) hcap (.inr ⟨rfl, ?_⟩)⟩
  show 0 + cap * i.size ≤ r0.n - off
  omega
theorem app_more {b off len cap : Nat} {r : RB} {ad : Addr} {cs0 : List AV} (hbg : s.heap.get b = some (.cells (2 * e) cs0)) (htop : off + len * i.size = cs0.length)
    (hp : Pre ρ T s (((s.put b .dead).note (.all b)).new (.cells (2 * e) (cs0.drop off ++ cs))) w) (hb : ρ b = some r) (hl : len < 1000000) (hlc : len ≤ cap) (hcap : cap < len + n) (k3 : cap = 0 ∨ ad = r.at off ∧ off + cap * i.size ≤ r.n) :
    OK1 P (Builtin.append_ #[t, u] ty #[.slice (some ad) len cap, y']) ρ T s w (.slice s.n 0 (len + n) (len + n) i.size) (((s.put b .dead).note (.all b)).new (.cells (2 * e) (cs0.drop off ++ cs))) := by
  have _all := (⟨hzi, hzs, c1, c2, c3, c4⟩ : _ ∧ _ ∧ _ ∧ _ ∧ _ ∧ _)
  have hbn := lt_n hp.wf hbg
  have hT : ∀ i, T b i := fun i => hp.cov (.all b) (List.mem_cons_self ..) hbn b i rfl
  obtain ⟨r0, c, fr, q1, q2, q3, q4, q5, q6⟩ := hp.good.sat b _ hbg ⟨0, hT 0⟩
  have : r0 = r := Option.some.inj (q1.symm.trans hb)
  subst this
  have qf := q4
  replace q4 := q4.1
  have hlen := g1.length
  have hadd : (len + n) * i.size = len * i.size + n * i.size := Nat.add_mul _ _ _
  have hmk : Mono s ((s.put b .dead).note (.all b)) := Mono.put_note _ _ _ ⟨_, hbg, trivial⟩
  have hd : (cs0.drop off).length = len * i.size := by rw [List.length_drop]; omega
  have holds : ∃ os : List Value, os.length = len * i.size ∧ VRL ρ (cs0.drop off) os ∧ ∀ w1 : World, w1.heap = w.heap → (Builtin.firstCells i.size len (.slice (some ad) len cap)).run P w1 = .ok os.toArray w1 := by
    by_cases hl0 : len = 0
    · subst hl0
      have : cs0.drop off = [] := List.length_eq_zero_iff.1 (by omega)
      rw [this]
      refine ⟨[], by simp, .nil, fun w1 _ => ?_⟩
      simp [Builtin.firstCells, loadCells, loadCellsFrom]
    · obtain ⟨had, hfit⟩ := k3.resolve_left (by omega)
      have hl2 : ((c.toList.drop (r0.base + off)).take (len * i.size)).length = len * i.size := by rw [List.length_take, List.length_drop, Array.length_toList]; omega
      refine ⟨(c.toList.drop (r0.base + off)).take (len * i.size), hl2, VRL.of_get (by omega) (fun j a v ha hv => ?_), fun w1 hw1 => ?_⟩
      · have hj : j < len * i.size := by
          have := (List.getElem?_eq_some_iff.1 ha).1
          omega
        rw [List.getElem?_take_of_lt hj, List.getElem?_drop, Array.getElem?_toList] at hv
        rw [List.getElem?_drop] at ha
        obtain ⟨u', hu', hR⟩ := q6 (off + j) a ha (hT _)
        rw [← Nat.add_assoc, hv] at hu'
        cases hu'
        exact hR
      · have hrc := run_cells (P := P) (w := w1) (a := ad) (vs := (c.toList.drop (r0.base + off)).take (len * i.size)) (fun j v hv => ?_)
        · rw [hl2] at hrc
          exact hrc
        have hj : j < len * i.size := by
          have := (List.getElem?_eq_some_iff.1 hv).1
          omega
        rw [List.getElem?_take_of_lt hj, List.getElem?_drop, Array.getElem?_toList] at hv
        rw [cell_heap hw1, had, RB.at_add]
        unfold RB.at
        rw [cell_in q2, ← Nat.add_assoc]
        exact hv
  obtain ⟨os, o1, o2, o3⟩ := holds
  obtain ⟨cap2, m3, m4⟩ := run_append_more (ty := ty) (base := some ad) (sLen := len) (sCap := cap) (olds := os) hu hi hzi hun g3 g4 o3 (by omega) (by omega) c2
  have hkill := Post.kill hp.good hbg trivial (Still.refl w)
  have hpre3 := hp.next hmk (Mono.new _ (.cells (2 * e) (cs0.drop off ++ cs))) hkill
  have hcz : ((os.toArray ++ vs.toArray) ++ Builtin.zeroCells z.cells (cap2 - (len + n))).size = cap2 * i.size := by
    have : (Builtin.zeroCells z.cells (cap2 - (len + n))).size = (cap2 - (len + n)) * z.cells.size := by simp [Builtin.zeroCells]
    rw [Array.size_append, Array.size_append, this, hzs]
    simp only [List.size_toArray, o1, g2]
    rw [← Nat.add_mul, ← Nat.add_mul]
    congr 1
    omega
  have hos := o2.append g1
  have hosl := hos.length
  refine ⟨_, _, _, m4, hkill.trans hmk (Mono.new _ _) (made_ok hpre3 ((Add.push w _).drew _) (fun o _ => by simp) ?_ (fun j a ha => ?_)), ?_⟩
  · rw [hcz, ← hosl, List.length_append, o1, g2, ← Nat.add_mul]
    exact Nat.mul_le_mul_right _ m3
  · obtain ⟨u', hu', hR⟩ := hos.get j ha
    refine ⟨u', ?_, hR⟩
    have hj : j < (os ++ vs).length := (List.getElem?_eq_some_iff.1 hu').1
    rw [Array.getElem?_append_left (by simpa using hj)]
    simpa using hu'
  · refine .slice s.n 0 (len + n) (len + n) i.size _ _ _ (Env.add_self _ _) (Nat.le_refl _) m3 (.inr ⟨rfl, ?_⟩)
    show 0 + cap2 * i.size ≤ ((os.toArray ++ vs.toArray) ++ Builtin.zeroCells z.cells (cap2 - (len + n))).size
    rw [hcz]
    omega
end
theorem bAppend_ok {t u ty : TypeId} {x y v : AV} {x' y' : Value} (h : bAppend P t x y s = some (v, s')) (hun : (∃ e', P.underlying u = some (.slice e')) ∨ P.underlying u = some .string) (hp : Pre ρ T s s' w) (hx : VR ρ x x') (hy : VR ρ y y') : OK1 P (Builtin.append_ #[t, u] ty #[x', y']) ρ T s w v s' := by
  unfold bAppend at h
  split at h
  · rename_i e hu
    split at h
    · rename_i i hi
      split at h
      · cases h
      · rename_i n cs s1 hn
        obtain ⟨m1, hs1, hn1⟩ := newA_mono hn
        split at h
        · rename_i hcond
          simp only [Bool.and_eq_true, decide_eq_true_eq] at hcond
          obtain ⟨⟨⟨⟨c1, c2⟩, c3⟩, c4⟩, c5⟩ := hcond
          have hz5 : ∃ z, i.zero = some z ∧ z.cells.size = i.size := by
            unfold zOk at c5
            split at c5
            · rename_i zl hzl
              obtain ⟨zv, hz1, hz2⟩ := zeroC_info (ρ := ρ) hzl hi
              have := hz2.size
              have h6 := of_decide_eq_true c5
              exact ⟨zv, hz1, by omega⟩
            · cases c5
          obtain ⟨z, hzi, hzs⟩ := hz5
          have key : Mono s1 s' → ∃ vs : List Value, VRL ρ cs vs ∧ vs.length = n * i.size ∧ (∀ w1, (Builtin.lenOf y').run P w1 = .ok n w1) ∧ ∀ w1 : World, w1.heap = w.heap → (Builtin.firstCells i.size n y').run P w1 = .ok vs.toArray w1 := fun m2 => newA_ok hn (hp.first m2) hy
          have hpost : Post ρ T s w ρ s1 w := Post.same hp.good hs1 hn1 (Still.refl w)
          split at h
          · cases hx
            split at h
            · rename_i h0
              cases h
              obtain ⟨vs, g1, g2, g3, g4⟩ := key (Mono.refl _)
              subst h0
              have hr := run_append_room_ (ty := ty) (base := none) (sLen := 0) (sCap := 0) hu hi hun g3 g4 (Nat.le_refl _)
              exact ⟨ρ, w, _, hr, hpost, .nils⟩
            · rename_i h0
              cases h
              obtain ⟨vs, g1, g2, g3, g4⟩ := key (Mono.new _ _)
              exact (app_nil hu hi hzi hzs hun g1 g2 g3 g4 c1 c2 c3 c4 (by omega) (hp.next m1 (Mono.new _ _) hpost)).after m1 (Mono.new _ _) hpost
          · rename_i b off len mc es
            cases hx with
            | slice _ _ _ _ _ r ad cap hb k1 k2 k3 =>
            split at h
            · rename_i h0
              cases h
              obtain ⟨vs, g1, g2, g3, g4⟩ := key (Mono.refl _)
              subst h0
              have hvs : vs = [] := List.length_eq_zero_iff.1 (by omega)
              subst hvs
              have hr := run_append_room_ (w := w) (ty := ty) (base := some ad) (sLen := len) (sCap := cap) hu hi hun g3 g4 (by omega)
              exact ⟨ρ, w, _, hr, hpost, .slice b off len mc es r ad cap hb k1 k2 k3⟩
            · rename_i h0
              split at h
              · rename_i t0 cs0 hbg
                split at h
                · rename_i hc
                  obtain ⟨hc1, hc2, hc3⟩ := hc
                  subst hc2
                  subst hc1
                  split at h
                  · rename_i hroom
                    split at h
                    · rename_i cs1 hset
                      cases h
                      have hm2 : Mono s1 ((s1.put b (.cells (2 * e) cs1)).note (.all b)) := Mono.put_note _ _ _ ⟨_, hbg, trivial⟩
                      obtain ⟨vs, g1, g2, g3, g4⟩ := key hm2
                      obtain ⟨had, hfit⟩ := k3.resolve_left (by omega)
                      subst had
                      exact (app_in hu hi hzi hzs hun g1 g2 g3 g4 c1 c2 c3 c4 (by omega) hbg hset (hp.next m1 hm2 hpost) hb hroom k2 hfit).after m1 hm2 hpost
                    · cases h
                  · rename_i hroom
                    split at h
                    · rename_i htop
                      cases h
                      have hm2 : Mono s1 (((s1.put b .dead).note (.all b)).new (.cells (2 * e) (cs0.drop off ++ cs))) := (Mono.put_note _ _ .dead ⟨_, hbg, trivial⟩).trans (Mono.new _ _)
                      obtain ⟨vs, g1, g2, g3, g4⟩ := key hm2
                      by_cases hcap : len + n ≤ cap
                      · obtain ⟨had, hfit⟩ := k3.resolve_left (by omega)
                        subst had
                        exact (app_adopt hu hi hzi hzs hun g1 g2 g3 g4 c1 c2 c3 c4 (by omega) hbg htop (hp.next m1 hm2 hpost) hb hcap hfit).after m1 hm2 hpost
                      · exact (app_more hu hi hzi hzs hun g1 g2 g3 g4 c1 c2 c3 c4 (by omega) hbg htop (hp.next m1 hm2 hpost) hb hc3 (by omega) (by omega) k3).after m1 hm2 hpost
                    · cases h
                · cases h
              · cases h
          · cases h
        · cases h
    · cases h
  · cases h
end
end Go.Proofs.YtnodnpehjbhphaaGreatDoor.Rk
