/- Part F5 of the proof: the statement that is proved stands in the text that ends with its name. No conditions beyond the card's. -/
import Derived.Test.YtmabpnmnppfgaaaGreatDoorF3
import Derived.Test.YtmabpnmnppfgaaaGreatDoorF4
namespace Go.Proofs.YtmabpnmnppfgaaaGreatDoor
set_option linter.unusedVariables false
open Go Go.RowKit Go.BigFrame
theorem LAt.at11 {w : World} {S : Nat → Prop} {gb m : Nat} {l : List Ad.Tok} {u : Ad.Tok} (h : LAt tokE w S (some ⟨gb, 0, none⟩) m l) {k : Nat} (hk : l[k]? = some u) : ∃ cs, tokE.R w S cs u ∧ w.rangeAt gb (11 * k) cs ∧ S gb := by
  obtain ⟨hl, h⟩ := h
  have hm : k < l.length := (List.getElem?_eq_some_iff.1 hk).1
  obtain ⟨ad, e, hS, hx⟩ := h (by omega)
  cases e
  obtain ⟨cs, h1, h2⟩ := hx k u hk
  refine ⟨cs, h1, fun i v hv => ?_, hS⟩
  have h3 := h2 i v hv
  rw [Addr.add_mid] at h3
  rw [← h3]
  congr 2
  show 11 * k + i = 0 + (k * 11 + i)
  omega
theorem wrote4 {w W : World} {g : Nat} {t : TypeId} {x y z u : Value} (h : Blk W g t #[x, y, z, u]) (hb : Below w.heap.size w W) (hg : w.heap.size ≤ g) (a b c d : Value) :
    Blk ((((W.setCell ⟨g, 0, none⟩ a).setCell ⟨g, 1, none⟩ b).setCell ⟨g, 2, none⟩ c).setCell ⟨g, 3, none⟩ d) g t #[a, b, c, d] ∧ Below w.heap.size w ((((W.setCell ⟨g, 0, none⟩ a).setCell ⟨g, 1, none⟩ b).setCell ⟨g, 2, none⟩ c).setCell ⟨g, 3, none⟩ d) := by
  constructor
  · have hx := (((h.set_ 0 a).set_ 1 b).set_ 2 c).set_ 3 d
    simp only [List.setIfInBounds_toArray, List.set_cons_zero, List.set_cons_succ] at hx
    exact hx
  · exact (((hb.setCell hg a).setCell hg b).setCell hg c).setCell hg d
set_option maxRecDepth 100000 in
theorem refStep_res {W : World} {tmps : Array Value} {g : Nat} {v3 : Value} {cs : Array Value} (hW : Blk W g 24 cs) (hl : cs.size = 4) (h2 : tmps.getD 2 undef = .pointer (some ⟨g, 0, none⟩)) (h3 : tmps.getD 3 undef = v3) :
    (results Tryz.f5 tmps).run Tryz.prog W = .ok (.tuple #[.agg cs, v3]) W := by
  rw [results_cell_tmp1 rfl, h2, h3]
  have hi : (Tryz.prog.info? 24).map (·.size) = some cs.size := by rw [hl]; kernel_rfl
  have h := run_loadVar_row (P := Tryz.prog) W g 24 24 cs (0, 0) _ hW Tryz.underlying24 rfl hi
  simp only [asAddr, Sem.run_pure, Result.andThen_ok, h]
def intE : Enc Int where
  n := 1
  pos := by omega
  R := fun _ _ cs t => cs = [.int .i64 t]
  len := by
    rintro _ _ _ t rfl
    rfl
  keep := by
    intro _ _ _ _ _ _ h _ _
    exact h
  one := by
    rintro _ _ _ t rfl u hu
    simp at hu
    subst hu
    rfl
theorem infoInt : (Tryz.prog.info? 3).map (fun i => (i.zero, i.size, i.bytes)) = some (some (.int .i64 0), 1, 8) := by kernel_rfl
def NumsR (w : World) (B : Nat) (v : Value) (ns : List Int) : Prop := (ns = [] ∧ v = .slice none 0 0) ∨ ∃ g n cap, ns = [n] ∧ v = .slice (some ⟨g, 0, none⟩) 1 cap ∧ B ≤ g ∧ g < w.heap.size ∧ w.cell? ⟨g, 0, none⟩ = some (.int .i64 n)
theorem NumsR.own {w : World} {B : Nat} {v : Value} {n : Int} (h : OwnE intE 3 w B nowhere v [n]) : NumsR w B v [n] := by
  obtain ⟨g, cap, x, u, rfl, hx, hr, hc, hnc, hcm⟩ := h.in1 (k := 0) rfl (by simp)
  obtain ⟨h1, h2⟩ := h.own_lt (g := g) rfl
  simp at hx
  subst hx
  have hr : [u] = [.int .i64 n] := hr
  injection hr with hr _
  subst hr
  exact .inr ⟨g, n, cap, rfl, rfl, h1, h2, hc⟩
theorem NumsR.keep {w w' : World} {B : Nat} {v : Value} {ns : List Int} (h : NumsR w B v ns) (hs : w.heap.size ≤ w'.heap.size) (hc : ∀ g, v.ownBlock = some g → w'.heap[g]? = w.heap[g]?) : NumsR w' B v ns := by
  rcases h with h | ⟨g, n, cap, rfl, rfl, h1, h2, h3⟩
  · exact .inl h
  · exact .inr ⟨g, n, cap, rfl, rfl, h1, by omega, (World.cell?_of_block (hc g rfl)).trans h3⟩
namespace Ad
def goR : Bs → List Tok → Step → Option Step
  | [], _, c => some c
  | _ :: _, [], _ => none
  | b :: ws, u :: r, c =>
    if b.toNat = 84 ∧ u.kind = 3 then goR ws r ⟨c.word, c.nums, c.name, u.text⟩
    else if b.toNat = 78 ∧ (u.kind = 3 ∨ u.kind = 1) then goR ws r ⟨c.word, c.nums, u.text, c.data⟩
    else if b.toNat = 35 ∧ u.kind = 2 then goR ws r ⟨c.word, c.nums ++ [u.num], c.name, c.data⟩
    else none
theorem goR_cons (b : UInt8) (ws : Bs) (u : Tok) (r : List Tok) (c : Step) : goR (b :: ws) (u :: r) c = if b.toNat = 84 ∧ u.kind = 3 then goR ws r ⟨c.word, c.nums, c.name, u.text⟩
    else if b.toNat = 78 ∧ (u.kind = 3 ∨ u.kind = 1) then goR ws r ⟨c.word, c.nums, u.text, c.data⟩
    else if b.toNat = 35 ∧ u.kind = 2 then goR ws r ⟨c.word, c.nums ++ [u.num], c.name, c.data⟩
    else none := rfl
def parseR : List Tok → Option Step
  | [] => none
  | t :: r => if (wantS (shapeF t.text)).2 = false ∨ t.kind ≠ 1 ∨ r.length ≠ (wantS (shapeF t.text)).1.size + 1 then none else goR (wantS (shapeF t.text)).1.data.toList r ⟨t.text, [], [], []⟩
theorem want_len (o : Option Shape) : (wantS o).1.size ≤ 2 ∧ ∀ (k : Nat) (hk : k < (wantS o).1.size), (wantS o).1[k].toNat = 35 → k + 1 = (wantS o).1.size := by
  rcases o with - | ⟨- | -, - | -, - | -⟩
  all_goals (refine ⟨by decide, ?_⟩; decide)
end Ad
def RParseOut (s : ByteArray) (w : World) (e : Ending) (w' : World) : Prop :=
  ∃ x : Except Int (List Ad.Tok), (s.size ≤ 65536 → Ad.ScanX s.data.toList x) ∧ (65536 < s.size → x = .error 2) ∧ match x with
    | .error er => e = .returned (.tuple #[.agg zs, .int .i64 er])
    | .ok l => match Ad.parseR (l ++ [Ad.endT]) with
      | none => e = .returned (.tuple #[.agg zs, .int .i64 100])
      | some c => ∃ v, NumsR w' w.heap.size v c.nums ∧ e = .returned (.tuple #[.agg #[.string ⟨c.word.toArray⟩, v, .string ⟨c.name.toArray⟩, .string ⟨c.data.toArray⟩], .int .i64 0])
def ParI (w1 : World) (want : ByteArray) (res : Option Ad.Step) (r : List Ad.Tok) (x : Value) (wr : World) : Prop := ∃ (i : Nat) (c : Ad.Step) (v : Value), x = .int .i64 i ∧ i ≤ want.size ∧ RowKit.Hid (res = Ad.goR (want.data.toList.drop i) (r.drop i) c) ∧ Blk wr (w1.heap.size + 1) 24 #[.string ⟨c.word.toArray⟩, v, .string ⟨c.name.toArray⟩, .string ⟨c.data.toArray⟩] ∧ NumsR wr (w1.heap.size + 2) v c.nums ∧ RowKit.Hid (i < want.size → c.nums = [] ∧ v = .slice none 0 0) ∧ Below w1.heap.size w1 wr ∧ w1.heap.size + 2 ≤ wr.heap.size
set_option maxRecDepth 100000 in
set_option maxHeartbeats 8000000 in
theorem refParse_any (s : ByteArray) (w : World) (hs : s.size ≤ 100000) :
    Calls Tryz.prog 5 #[.string s] w fun e w' => RParseOut s w e w' ∧ Below w.heap.size w w' := by
  have K1 := Lib.hid (fun W => refScan_any s W hs)
  have Z2 := Lib.hid (Blk.new w 24 zs)
  have ZB := Lib.hid ((Below.refl _ w).alloc (Nat.le_refl _) (.cells zs 24))
  go_enter Tryz.func5, Tryz.ntmps5
  go_wp2_with fail
  refine (K1.out _).mono ?_
  rintro e w1 ⟨⟨x, hx1, hx2, hx⟩, hb1⟩
  have A1 := Lib.hid (Z2.out.below hb1 Z2.out.lt)
  have B1 := Lib.hid (ZB.out.trans (hb1.mono ZB.out.size))
  have hgs : w.heap.size + 1 ≤ w1.heap.size := by have := hb1.size; simpa using this
  have HX1 := Lib.hid hx1
  have HX2 := Lib.hid hx2
  clear hx1 hx2 hb1 Z2 ZB K1
  cases x with
  | error er =>
    obtain ⟨ea, eb, rfl⟩ := hx
    have her : er ≠ 0 := by
      rcases Nat.lt_or_ge 65536 s.size with h | h
      · have := HX2.out h
        injection this with this
        omega
      · rcases Ad.scanX_err (HX1.out h) er rfl with h | h <;> omega
    have q1 : (er != 0) = true := by rw [bne_iff_ne]; exact her
    clear her
    have A2 := Lib.hid (A1.out.alloc (.cells #[.int .i64 er, .int .i64 ea, .int .i64 eb] 63))
    have hw0 := wrote4 (w := w) A2.out (B1.out.alloc (by omega) _) (Nat.le_refl _) (.string ⟨#[]⟩) (.slice none 0 0) (.string ⟨#[]⟩) (.string ⟨#[]⟩)
    have HW := Lib.hid (And.intro hw0.1.drew hw0.2.drew)
    have a2 := A2.out.cell
    have f2 := A2.out.frozen
    clear hw0
    go_wp2_with fail
    go_region
    go_wp2_with fail
    refine bodyPost_ret (refStep_res HW.out.1 rfl rfl rfl) rfl ?_
    exact ⟨⟨.error er, HX1.out, HX2.out, rfl⟩, HW.out.2⟩
  | ok toks =>
    obtain ⟨g, cp, htl, rfl, hLAt, hmc, hcm⟩ := hx
    obtain ⟨t, r, htr⟩ : ∃ t r, toks ++ [⟨0, [], 0⟩] = t :: r := by
      cases toks with
      | nil => exact ⟨_, _, rfl⟩
      | cons t r => exact ⟨_, _, rfl⟩
    have HP := Lib.hid (show ∀ (W' : World) (e : Ending), (match Ad.parseR (t :: r) with
      | none => e = .returned (.tuple #[.agg zs, .int .i64 100])
      | some c => ∃ v, NumsR W' w.heap.size v c.nums ∧ e = .returned (.tuple #[.agg #[.string ⟨c.word.toArray⟩, v, .string ⟨c.name.toArray⟩, .string ⟨c.data.toArray⟩], .int .i64 0])) → RParseOut s w e W' from fun W' e h => ⟨.ok toks, HX1.out, HX2.out, by
        show (match Ad.parseR (toks ++ [⟨0, [], 0⟩]) with
          | none => _
          | some c => _)
        rw [htr]
        exact h⟩)
    rw [htr] at hLAt
    have hml : r.length + 1 = toks.length + 1 := by have := hLAt.1; simpa using this
    obtain ⟨mm, hmm⟩ : ∃ mm, mm = toks.length + 1 := ⟨_, rfl⟩
    rw [← hmm] at hLAt hml hmc ⊢
    have hm1 : 1 ≤ mm := by omega
    have hm2 : mm ≤ 100001 := by omega
    have LT := Lib.hid hLAt
    obtain ⟨cs, ⟨p, cl, cc, ⟨pt, pa, pb, pc, pd, pe, rfl⟩, rfl⟩, hrg, hgS⟩ := hLAt.at11 (k := 0) rfl
    have hg1 : g < w1.heap.size := hgS.2
    have r0 : ∀ o', (w1.alloc o').cell? ⟨g, 0, none⟩ = some (.int .i64 t.kind) := fun o' => World.rangeAt_alloc hrg o' 0 _ rfl
    have r1 : ∀ o', (w1.alloc o').cell? ⟨g, 1, none⟩ = some (.string ⟨t.text.toArray⟩) := fun o' => World.rangeAt_alloc hrg o' 1 _ rfl
    have KW := Lib.hid (wants_any ⟨t.text.toArray⟩)
    have HPR := Lib.hid (show Ad.parseR (t :: r) = if (Ad.wantS (Ad.shapeF t.text)).2 = false ∨ t.kind ≠ 1 ∨ r.length ≠ (Ad.wantS (Ad.shapeF t.text)).1.size + 1 then none else Ad.goR (Ad.wantS (Ad.shapeF t.text)).1.data.toList r ⟨t.text, [], [], []⟩ from rfl)
    obtain ⟨hwz, hw35⟩ := Ad.want_len (Ad.shapeF t.text)
    have KW := Lib.hid (show ∀ W : World, Calls Tryz.prog 20 #[.string ⟨t.text.toArray⟩] W fun e w' => e = .returned (.tuple #[.string (Ad.wantS (Ad.shapeF t.text)).1, .bool (Ad.wantS (Ad.shapeF t.text)).2]) ∧ w' = W from KW.out)
    generalize (Ad.wantS (Ad.shapeF t.text)).1 = want at *
    generalize (Ad.wantS (Ad.shapeF t.text)).2 = isw at *
    generalize Ad.parseR (t :: r) = res at *
    have HW35 := Lib.hid hw35
    have A2 := Lib.hid (A1.out.alloc (.cells #[.int .i64 0, .int .i64 0, .int .i64 0] 63))
    have B2 := Lib.hid (show Below w.heap.size w (w1.alloc (.cells #[.int .i64 0, .int .i64 0, .int .i64 0] 63)) from B1.out.alloc (by omega) _)
    have a2 := A2.out.cell
    have f2 := A2.out.frozen
    have HML := Lib.hid hml
    clear hLAt hrg hgS hw35 hmm htr htl hml
    have HBAD := Lib.hid (show ∀ (W W' : World), res = none → Below w.heap.size w W' → RParseOut s w (.returned (.tuple #[.agg zs, .int .i64 100])) W' ∧ Below w.heap.size w W' from fun W W' h hb => ⟨HP.out _ _ (by rw [h]), hb⟩)
    have HW0 := Lib.hid (wrote4 (w := w) A2.out B2.out (Nat.le_refl _) (.string ⟨#[]⟩) (.slice none 0 0) (.string ⟨#[]⟩) (.string ⟨#[]⟩))
    cases isw with
    | false =>
      have HR := Lib.hid (show res = none from by rw [HPR.out, if_pos (.inl rfl)])
      clear HPR LT HW35 HML
      go_wp2_with (go_at_call 20; refine (KW.out _).mono ?_; rintro e w' ⟨rfl, rfl⟩)
      refine bodyPost_ret (refStep_res HW0.out.1 rfl rfl rfl) rfl ?_
      exact HBAD.out w _ HR.out HW0.out.2
    | true =>
      by_cases hkd : t.kind = 1
      rotate_left
      · have HR := Lib.hid (show res = none from by rw [HPR.out, if_pos (.inr (.inl hkd))])
        have q2 : (t.kind != 1) = true := by rw [bne_iff_ne]; exact hkd
        clear HPR LT HW35 HML hkd
        go_wp2_with (go_at_call 20; refine (KW.out _).mono ?_; rintro e w' ⟨rfl, rfl⟩)
        refine bodyPost_ret (refStep_res HW0.out.1 rfl rfl rfl) rfl ?_
        exact HBAD.out w _ HR.out HW0.out.2
      have q2 : (t.kind != 1) = false := by rw [hkd]; rfl
      by_cases hln : mm = want.size + 2
      rotate_left
      · have HR := Lib.hid (show res = none from by rw [HPR.out, if_pos (.inr (.inr (by have := HML.out; omega)))])
        have q3 : ((mm : Int) != (want.size : Int) + 2) = true := by rw [bne_iff_ne]; omega
        clear HPR LT HW35 HML hkd
        go_wp2_with (go_at_call 20; refine (KW.out _).mono ?_; rintro e w' ⟨rfl, rfl⟩)
        refine bodyPost_ret (refStep_res HW0.out.1 rfl rfl rfl) rfl ?_
        exact HBAD.out w _ HR.out HW0.out.2
      have q3 : ((mm : Int) != (want.size : Int) + 2) = false := by rw [hln]; simp
      have HR := Lib.hid (show res = Ad.goR want.data.toList r ⟨t.text, [], [], []⟩ from by rw [HPR.out, if_neg (by have := HML.out; simp only [not_or]; exact ⟨by simp, by simpa using hkd, by omega⟩)])
      have HLN := Lib.hid hln
      clear HPR hkd hln HW0
      go_wp2_with (go_at_call 20; refine (KW.out _).mono ?_; rintro e w' ⟨rfl, rfl⟩)
      obtain ⟨w3, hw3⟩ : ∃ w3, w3 = (w1.alloc (.cells #[.int .i64 0, .int .i64 0, .int .i64 0] 63)).alloc (.cells #[.string ⟨t.text.toArray⟩, .slice none 0 0, .string ⟨#[]⟩, .string ⟨#[]⟩] 24) := ⟨_, rfl⟩
      rw [← hw3]
      have E3 := Lib.hid (show Blk w3 (w1.heap.size + 1) 24 #[.string ⟨t.text.toArray⟩, .slice none 0 0, .string ⟨#[]⟩, .string ⟨#[]⟩] by
        have := Blk.new (w1.alloc (.cells #[.int .i64 0, .int .i64 0, .int .i64 0] 63)) 24 #[.string ⟨t.text.toArray⟩, .slice none 0 0, .string ⟨#[]⟩, .string ⟨#[]⟩]
        rw [hw3]
        simpa using this)
      have B3 := Lib.hid (show Below w1.heap.size w1 w3 from hw3 ▸ ((Below.refl _ w1).alloc (Nat.le_refl _) _).alloc (by simp) _)
      clear hw3 a2 f2 A2 B2 r0 r1 KW q2 q3
      go_loopw [9] (fun x wr => ParI w1 want res r x wr) (fun x _ => want.size - (intOf x).toNat)
      case atStart => exact ⟨0, ⟨t.text, [], [], []⟩, _, rfl, by omega, Lib.hid HR.out, E3.out, .inl ⟨rfl, rfl⟩, Lib.hid (fun _ => ⟨rfl, rfl⟩), B3.out, by have := E3.out.lt; omega⟩
      case round =>
        obtain ⟨i, c, v, rfl, hi, HG, hE, hN, HNS, hbel, hsz⟩ := hrel
        clear E3 B3 HR
        have A4 := Lib.hid (A1.out.below hbel (by omega))
        have B4 := Lib.hid (B1.out.trans (hbel.mono (by omega)))
        have EE := Lib.hid hE
        have BL := Lib.hid hbel
        have NN := Lib.hid hN
        clear hE hbel hN
        by_cases hlt : i < want.size
        rotate_left
        · obtain rfl : i = want.size := by omega
          have HRS := Lib.hid (show res = some c from by rw [HG.out, List.drop_eq_nil_of_le (by simp)]; rfl)
          have e4 := EE.out.cell
          have a4 := A4.out.cell
          have f4 := A4.out.frozen
          have HW := Lib.hid (wrote4 (w := w) A4.out B4.out (Nat.le_refl _) (.string ⟨c.word.toArray⟩) v (.string ⟨c.name.toArray⟩) (.string ⟨c.data.toArray⟩))
          have hne : ∀ q, w1.heap.size + 2 ≤ q → q ≠ w.heap.size := fun q h => by omega
          have HNE := Lib.hid hne
          have NN2 := NN.out
          clear hne NN HG HNS BL EE A4 B4
          rcases NN2 with ⟨h0, rfl⟩ | ⟨g2, n2, cap2, h1, rfl, h2, h3, h4⟩
          · have H0 := Lib.hid h0
            clear h0
            go_wp2_with fail
            refine bodyPost_ret (refStep_res HW.out.1 rfl rfl rfl) rfl ?_
            refine ⟨HP.out _ _ ?_, HW.out.2⟩
            rw [HRS.out]
            exact ⟨_, .inl ⟨H0.out, rfl⟩, rfl⟩
          · have H1 := Lib.hid h1
            have H4 := Lib.hid h4
            clear h1 h4
            go_wp2_with fail
            refine bodyPost_ret (refStep_res HW.out.1 rfl rfl rfl) rfl ?_
            refine ⟨HP.out _ _ ?_, HW.out.2⟩
            rw [HRS.out]
            refine ⟨_, .inr ⟨g2, n2, cap2, H1.out, rfl, by omega, by simpa using h3, (World.cell?_of_block ?_).trans H4.out⟩, rfl⟩
            have hne := HNE.out g2 h2
            rw [Below.heap_setCell _ _ _ _ (by simpa using hne), Below.heap_setCell _ _ _ _ (by simpa using hne), Below.heap_setCell _ _ _ _ (by simpa using hne), Below.heap_setCell _ _ _ _ (by simpa using hne)]
        obtain ⟨hns, rfl⟩ := HNS.out hlt
        have hri : i < r.length := by have := HML.out; have := HLN.out; omega
        obtain ⟨u, hu⟩ : ∃ u, r[i]? = some u := ⟨_, List.getElem?_eq_getElem hri⟩
        obtain ⟨cs2, ⟨p2, cl2, cc2, ⟨qt, qa, qb, qc, qd, qe, rfl⟩, rfl⟩, hrg2, hgS2⟩ := LT.out.at11 (k := i + 1) (u := u) (by simpa using hu)
        have HRG := Lib.hid (show ∀ o', (wr.alloc o').rangeAt g (11 * (i + 1)) ([.int .i64 u.kind, .string ⟨u.text.toArray⟩, .int .i64 u.num] ++ [.string qt, .int .i64 qa, .int .i64 qb, .int .i64 qc, .int .i64 qd, .int .i64 qe] ++ [.int .i64 cl2, .int .i64 cc2]) from fun o' => World.rangeAt_alloc (fun j x hx => (BL.out.cell (p := ⟨g, 11 * (i + 1) + j, none⟩) hg1).trans (hrg2 j x hx)) o')
        have HRG0 := Lib.hid (show wr.rangeAt g (11 * (i + 1)) ([.int .i64 u.kind, .string ⟨u.text.toArray⟩, .int .i64 u.num] ++ [.string qt, .int .i64 qa, .int .i64 qb, .int .i64 qc, .int .i64 qd, .int .i64 qe] ++ [.int .i64 cl2, .int .i64 cc2]) from fun j x hx => (BL.out.cell (p := ⟨g, 11 * (i + 1) + j, none⟩) hg1).trans (hrg2 j x hx))
        have HD := Lib.hid (show res = Ad.goR (want[i] :: want.data.toList.drop (i + 1)) (u :: r.drop (i + 1)) c from by
          rw [HG.out, List.drop_eq_getElem_cons (by simpa using hlt), List.drop_eq_getElem_cons hri]
          have : r[i] = u := by rw [List.getElem?_eq_getElem hri] at hu; injection hu
          rw [this]
          rfl)
        have H35 := Lib.hid (HW35.out i hlt)
        have hix : ∀ W : World, (Instr.index 9 (.string want) (.int .i64 (i : Int))).run Tryz.prog W = .ok (.int .u8 (want[i].toNat : Int)) W := fun W => idx_atu want i hlt rfl W
        have hb8 := want[i].toNat_lt
        generalize want[i] = b at *
        have HNS2 := Lib.hid hns
        clear hu hrg2 hgS2 HG HNS hns hri
        have hmb0 : i + 1 < mm := by have := HLN.out; omega
        obtain ⟨w5, hw5⟩ : ∃ w5, w5 = wr.alloc (.cells #[.int .i64 u.kind, .string ⟨u.text.toArray⟩, .int .i64 u.num, .string qt, .int .i64 qa, .int .i64 qb, .int .i64 qc, .int .i64 qd, .int .i64 qe, .int .i64 cl2, .int .i64 cc2] 71) := ⟨_, rfl⟩
        have T5 := Lib.hid (show Blk w5 wr.heap.size 71 #[.int .i64 u.kind, .string ⟨u.text.toArray⟩, .int .i64 u.num, .string qt, .int .i64 qa, .int .i64 qb, .int .i64 qc, .int .i64 qd, .int .i64 qe, .int .i64 cl2, .int .i64 cc2] from hw5 ▸ Blk.new wr _ _)
        have E5 := Lib.hid (show Blk w5 (w1.heap.size + 1) 24 #[.string ⟨c.word.toArray⟩, .slice none 0 0, .string ⟨c.name.toArray⟩, .string ⟨c.data.toArray⟩] from hw5 ▸ EE.out.alloc _)
        have A5 := Lib.hid (show Blk w5 w.heap.size 24 zs from hw5 ▸ A4.out.alloc _)
        have B5 := Lib.hid (show Below w1.heap.size w1 w5 from hw5 ▸ BL.out.alloc (by omega) _)
        have C5 := Lib.hid (show Below w.heap.size w w5 from hw5 ▸ B4.out.alloc (by have := B4.out.size; exact this) _)
        have hz5 : w5.heap.size = wr.heap.size + 1 := by rw [hw5]; simp
        have t5 := T5.out.cell
        have e5 := E5.out.cell
        have g5 := E5.out.frozen
        have a5 := A5.out.cell
        have f5 := A5.out.frozen
        have HW := Lib.hid (wrote4 (w := w) A5.out C5.out (Nat.le_refl _) (.string ⟨#[]⟩) (.slice none 0 0) (.string ⟨#[]⟩) (.string ⟨#[]⟩))
        have HSZ := Lib.hid hsz
        have HZ5 := Lib.hid hz5
        clear EE A4 B4 BL NN hz5
        have hii : i = 0 ∨ i = 1 := by omega
        rcases hii with rfl | rfl
        · have hix : ∀ W : World, (Instr.index 9 (.string want) (.int .i64 0)).run Tryz.prog W = .ok (.int .u8 (b.toNat : Int)) W := hix
          have hmb : 1 < mm := by omega
          clear hmb0
          have HN6 := Lib.hid (show ∀ x : Ad.Step, res = Ad.goR (want.data.toList.drop 1) (r.drop 1) x → res = Ad.goR (want.data.toList.drop 1) (r.drop 1) x from fun _ h => h)
          by_cases hb84 : b.toNat = 84 ∧ u.kind = 3
          · have HG := Lib.hid (show res = Ad.goR (want.data.toList.drop 1) (r.drop 1) ⟨c.word, c.nums, c.name, u.text⟩ from by rw [HD.out, Ad.goR_cons, if_pos hb84])
            have z1 : ((b.toNat : Int) == 84) = true := by rw [hb84.1]; rfl
            have z2 : (u.kind == 3) = true := by rw [hb84.2]; rfl
            clear hb84 HD H35 HW
            go_upto_region 13 with (refine wpList_load_mid rfl 71 (.tmp 62) rfl g 11 rfl _ _ HRG0.out Tryz.underlying71 rfl (by kernel_rfl) ?_)
            rw [← hw5]
            clear hw5
            go_wp2_with fail
            go_roundw
            case rel => exact ⟨0 + 1, ⟨c.word, c.nums, c.name, u.text⟩, _, by go_num, by omega, HG, E5.out.set_ 3 _, .inl ⟨HNS2.out, rfl⟩, Lib.hid (fun _ => ⟨HNS2.out, rfl⟩), B5.out.setCell (by simp) _, by have := HSZ.out; have := HZ5.out; simp; omega⟩
            case measure => simp [intOf] <;> omega
          by_cases hb78 : b.toNat = 78 ∧ (u.kind = 3 ∨ u.kind = 1)
          · have HG := Lib.hid (show res = Ad.goR (want.data.toList.drop 1) (r.drop 1) ⟨c.word, c.nums, u.text, c.data⟩ from by rw [HD.out, Ad.goR_cons, if_neg hb84, if_pos hb78])
            have z1 : ((b.toNat : Int) == 84) = false := by rw [hb78.1]; rfl
            have z3 : ((b.toNat : Int) == 78) = true := by rw [hb78.1]; rfl
            obtain ⟨y1, hy1⟩ : ∃ y, (u.kind == 3) = y := ⟨_, rfl⟩
            obtain ⟨y2, hy2⟩ : ∃ y, (u.kind == 1) = y := ⟨_, rfl⟩
            have hyy : y1 = true ∨ (y1 = false ∧ y2 = true) := by
              rcases hb78.2 with h | h
              · left; rw [← hy1, h]; rfl
              · right; exact ⟨by rw [← hy1, h]; rfl, by rw [← hy2, h]; rfl⟩
            clear hb84 hb78 HD H35 HW
            rcases hyy with rfl | ⟨rfl, rfl⟩
            all_goals
              go_upto_region 13 with (refine wpList_load_mid rfl 71 (.tmp 62) rfl g 11 rfl _ _ HRG0.out Tryz.underlying71 rfl (by kernel_rfl) ?_)
              rw [← hw5]
              clear hw5
              go_wp2_with fail
              go_roundw
              case rel => exact ⟨0 + 1, ⟨c.word, c.nums, u.text, c.data⟩, _, by go_num, by omega, HG, E5.out.set_ 2 _, .inl ⟨HNS2.out, rfl⟩, Lib.hid (fun _ => ⟨HNS2.out, rfl⟩), B5.out.setCell (by simp) _, by have := HSZ.out; have := HZ5.out; simp; omega⟩
              case measure => simp [intOf] <;> omega
          by_cases hb35 : b.toNat = 35 ∧ u.kind = 2
          · have HG := Lib.hid (show res = Ad.goR (want.data.toList.drop 1) (r.drop 1) ⟨c.word, [u.num], c.name, c.data⟩ from by rw [HD.out, Ad.goR_cons, if_neg hb84, if_neg hb78, if_pos hb35, HNS2.out]; rfl)
            have z1 : ((b.toNat : Int) == 84) = false := by rw [hb35.1]; rfl
            have z3 : ((b.toNat : Int) == 78) = false := by rw [hb35.1]; rfl
            have z4 : ((b.toNat : Int) == 35) = true := by rw [hb35.1]; rfl
            have z5 : (u.kind == 2) = true := by rw [hb35.2]; rfl
            have HNE := Lib.hid (show ∀ o4 : Value, 0 + 1 < want.size → [u.num] = [] ∧ o4 = (Value.slice none 0 0) from fun _ h => absurd (H35.out hb35.1) (by omega))
            obtain ⟨it, J1, J2, J3, J4⟩ := info_parts infoInt
            have NW := Lib.hid (fun (W : World) (g : Nat) (hg : W.heap.size = g) => hg ▸ news_one (E := intE) (w := W) (S := nowhere) (x := u.num) (cs := [.int .i64 u.num]) (T' := 3) rfl (fun b hb => hb.elim))
            have hown : ∀ W : World, OwnE intE 3 W (w1.heap.size + 2) nowhere (.slice none 0 0) [] := fun W => OwnE.nil (fun b hb => hb.elim)
            clear hb84 hb78 hb35 HD H35 HW
            go_upto_region 13 with (refine wpList_load_mid rfl 71 (.tmp 62) rfl g 11 rfl _ _ HRG0.out Tryz.underlying71 rfl (by kernel_rfl) ?_)
            rw [← hw5]
            clear hw5
            go_wp2_with (at_builtin; go_loud (refine wpList_append_E rfl (.tmp 107) (.tmp 110) _ rfl it (.int .i64 0) 8 Tryz.underlying22 J1 J2 J3 J4 rfl rfl (hown _) ⟨_, 0, none⟩ 1 1 [u.num] rfl rfl (NW.out _ _ (by first | rfl | simp)) (by decide) (by omega) (by have := HZ5.out; have := HSZ.out; simp; omega) ?_; intro o4 w6 hown6 hb6 hg6 hw6; have E6 := Lib.hid (((E5.out.alloc (.cells #[.int .i64 u.num] 3))).grown hg6 (by first | (simp [Value.ownBlock]; done) | exact fun h => by cases h)); have e6 := E6.out.cell; have g6 := E6.out.frozen; have N6 := Lib.hid (NumsR.own hown6); obtain ⟨q6, n6, cap6, hq1, rfl, hq2, hq3, hq4⟩ := N6.out.resolve_left (by simp); clear hq1 hq3 hq4; have Q6 := Lib.hid hq2; clear hq2; have S6 := Lib.hid (show w1.heap.size + 2 ≤ w6.heap.size by have h7 := hb6.size; have := HZ5.out; have := HSZ.out; simp at h7; omega); have B6 := Lib.hid ((B5.out.alloc (by have := HZ5.out; have := HSZ.out; omega) _).trans (hb6.mono (by omega))); clear hb6 hg6))
            go_roundw
            case rel =>
              refine ⟨0 + 1, ⟨c.word, [u.num], c.name, c.data⟩, _, by go_num, by omega, HG, E6.out.set_ 1 _, N6.out.keep (by simp) (fun q hq => Below.heap_setCell _ _ _ _ (by simp only [Value.ownBlock, Option.some.injEq] at hq; have := Q6.out; simp; omega)), Lib.hid (HNE.out _), B6.out.setCell (by simp) _, by have := S6.out; simp; omega⟩
            case measure => simp [intOf] <;> omega
          have HNO := Lib.hid (show res = none from by rw [HD.out, Ad.goR_cons, if_neg hb84, if_neg hb78, if_neg hb35])
          have hno : (b.toNat = 84 ∧ u.kind ≠ 3) ∨ (b.toNat = 78 ∧ u.kind ≠ 3 ∧ u.kind ≠ 1) ∨ (b.toNat = 35 ∧ u.kind ≠ 2) ∨ (b.toNat ≠ 84 ∧ b.toNat ≠ 78 ∧ b.toNat ≠ 35) := by omega
          clear hb84 hb78 hb35 HD H35
          have hfin := Lib.hid (fun W h => HBAD.out w W HNO.out h)
          rcases hno with ⟨h1, h2⟩ | ⟨h1, h2, h3⟩ | ⟨h1, h2⟩ | ⟨h1, h2, h3⟩
          · have z1 : ((b.toNat : Int) == 84) = true := by rw [h1]; rfl
            have z2 : ((b.toNat : Int) == 78) = false := by rw [h1]; rfl
            have z3 : ((b.toNat : Int) == 35) = false := by rw [h1]; rfl
            have z4 : (u.kind == 3) = false := by rw [beq_eq_false_iff_ne]; exact h2
            clear h1 h2
            go_upto_region 13 with (refine wpList_load_mid rfl 71 (.tmp 62) rfl g 11 rfl _ _ HRG0.out Tryz.underlying71 rfl (by kernel_rfl) ?_)
            rw [← hw5]
            clear hw5
            go_wp2_with fail
            refine bodyPost_ret (refStep_res HW.out.1 rfl rfl rfl) rfl ?_
            exact hfin.out _ HW.out.2
          · have z1 : ((b.toNat : Int) == 84) = false := by rw [h1]; rfl
            have z2 : ((b.toNat : Int) == 78) = true := by rw [h1]; rfl
            have z3 : ((b.toNat : Int) == 35) = false := by rw [h1]; rfl
            have z4 : (u.kind == 3) = false := by rw [beq_eq_false_iff_ne]; exact h2
            have z5 : (u.kind == 1) = false := by rw [beq_eq_false_iff_ne]; exact h3
            clear h1 h2 h3
            go_upto_region 13 with (refine wpList_load_mid rfl 71 (.tmp 62) rfl g 11 rfl _ _ HRG0.out Tryz.underlying71 rfl (by kernel_rfl) ?_)
            rw [← hw5]
            clear hw5
            go_wp2_with fail
            refine bodyPost_ret (refStep_res HW.out.1 rfl rfl rfl) rfl ?_
            exact hfin.out _ HW.out.2
          · have z1 : ((b.toNat : Int) == 84) = false := by rw [h1]; rfl
            have z2 : ((b.toNat : Int) == 78) = false := by rw [h1]; rfl
            have z3 : ((b.toNat : Int) == 35) = true := by rw [h1]; rfl
            have z4 : (u.kind == 2) = false := by rw [beq_eq_false_iff_ne]; exact h2
            clear h1 h2
            go_upto_region 13 with (refine wpList_load_mid rfl 71 (.tmp 62) rfl g 11 rfl _ _ HRG0.out Tryz.underlying71 rfl (by kernel_rfl) ?_)
            rw [← hw5]
            clear hw5
            go_wp2_with fail
            refine bodyPost_ret (refStep_res HW.out.1 rfl rfl rfl) rfl ?_
            exact hfin.out _ HW.out.2
          · have z1 : ((b.toNat : Int) == 84) = false := by rw [beq_eq_false_iff_ne]; omega
            have z2 : ((b.toNat : Int) == 78) = false := by rw [beq_eq_false_iff_ne]; omega
            have z3 : ((b.toNat : Int) == 35) = false := by rw [beq_eq_false_iff_ne]; omega
            clear h1 h2 h3
            go_upto_region 13 with (refine wpList_load_mid rfl 71 (.tmp 62) rfl g 11 rfl _ _ HRG0.out Tryz.underlying71 rfl (by kernel_rfl) ?_)
            rw [← hw5]
            clear hw5
            go_wp2_with fail
            refine bodyPost_ret (refStep_res HW.out.1 rfl rfl rfl) rfl ?_
            exact hfin.out _ HW.out.2
        · have hix : ∀ W : World, (Instr.index 9 (.string want) (.int .i64 1)).run Tryz.prog W = .ok (.int .u8 (b.toNat : Int)) W := hix
          have hmb : 2 < mm := by omega
          clear hmb0
          have HN6 := Lib.hid (show ∀ x : Ad.Step, res = Ad.goR (want.data.toList.drop 2) (r.drop 2) x → res = Ad.goR (want.data.toList.drop 2) (r.drop 2) x from fun _ h => h)
          by_cases hb84 : b.toNat = 84 ∧ u.kind = 3
          · have HG := Lib.hid (show res = Ad.goR (want.data.toList.drop 2) (r.drop 2) ⟨c.word, c.nums, c.name, u.text⟩ from by rw [HD.out, Ad.goR_cons, if_pos hb84])
            have z1 : ((b.toNat : Int) == 84) = true := by rw [hb84.1]; rfl
            have z2 : (u.kind == 3) = true := by rw [hb84.2]; rfl
            clear hb84 HD H35 HW
            go_upto_region 13 with (refine wpList_load_mid rfl 71 (.tmp 62) rfl g 22 rfl _ _ HRG0.out Tryz.underlying71 rfl (by kernel_rfl) ?_)
            rw [← hw5]
            clear hw5
            go_wp2_with fail
            go_roundw
            case rel => exact ⟨1 + 1, ⟨c.word, c.nums, c.name, u.text⟩, _, by go_num, by omega, HG, E5.out.set_ 3 _, .inl ⟨HNS2.out, rfl⟩, Lib.hid (fun _ => ⟨HNS2.out, rfl⟩), B5.out.setCell (by simp) _, by have := HSZ.out; have := HZ5.out; simp; omega⟩
            case measure => simp [intOf] <;> omega
          by_cases hb78 : b.toNat = 78 ∧ (u.kind = 3 ∨ u.kind = 1)
          · have HG := Lib.hid (show res = Ad.goR (want.data.toList.drop 2) (r.drop 2) ⟨c.word, c.nums, u.text, c.data⟩ from by rw [HD.out, Ad.goR_cons, if_neg hb84, if_pos hb78])
            have z1 : ((b.toNat : Int) == 84) = false := by rw [hb78.1]; rfl
            have z3 : ((b.toNat : Int) == 78) = true := by rw [hb78.1]; rfl
            obtain ⟨y1, hy1⟩ : ∃ y, (u.kind == 3) = y := ⟨_, rfl⟩
            obtain ⟨y2, hy2⟩ : ∃ y, (u.kind == 1) = y := ⟨_, rfl⟩
            have hyy : y1 = true ∨ (y1 = false ∧ y2 = true) := by
              rcases hb78.2 with h | h
              · left; rw [← hy1, h]; rfl
              · right; exact ⟨by rw [← hy1, h]; rfl, by rw [← hy2, h]; rfl⟩
            clear hb84 hb78 HD H35 HW
            rcases hyy with rfl | ⟨rfl, rfl⟩
            all_goals
              go_upto_region 13 with (refine wpList_load_mid rfl 71 (.tmp 62) rfl g 22 rfl _ _ HRG0.out Tryz.underlying71 rfl (by kernel_rfl) ?_)
              rw [← hw5]
              clear hw5
              go_wp2_with fail
              go_roundw
              case rel => exact ⟨1 + 1, ⟨c.word, c.nums, u.text, c.data⟩, _, by go_num, by omega, HG, E5.out.set_ 2 _, .inl ⟨HNS2.out, rfl⟩, Lib.hid (fun _ => ⟨HNS2.out, rfl⟩), B5.out.setCell (by simp) _, by have := HSZ.out; have := HZ5.out; simp; omega⟩
              case measure => simp [intOf] <;> omega
          by_cases hb35 : b.toNat = 35 ∧ u.kind = 2
          · have HG := Lib.hid (show res = Ad.goR (want.data.toList.drop 2) (r.drop 2) ⟨c.word, [u.num], c.name, c.data⟩ from by rw [HD.out, Ad.goR_cons, if_neg hb84, if_neg hb78, if_pos hb35, HNS2.out]; rfl)
            have z1 : ((b.toNat : Int) == 84) = false := by rw [hb35.1]; rfl
            have z3 : ((b.toNat : Int) == 78) = false := by rw [hb35.1]; rfl
            have z4 : ((b.toNat : Int) == 35) = true := by rw [hb35.1]; rfl
            have z5 : (u.kind == 2) = true := by rw [hb35.2]; rfl
            have HNE := Lib.hid (show ∀ o4 : Value, 1 + 1 < want.size → [u.num] = [] ∧ o4 = (Value.slice none 0 0) from fun _ h => absurd (H35.out hb35.1) (by omega))
            obtain ⟨it, J1, J2, J3, J4⟩ := info_parts infoInt
            have NW := Lib.hid (fun (W : World) (g : Nat) (hg : W.heap.size = g) => hg ▸ news_one (E := intE) (w := W) (S := nowhere) (x := u.num) (cs := [.int .i64 u.num]) (T' := 3) rfl (fun b hb => hb.elim))
            have hown : ∀ W : World, OwnE intE 3 W (w1.heap.size + 2) nowhere (.slice none 0 0) [] := fun W => OwnE.nil (fun b hb => hb.elim)
            clear hb84 hb78 hb35 HD H35 HW
            go_upto_region 13 with (refine wpList_load_mid rfl 71 (.tmp 62) rfl g 22 rfl _ _ HRG0.out Tryz.underlying71 rfl (by kernel_rfl) ?_)
            rw [← hw5]
            clear hw5
            go_wp2_with (at_builtin; go_loud (refine wpList_append_E rfl (.tmp 107) (.tmp 110) _ rfl it (.int .i64 0) 8 Tryz.underlying22 J1 J2 J3 J4 rfl rfl (hown _) ⟨_, 0, none⟩ 1 1 [u.num] rfl rfl (NW.out _ _ (by first | rfl | simp)) (by decide) (by omega) (by have := HZ5.out; have := HSZ.out; simp; omega) ?_; intro o4 w6 hown6 hb6 hg6 hw6; have E6 := Lib.hid (((E5.out.alloc (.cells #[.int .i64 u.num] 3))).grown hg6 (by first | (simp [Value.ownBlock]; done) | exact fun h => by cases h)); have e6 := E6.out.cell; have g6 := E6.out.frozen; have N6 := Lib.hid (NumsR.own hown6); obtain ⟨q6, n6, cap6, hq1, rfl, hq2, hq3, hq4⟩ := N6.out.resolve_left (by simp); clear hq1 hq3 hq4; have Q6 := Lib.hid hq2; clear hq2; have S6 := Lib.hid (show w1.heap.size + 2 ≤ w6.heap.size by have h7 := hb6.size; have := HZ5.out; have := HSZ.out; simp at h7; omega); have B6 := Lib.hid ((B5.out.alloc (by have := HZ5.out; have := HSZ.out; omega) _).trans (hb6.mono (by omega))); clear hb6 hg6))
            go_roundw
            case rel =>
              refine ⟨1 + 1, ⟨c.word, [u.num], c.name, c.data⟩, _, by go_num, by omega, HG, E6.out.set_ 1 _, N6.out.keep (by simp) (fun q hq => Below.heap_setCell _ _ _ _ (by simp only [Value.ownBlock, Option.some.injEq] at hq; have := Q6.out; simp; omega)), Lib.hid (HNE.out _), B6.out.setCell (by simp) _, by have := S6.out; simp; omega⟩
            case measure => simp [intOf] <;> omega
          have HNO := Lib.hid (show res = none from by rw [HD.out, Ad.goR_cons, if_neg hb84, if_neg hb78, if_neg hb35])
          have hno : (b.toNat = 84 ∧ u.kind ≠ 3) ∨ (b.toNat = 78 ∧ u.kind ≠ 3 ∧ u.kind ≠ 1) ∨ (b.toNat = 35 ∧ u.kind ≠ 2) ∨ (b.toNat ≠ 84 ∧ b.toNat ≠ 78 ∧ b.toNat ≠ 35) := by omega
          clear hb84 hb78 hb35 HD H35
          have hfin := Lib.hid (fun W h => HBAD.out w W HNO.out h)
          rcases hno with ⟨h1, h2⟩ | ⟨h1, h2, h3⟩ | ⟨h1, h2⟩ | ⟨h1, h2, h3⟩
          · have z1 : ((b.toNat : Int) == 84) = true := by rw [h1]; rfl
            have z2 : ((b.toNat : Int) == 78) = false := by rw [h1]; rfl
            have z3 : ((b.toNat : Int) == 35) = false := by rw [h1]; rfl
            have z4 : (u.kind == 3) = false := by rw [beq_eq_false_iff_ne]; exact h2
            clear h1 h2
            go_upto_region 13 with (refine wpList_load_mid rfl 71 (.tmp 62) rfl g 22 rfl _ _ HRG0.out Tryz.underlying71 rfl (by kernel_rfl) ?_)
            rw [← hw5]
            clear hw5
            go_wp2_with fail
            refine bodyPost_ret (refStep_res HW.out.1 rfl rfl rfl) rfl ?_
            exact hfin.out _ HW.out.2
          · have z1 : ((b.toNat : Int) == 84) = false := by rw [h1]; rfl
            have z2 : ((b.toNat : Int) == 78) = true := by rw [h1]; rfl
            have z3 : ((b.toNat : Int) == 35) = false := by rw [h1]; rfl
            have z4 : (u.kind == 3) = false := by rw [beq_eq_false_iff_ne]; exact h2
            have z5 : (u.kind == 1) = false := by rw [beq_eq_false_iff_ne]; exact h3
            clear h1 h2 h3
            go_upto_region 13 with (refine wpList_load_mid rfl 71 (.tmp 62) rfl g 22 rfl _ _ HRG0.out Tryz.underlying71 rfl (by kernel_rfl) ?_)
            rw [← hw5]
            clear hw5
            go_wp2_with fail
            refine bodyPost_ret (refStep_res HW.out.1 rfl rfl rfl) rfl ?_
            exact hfin.out _ HW.out.2
          · have z1 : ((b.toNat : Int) == 84) = false := by rw [h1]; rfl
            have z2 : ((b.toNat : Int) == 78) = false := by rw [h1]; rfl
            have z3 : ((b.toNat : Int) == 35) = true := by rw [h1]; rfl
            have z4 : (u.kind == 2) = false := by rw [beq_eq_false_iff_ne]; exact h2
            clear h1 h2
            go_upto_region 13 with (refine wpList_load_mid rfl 71 (.tmp 62) rfl g 22 rfl _ _ HRG0.out Tryz.underlying71 rfl (by kernel_rfl) ?_)
            rw [← hw5]
            clear hw5
            go_wp2_with fail
            refine bodyPost_ret (refStep_res HW.out.1 rfl rfl rfl) rfl ?_
            exact hfin.out _ HW.out.2
          · have z1 : ((b.toNat : Int) == 84) = false := by rw [beq_eq_false_iff_ne]; omega
            have z2 : ((b.toNat : Int) == 78) = false := by rw [beq_eq_false_iff_ne]; omega
            have z3 : ((b.toNat : Int) == 35) = false := by rw [beq_eq_false_iff_ne]; omega
            clear h1 h2 h3
            go_upto_region 13 with (refine wpList_load_mid rfl 71 (.tmp 62) rfl g 22 rfl _ _ HRG0.out Tryz.underlying71 rfl (by kernel_rfl) ?_)
            rw [← hw5]
            clear hw5
            go_wp2_with fail
            refine bodyPost_ret (refStep_res HW.out.1 rfl rfl rfl) rfl ?_
            exact hfin.out _ HW.out.2
end Go.Proofs.YtmabpnmnppfgaaaGreatDoor
