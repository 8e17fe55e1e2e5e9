/- What PruneRuns returns: true. -/
import Derived.Test.YtjbhlojfmcldjabIntsAt
import Derived.Test.YtjbhlojfmcldjabPr18
import Derived.Test.YtjbhlojfmcldjabPr15
namespace Go.Proofs.Ytjbhlojfmcldjab
set_option linter.unusedVariables false
open Go.RowKit Go.BigFrame
theorem Blk.put8 {w : World} {g0 : Nat} {t : TypeId} {a b c d e f g h a' b' c' d' e' f' g' h' : Value} (hk : Blk w g0 t #[a', b', c', d', e', f', g', h']) :
    Blk ((((((((w.setCell ⟨g0, 0, none⟩ a).setCell ⟨g0, 1, none⟩ b).setCell ⟨g0, 2, none⟩ c).setCell ⟨g0, 3, none⟩ d).setCell ⟨g0, 4, none⟩ e).setCell ⟨g0, 5, none⟩ f).setCell ⟨g0, 6, none⟩ g).setCell ⟨g0, 7, none⟩ h) g0 t #[a, b, c, d, e, f, g, h] := by
  have := (((((((hk.set_ 0 a).set_ 1 b).set_ 2 c).set_ 3 d).set_ 4 e).set_ 5 f).set_ 6 g).set_ 7 h
  simpa [World.setCells] using this
theorem OwnL.far3 {w : World} {B : Nat} {v : Value} {l : List P.Leg} (h : OwnL w B v l) {p : Addr} (hp : some p.block ≠ v.ownBlock) (u : Value) : OwnL (w.setCell p u) B v l := by
  obtain ⟨h1, h2⟩ := h
  refine ⟨h1, ?_⟩
  rcases h2 with h2 | ⟨g', cap, cur, hv, hg, hh, r⟩
  · exact .inl h2
  · exact .inr ⟨g', cap, cur, hv, hg, by rw [Below.heap_setCell _ _ _ _ (fun e => hp (by rw [hv]; exact congrArg some e.symm))]; exact hh, r⟩
theorem fine_wf {l : List P.Leg} (h : P.Fine l) : (∀ x ∈ l, (Lit.int .i64 x.tries).wf = true) ∧ ∀ x ∈ l, (Lit.int .i64 x.status).wf = true := by
  have e1 : IntKind.i64.min = -9223372036854775808 := rfl
  have e2 : IntKind.i64.max = 9223372036854775807 := rfl
  constructor
  · intro x hx
    have := h x hx
    unfold Lit.wf
    simp only [e1, e2]
    simp
    omega
  · intro x hx
    have := h x hx
    unfold Lit.wf
    simp only [e1, e2]
    simp
    omega
theorem nat_wf {q : Nat} (h : q ≤ 1000) : (Lit.int .i64 (q : Int)).wf = true := by
  have e1 : IntKind.i64.min = -9223372036854775808 := rfl
  have e2 : IntKind.i64.max = 9223372036854775807 := rfl
  unfold Lit.wf
  simp only [e1, e2]
  simp
  omega
namespace P
theorem doneOf_next {ds : List Dest} {ls ls' : List Leg} {dest : ByteArray} {dn : Int} {q : Nat} (hh : hasS (next 3 ds ls) dest = true) (hd : dn = -1) :
    (doneOf 3 ds ls ls' dest dn q = -1 ∨ terminal 3 ls' = true) ∧ -1 ≤ doneOf 3 ds ls ls' dest dn q ∧ doneOf 3 ds ls ls' dest dn q ≤ q ∧ decide (0 ≤ doneOf 3 ds ls ls' dest dn q) = terminal 3 ls' := by
  unfold doneOf
  rw [if_pos hh]
  subst hd
  cases ht : terminal 3 ls'
  · rw [if_neg (by simp)]
    refine ⟨Or.inl rfl, by omega, by omega, by simp⟩
  · rw [if_pos ⟨rfl, rfl⟩]
    refine ⟨Or.inr rfl, by omega, by omega, by simp⟩
end P
set_option maxRecDepth 100000 in
set_option maxHeartbeats 4000000 in
theorem pruneRuns_any (cn cd cpre cfil ctr : ByteArray) (cf : Bool) (cpt crt : Int) (D : Option Addr) (n dc : Nat) (ds : List P.Dest) (RA : Option Addr) (rn rc : Nat) (routes : List ByteArray) (PA : Option Addr) (pn pc : Nat) (picks : List Int) (B : Nat) (w : World)
    (hd : DestsAt w B D n ds) (hr : StrsAt w B RA rn routes) (hp : IntsAt w B PA pn picks) (hB : B ≤ w.heap.size) (hn : n ≤ maxLen) (hrn : rn ≤ maxLen) (hw : ∀ d ∈ ds, (Lit.int .i64 d.chain).wf = true) (hwb : ∀ d ∈ ds, (Lit.int .i64 d.backoff).wf = true) :
    Calls Try.prog 3 #[.agg #[.string cn, .bool cf, .int .i64 cpt, .string cd, .string cpre, .string cfil, .string ctr, .slice D n dc, .int .i64 crt], .slice RA rn rc, .slice PA pn pc] w fun e w' => e = .returned (.bool true) ∧ Below w.heap.size w w' := by
  have hbel := (Below.refl w.heap.size w).alloc (Nat.le_refl _) (.cells #[.string cn, .bool cf, .int .i64 cpt, .string cd, .string cpre, .string cfil, .string ctr, .slice D n dc, .int .i64 crt] 24)
  have k0 := Blk.new w 24 #[.string cn, .bool cf, .int .i64 cpt, .string cd, .string cpre, .string cfil, .string ctr, .slice D n dc, .int .i64 crt]
  have hz : (w.alloc (.cells #[.string cn, .bool cf, .int .i64 cpt, .string cd, .string cpre, .string cfil, .string ctr, .slice D n dc, .int .i64 crt] 24)).heap.size = w.heap.size + 1 := by simp
  have KR := Lib.hid (right_any cn cd cpre cfil ctr cf cpt crt D n dc ds B _ (hd.below (hbel.mono hB)) (Nat.le_trans hB hbel.size) hn)
  have AL := Lib.hid (fun W => alive_any W)
  have HD := Lib.hid hd
  have HRT := Lib.hid hr
  have HP := Lib.hid hp
  have K0 := Lib.hid k0
  have BB := Lib.hid hbel
  have Z1 := Lib.hid hz
  have HWC := Lib.hid hw
  have HWB := Lib.hid hwb
  clear hd hr hp k0 hbel hz hw hwb
  go_enter Try.func3, Try.ntmps3
  go_wp2_with fail
  refine KR.out.mono ?_
  rintro x w3 ⟨⟨b, rfl, hr⟩, hb3⟩
  have hz3 : w.heap.size + 1 ≤ w3.heap.size := by have := hb3.size; rw [Z1.out] at this; exact this
  have c0 := fun i => (K0.out.below hb3 (by rw [Z1.out]; omega)).cell i
  have HR := Lib.hid hr
  have K0' := Lib.hid (K0.out.below hb3 (by rw [Z1.out]; omega))
  have B3 := Lib.hid (BB.out.trans (hb3.mono BB.out.size))
  clear hr hb3
  cases b
  · go_wp2_with fail
    refine (AL.out _).mono ?_
    rintro x w4 ⟨rfl, hb4⟩
    have B4 := Lib.hid (B3.out.trans (hb4.mono B3.out.size))
    clear hb4
    go_wp2
    go_ret
    exact ⟨rfl, B4.out⟩
  · have RD := Lib.hid (HR.out rfl)
    by_cases hpn : pn ≤ 60
    · have t1 : decide ((60 : Int) < (pn : Int)) = false := by simp; omega
      by_cases hrn2 : rn ≤ 20
      · have t2 : decide ((20 : Int) < (rn : Int)) = false := by simp; omega
        have DST := Lib.hid ((HD.out.below (B3.out.mono hB)).more (Nat.le_trans hB B3.out.size))
        have n8 : n ≤ 8 := by have := RD.out.few; rw [DST.out.len] at this; exact this
        have LE := Lib.hid (legs_any cn cd cpre cfil ctr cf cpt crt D n dc ds RA rn rc routes ⟨#[112]⟩ B w3 (HD.out.below (B3.out.mono hB)) (HRT.out.below (B3.out.mono hB)) (Nat.le_trans hB B3.out.size) (by omega) hrn)
        have APT := Lib.hid (show ∀ (i j : Nat) (d e : P.Dest), i < j → ds[i]? = some d → ds[j]? = some e → d.name.data.toList ≠ e.name.data.toList from fun i j d e hij hd he h => by
          have := (RD.out.to_ j e (List.getElem?_eq_some_iff.1 he).1 he).2.2 i d hij hd
          rw [beq_eq_false_iff_ne] at this
          exact this h)
        go_wp2_with fail
        clear t1 t2 c0
        refine LE.out.mono ?_
        rintro x w4 ⟨v, rfl, hown, hb4⟩
        obtain ⟨A0, cp0, rfl, -⟩ := hown.reads
        have hl0 : (P.legsOf ds routes ⟨#[112]⟩).length = n := by unfold P.legsOf; rw [List.length_map]; exact DST.out.len
        rw [hl0] at hown ⊢
        clear hl0
        have K4 := Lib.hid (K0'.out.stays hb4)
        have DST4 := Lib.hid ((DST.out.below hb4).more hb4.size)
        have B4 := Lib.hid (B3.out.trans (hb4.mono B3.out.size))
        have hz4 : w.heap.size + 1 ≤ w4.heap.size := Nat.le_trans hz3 hb4.size
        have PK4 := Lib.hid (HP.out.below (B4.out.mono hB))
        have O4 := Lib.hid ((hown.less (B' := w.heap.size + 1) hz3).alloc (.cells #[.int .i64 1, .int .i64 1, .int .i64 0, .int .i64 3, .int .i64 (-1), .string ⟨#[]⟩, .int .i64 0, .slice A0 n cp0] 33))
        have R4 := Lib.hid (Blk.new w4 33 #[.int .i64 1, .int .i64 1, .int .i64 0, .int .i64 3, .int .i64 (-1), .string ⟨#[]⟩, .int .i64 0, .slice A0 n cp0])
        have L0 := Lib.hid (P.legsOf_lined routes ⟨#[112]⟩ APT.out)
        have F0 := Lib.hid (P.legsOf_fine ds routes ⟨#[112]⟩)
        clear hown hb4 LE
        generalize P.legsOf ds routes ⟨#[112]⟩ = ls0 at *
        go_wp2_with fail
        go_loopw [8, 9] (fun h x wr => ∃ (q hd : Nat) (dn : Int) (vq : Value) (ls : List P.Leg), q ≤ pn ∧ x = .int .i64 q ∧ h = .int .i64 hd ∧ hd ≤ P.shutN ls ∧ (dn = -1 ∨ P.terminal 3 ls = true) ∧ -1 ≤ dn ∧ dn ≤ 60 ∧ P.Lined ds ls ∧ P.Fine ls ∧ Blk wr w4.heap.size 33 #[.int .i64 1, .int .i64 1, .int .i64 0, .int .i64 3, .int .i64 dn, .string ⟨#[]⟩, .int .i64 0, vq] ∧ OwnL wr (w.heap.size + 1) vq ls ∧ Below w4.heap.size w4 wr) (fun _ x _ => pn - (intOf x).toNat)
        case atStart => exact ⟨0, 0, -1, _, ls0, by omega, rfl, rfl, by omega, Or.inl rfl, by omega, by omega, L0.out, F0.out, R4.out, O4.out, (Below.refl _ _).alloc (Nat.le_refl _) _⟩
        case round =>
          obtain ⟨q, hd, dn, vq, ls, hq, rfl, rfl, hhd, hdn, hdn1, hdn2, hlin, hfin, hrow, how, hbel⟩ := hrel
          obtain ⟨A, cp, rfl, -⟩ := how.reads
          have hlm : ls.length = n := by rw [hlin.len, DST.out.len]
          rw [hlm] at how hrow
          have LN := Lib.hid hlin
          have FN := Lib.hid hfin
          have RW := Lib.hid hrow
          have OW := Lib.hid how
          have BE := Lib.hid hbel
          have HHD := Lib.hid hhd
          have hhd8 : hd ≤ 8 := by have h1 := P.shutN_le_len ls; omega
          have HDN := Lib.hid hdn
          have HLM := Lib.hid hlm
          have hzr := hrow.lt
          have KR4 := Lib.hid (K4.out.below hbel K4.out.lt)
          have c0 := fun i => KR4.out.cell i
          have c1 := fun i => hrow.cell i
          have DSTr := Lib.hid ((DST4.out.below hbel).more hbel.size)
          have PKr := Lib.hid (PK4.out.below (hbel.mono (Nat.le_trans hB B4.out.size)))
          clear hlin hfin hrow how hbel hhd hdn hlm
          by_cases hlt : q < pn
          · have t1 : decide ((q : Int) < (pn : Int)) = true := by simp; omega
            have NX := Lib.hid (next_any 1 1 0 3 dn 0 ⟨#[]⟩ A n cp ls cn cd cpre cfil ctr cf cpt crt D n dc ds wr.heap.size wr OW.out.legs DSTr.out (Nat.le_refl _) hn (by omega) HWC.out)
            have NE := Lib.hid (P.next_end LN.out)
            have NM := Lib.hid (fun x (hx : x ∈ P.next 3 ds ls) => P.mem_hasS hx)
            obtain ⟨gl, hgl⟩ : ∃ gl, gl = P.next 3 ds ls := ⟨_, rfl⟩
            rw [← hgl] at NX NE NM
            have GL := Lib.hid hgl
            have hgn : gl.length ≤ n := by have := P.next_le 3 ds ls; rw [← hgl, DST.out.len] at this; exact this
            clear hgl
            go_wp2_with fail
            refine NX.out.mono ?_
            rintro x w5 ⟨v5, rfl, hs, hb5⟩
            obtain ⟨A5, c5, rfl, hst⟩ := hs.reads
            have hst5 : Stays wr w5 := hb5
            have S5 := Lib.hid hst5
            have ST5 := Lib.hid hst
            have R5 := Lib.hid (RW.out.stays hst5)
            have K5 := Lib.hid (KR4.out.stays hst5)
            have O5 := Lib.hid (OW.out.stays hst5)
            have B5 := Lib.hid (BE.out.trans (hst5.mono BE.out.size))
            have D5 := Lib.hid ((DSTr.out.below hst5).more hst5.size)
            have P5 := Lib.hid (PKr.out.below (hst5.mono (Nat.le_trans hB (Nat.le_trans B4.out.size BE.out.size))))
            have hz5 : w4.heap.size < w5.heap.size := Nat.lt_of_lt_of_le hzr hst5.size
            clear hs hst hst5 hb5 c0 c1 t1 NX
            by_cases h0 : gl.length = 0
            · have t2 : ((gl.length : Int) == 0) = true := by rw [h0]; rfl
              have TT : P.terminal 3 ls = true := by rw [← NE.out]; simpa using h0
              have TE := Lib.hid (fun W (hW : Stays w5 W) => terminal_any 1 1 0 3 dn 0 ⟨#[]⟩ A n cp ls W.heap.size W ((O5.out.legs.below hW).more hW.size) (Nat.le_refl _) hn)
              rw [TT] at TE
              clear TT h0
              go_wp2_with fail
              refine (AL.out _).mono ?_
              rintro x w6 ⟨rfl, hb6⟩
              have S6 := Lib.hid (show Stays w5 w6 from hb6)
              have c1 := fun i => (R5.out.stays S6.out).cell i
              clear hb6
              go_wp2_with fail
              refine (TE.out _ S6.out).mono ?_
              rintro x w7 ⟨rfl, hb7⟩
              have B7 := Lib.hid (B4.out.trans (B5.out.trans ((S6.out.trans hb7).mono B5.out.size) |>.mono B4.out.size))
              clear hb7
              go_wp2
              go_ret
              exact ⟨rfl, B7.out⟩
            · have t2 : ((gl.length : Int) == 0) = false := by rw [beq_eq_false_iff_ne]; omega
              obtain ⟨ad, p, rfl, hpb, hpk, hpc⟩ := P5.out.in_ hlt
              obtain ⟨a1, ha1⟩ : ∃ a, a = bits .and .i64 p 255 := ⟨_, rfl⟩
              have hal := and_low p 255 (by omega)
              rw [show ((255 : Nat) : Int) = 255 from rfl, ← ha1] at hal
              have A1 := ha1.symm
              have hne0 : ¬ ((gl.length : Int) = 0) := by omega
              obtain ⟨j, hj, hjl⟩ : ∃ j : Nat, a1 % (gl.length : Int) = (j : Int) ∧ j < gl.length := by
                have h1 := Int.emod_nonneg a1 hne0
                have h2 := Int.emod_lt_of_pos a1 (show (0 : Int) < (gl.length : Int) by omega)
                exact ⟨(a1 % (gl.length : Int)).toNat, by omega, by omega⟩
              obtain ⟨a5, dst, rfl, hsb, hsk, hsc⟩ := StrsAt.in_ ST5.out hjl
              have HH := NM.out dst (List.mem_of_getElem? hsk)
              have hterm : P.terminal 3 ls = false := by rw [← NE.out]; simpa using h0
              have hdn0 : dn = -1 := by
                rcases HDN.out with h | h
                · exact h
                · rw [hterm] at h; cases h
              obtain ⟨a2, ha2⟩ : ∃ a, a = bits .and .i64 (p / 256) 3 := ⟨_, rfl⟩
              have A2 := ha2.symm
              have HH2 := HH
              rw [GL.out] at HH2
              have HH' := Lib.hid HH2
              clear HH2
              have HDN0 := Lib.hid hdn0
              obtain ⟨k1, k2⟩ := fine_wf FN.out
              have HT1 := Lib.hid k1
              have HT2 := Lib.hid k2
              have hpca := Lib.hid ((Stays.alloc w5 (.cells #[.int .i64 1, .int .i64 1, .int .i64 0, .int .i64 3, .int .i64 dn, .string ⟨#[]⟩, .int .i64 0, .slice A n cp] 33)).cell (p := ad.add q) (by rw [block_of_add]; omega) |>.trans hpc)
              clear ha1 ha2 hpk hpb h0 hsb hsk HH hterm hdn0 k1 k2
              have c0 := fun i => K5.out.cell i
              have c1 := fun i => R5.out.cell i
              have WR := Lib.hid (Blk.new w5 33 #[.int .i64 1, .int .i64 1, .int .i64 0, .int .i64 3, .int .i64 dn, .string ⟨#[]⟩, .int .i64 0, .slice A n cp])
              have R5a := Lib.hid (R5.out.alloc (.cells #[.int .i64 1, .int .i64 1, .int .i64 0, .int .i64 3, .int .i64 dn, .string ⟨#[]⟩, .int .i64 0, .slice A n cp] 33))
              have K5a := Lib.hid (K5.out.alloc (.cells #[.int .i64 1, .int .i64 1, .int .i64 0, .int .i64 3, .int .i64 dn, .string ⟨#[]⟩, .int .i64 0, .slice A n cp] 33))
              have O5a := Lib.hid (O5.out.alloc (.cells #[.int .i64 1, .int .i64 1, .int .i64 0, .int .i64 3, .int .i64 dn, .string ⟨#[]⟩, .int .i64 0, .slice A n cp] 33))
              have S5a := Lib.hid (Stays.alloc w5 (.cells #[.int .i64 1, .int .i64 1, .int .i64 0, .int .i64 3, .int .i64 dn, .string ⟨#[]⟩, .int .i64 0, .slice A n cp] 33))
              have B5a := Lib.hid (B5.out.alloc (by have := hz5; omega) (.cells #[.int .i64 1, .int .i64 1, .int .i64 0, .int .i64 3, .int .i64 dn, .string ⟨#[]⟩, .int .i64 0, .slice A n cp] 33))
              have c2 := fun i => K5a.out.cell i
              have c3 := fun i => R5a.out.cell i
              have c4 := hpca.out
              by_cases hs0 : a2 = 0
              · have s0 : (a2 == 0) = true := by simpa using hs0
                clear hs0
                go_wp2_with fail
                clear c0 c1 c2 c3
                obtain ⟨ls', hls'⟩ : ∃ x, x = P.movedTo (P.failTurn ds) 3 ds ls dst ⟨#[110, 111]⟩ := ⟨_, rfl⟩
                obtain ⟨dn', hdn'⟩ : ∃ x, x = P.doneOf 3 ds ls ls' dst dn q := ⟨_, rfl⟩
                have FA := failed_any cn cd cpre cfil ctr cf cpt crt D n dc ds 1 1 0 3 dn 0 ⟨#[]⟩ A n cp ls dst ⟨#[110, 111]⟩ q w5.heap.size _ ((O5.out.legs.below S5a.out)) ((D5.out.below S5a.out)) (by simp) (by omega) (by omega) HWC.out HT1.out (by unfold maxLen; decide)
                rw [← hls', ← hdn'] at FA
                have lin' := (P.moved_but (dest := dst) (reply := ⟨#[110, 111]⟩) (state := 3) LN.out (P.keeps_fail ds)).lined
                rw [← hls'] at lin'
                have stp := P.moved_step (reply := ⟨#[110, 111]⟩) FN.out HH'.out (P.turn_fail ds)
                rw [← hls'] at stp
                have dno := P.doneOf_next (ls' := ls') (q := q) HH'.out HDN0.out
                rw [← hdn'] at dno
                have hl' : ls'.length = n := by rw [lin'.len, D5.out.len]
                have FA := Lib.hid FA
                have LIN := Lib.hid lin'
                have STP := Lib.hid stp
                have DNO := Lib.hid dno
                have HL := Lib.hid hl'
                clear hls' hdn' lin' stp dno hl'
                refine FA.out.mono ?_
                rintro x w6 ⟨v6, rfl, hown6, hb6⟩
                obtain ⟨A6, c6, rfl, -⟩ := hown6.reads
                rw [HL.out] at hown6 ⊢
                have hs6 : Stays (w5.alloc (.cells #[.int .i64 1, .int .i64 1, .int .i64 0, .int .i64 3, .int .i64 dn, .string ⟨#[]⟩, .int .i64 0, .slice A n cp] 33)) w6 := hb6
                have zz : w5.heap.size + 1 ≤ w6.heap.size := by have := hs6.size; simp at this; omega
                have r6 := R5a.out.stays hs6
                have f6 := fun i => r6.frozen i
                have c6' := fun i => r6.cell i
                have o6 := hown6
                have ne6 := hown6.ne_blk r6
                have oq := O5a.out.stays hs6
                have neq' := oq.ne_blk r6
                have r8 := r6.put8 (a := .int .i64 1) (b := .int .i64 1) (c := .int .i64 0) (d := .int .i64 3) (e := .int .i64 dn') (f := .string ⟨#[]⟩) (g := .int .i64 0) (h := .slice A6 n c6)
                have o8 : OwnL ((((((((w6.setCell ⟨w4.heap.size, 0, none⟩ (.int .i64 1)).setCell ⟨w4.heap.size, 1, none⟩ (.int .i64 1)).setCell ⟨w4.heap.size, 2, none⟩ (.int .i64 0)).setCell ⟨w4.heap.size, 3, none⟩ (.int .i64 3)).setCell ⟨w4.heap.size, 4, none⟩ (.int .i64 dn')).setCell ⟨w4.heap.size, 5, none⟩ (.string ⟨#[]⟩)).setCell ⟨w4.heap.size, 6, none⟩ (.int .i64 0)).setCell ⟨w4.heap.size, 7, none⟩ (.slice A6 n c6)) (w.heap.size + 1) (.slice A6 n c6) ls' := by
                  repeat (refine OwnL.far3 ?_ ne6 _)
                  exact hown6.less (by simp; omega)
                have oq8 : OwnL ((((((((w6.setCell ⟨w4.heap.size, 0, none⟩ (.int .i64 1)).setCell ⟨w4.heap.size, 1, none⟩ (.int .i64 1)).setCell ⟨w4.heap.size, 2, none⟩ (.int .i64 0)).setCell ⟨w4.heap.size, 3, none⟩ (.int .i64 3)).setCell ⟨w4.heap.size, 4, none⟩ (.int .i64 dn')).setCell ⟨w4.heap.size, 5, none⟩ (.string ⟨#[]⟩)).setCell ⟨w4.heap.size, 6, none⟩ (.int .i64 0)).setCell ⟨w4.heap.size, 7, none⟩ (.slice A6 n c6)) (w.heap.size + 1) (.slice A n cp) ls := by
                  repeat (refine OwnL.far3 ?_ neq' _)
                  exact oq
                have w8b : Blk ((((((((w6.setCell ⟨w4.heap.size, 0, none⟩ (.int .i64 1)).setCell ⟨w4.heap.size, 1, none⟩ (.int .i64 1)).setCell ⟨w4.heap.size, 2, none⟩ (.int .i64 0)).setCell ⟨w4.heap.size, 3, none⟩ (.int .i64 3)).setCell ⟨w4.heap.size, 4, none⟩ (.int .i64 dn')).setCell ⟨w4.heap.size, 5, none⟩ (.string ⟨#[]⟩)).setCell ⟨w4.heap.size, 6, none⟩ (.int .i64 0)).setCell ⟨w4.heap.size, 7, none⟩ (.slice A6 n c6)) w5.heap.size 33 #[.int .i64 1, .int .i64 1, .int .i64 0, .int .i64 3, .int .i64 dn, .string ⟨#[]⟩, .int .i64 0, .slice A n cp] := by
                  repeat (refine Blk.far ?_ (by simp; omega) _)
                  exact WR.out.stays hs6
                have k8 : Blk ((((((((w6.setCell ⟨w4.heap.size, 0, none⟩ (.int .i64 1)).setCell ⟨w4.heap.size, 1, none⟩ (.int .i64 1)).setCell ⟨w4.heap.size, 2, none⟩ (.int .i64 0)).setCell ⟨w4.heap.size, 3, none⟩ (.int .i64 3)).setCell ⟨w4.heap.size, 4, none⟩ (.int .i64 dn')).setCell ⟨w4.heap.size, 5, none⟩ (.string ⟨#[]⟩)).setCell ⟨w4.heap.size, 6, none⟩ (.int .i64 0)).setCell ⟨w4.heap.size, 7, none⟩ (.slice A6 n c6)) w.heap.size 24 #[.string cn, .bool cf, .int .i64 cpt, .string cd, .string cpre, .string cfil, .string ctr, .slice D n dc, .int .i64 crt] := by
                  repeat (refine Blk.far ?_ (by simp; omega) _)
                  exact K5a.out.stays hs6
                have b8 : Below w4.heap.size w4 ((((((((w6.setCell ⟨w4.heap.size, 0, none⟩ (.int .i64 1)).setCell ⟨w4.heap.size, 1, none⟩ (.int .i64 1)).setCell ⟨w4.heap.size, 2, none⟩ (.int .i64 0)).setCell ⟨w4.heap.size, 3, none⟩ (.int .i64 3)).setCell ⟨w4.heap.size, 4, none⟩ (.int .i64 dn')).setCell ⟨w4.heap.size, 5, none⟩ (.string ⟨#[]⟩)).setCell ⟨w4.heap.size, 6, none⟩ (.int .i64 0)).setCell ⟨w4.heap.size, 7, none⟩ (.slice A6 n c6)) := by
                  repeat (refine Below.setCell ?_ (by simp) _)
                  exact B5a.out.trans (hs6.mono (by simp; omega))
                have c0 := fun i => k8.cell i
                have c1 := fun i => r8.cell i
                have c2 := fun i => w8b.cell i
                have R8 := Lib.hid r8
                have O8 := Lib.hid o8
                have OQ8 := Lib.hid oq8
                have W8B := Lib.hid w8b
                have K8 := Lib.hid k8
                have B8 := Lib.hid b8
                clear r6 o6 ne6 oq neq' r8 o8 oq8 w8b k8 b8 hown6 hb6 hs6
                go_wp2_with fail
                clear f6 c6' c0 c1 c2
                generalize ((((((((w6.setCell ⟨w4.heap.size, 0, none⟩ (.int .i64 1)).setCell ⟨w4.heap.size, 1, none⟩ (.int .i64 1)).setCell ⟨w4.heap.size, 2, none⟩ (.int .i64 0)).setCell ⟨w4.heap.size, 3, none⟩ (.int .i64 3)).setCell ⟨w4.heap.size, 4, none⟩ (.int .i64 dn')).setCell ⟨w4.heap.size, 5, none⟩ (.string ⟨#[]⟩)).setCell ⟨w4.heap.size, 6, none⟩ (.int .i64 0)).setCell ⟨w4.heap.size, 7, none⟩ (.slice A6 n c6)) = w8 at *
                have D8 := Lib.hid ((DST4.out.below B8.out).more B8.out.size)
                have S8 := Lib.hid STP.out.1
                have HD8 := Lib.hid (show hd + 1 ≤ P.shutN ls' from Nat.le_trans (Nat.succ_le_succ HHD.out) (STP.out.2 (P.shuts_fail ds)))
                have hdc : ((hd : Int) + 1 : Int) ≤ 8 := by
                  have h1 := HD8.out
                  have h2 := P.shutN_le_len ls'
                  rw [HL.out] at h2
                  omega
                have FW : ∀ x : Ext w8, Calls Try.prog 14 #[.agg #[.int .i64 1, .int .i64 1, .int .i64 0, .int .i64 3, .int .i64 dn, .string ⟨#[]⟩, .int .i64 0, .slice A n cp], .agg #[.int .i64 1, .int .i64 1, .int .i64 0, .int .i64 3, .int .i64 dn', .string ⟨#[]⟩, .int .i64 0, .slice A6 n c6]] x.wd fun e w' => e = .returned (.bool true) ∧ Below x.wd.heap.size x.wd w' := fun x => by
                  have h := forward_any 1 1 0 3 dn 0 ⟨#[]⟩ A n cp ls 1 1 0 3 dn' 0 ⟨#[]⟩ A6 n c6 ls' x.wd.heap.size x.wd ((OQ8.out.legs.below x.hb).more x.hb.size) ((O8.out.legs.below x.hb).more x.hb.size) (Nat.le_refl _) hn hn HT2.out (fine_wf (S8.out.fine FN.out)).2
                  rw [show P.forward ⟨1, 1, 0, 3, dn, ⟨#[]⟩, 0⟩ ⟨1, 1, 0, 3, dn', ⟨#[]⟩, 0⟩ ls ls' = true from by unfold P.forward; rw [S8.out.may]; simp] at h
                  exact h
                have TE : ∀ x : Ext w8, Calls Try.prog 10 #[.agg #[.int .i64 1, .int .i64 1, .int .i64 0, .int .i64 3, .int .i64 dn', .string ⟨#[]⟩, .int .i64 0, .slice A6 n c6]] x.wd fun e w' => e = .returned (.bool (P.terminal 3 ls')) ∧ Below x.wd.heap.size x.wd w' := fun x => terminal_any 1 1 0 3 dn' 0 ⟨#[]⟩ A6 n c6 ls' x.wd.heap.size x.wd ((O8.out.legs.below x.hb).more x.hb.size) (Nat.le_refl _) hn
                have cellR : ∀ x : Ext w8, ∀ i, x.wd.cell? ⟨w4.heap.size, i, none⟩ = (#[.int .i64 1, .int .i64 1, .int .i64 0, .int .i64 3, .int .i64 dn', .string ⟨#[]⟩, .int .i64 0, .slice A6 n c6] : Array Value)[i]? := fun x i => by rw [x.cell (R8.out.lt), R8.out.cell]
                have cellW : ∀ x : Ext w8, ∀ i, x.wd.cell? ⟨w5.heap.size, i, none⟩ = (#[.int .i64 1, .int .i64 1, .int .i64 0, .int .i64 3, .int .i64 dn, .string ⟨#[]⟩, .int .i64 0, .slice A n cp] : Array Value)[i]? := fun x i => by rw [x.cell (W8B.out.lt), W8B.out.cell]
                have cellC : ∀ x : Ext w8, ∀ i, x.wd.cell? ⟨w.heap.size, i, none⟩ = (#[.string cn, .bool cf, .int .i64 cpt, .string cd, .string cpre, .string cfil, .string ctr, .slice D n dc, .int .i64 crt] : Array Value)[i]? := fun x i => by rw [x.cell (K8.out.lt), K8.out.cell]
                have FW := Lib.hid FW
                have TE := Lib.hid TE
                have n1 : n ≥ 1 := by have := RD.out.pos; rw [DST.out.len] at this; exact this
                have hln : ((hd : Int) + 1 : Int) ≤ (n : Int) := by
                  have h1 := HD8.out
                  have h2 := P.shutN_le_len ls'
                  rw [HL.out] at h2
                  omega
                have u1 : decide ((n : Int) < (hd : Int) + 1) = false := by simp; omega
                have u2 := DNO.out.2.2.2
                obtain ⟨tt, htt⟩ : ∃ b, b = P.terminal 3 ls' := ⟨_, rfl⟩
                rw [← htt] at u2 TE
                have HTT := Lib.hid htt
                clear htt
                refine wp_region_ext (by kernel_rfl) (by kernel_rfl) ?_
                repeat (first | go_big_quiet_step ((first | (go_at_call 14; exact Ext.calls _ (FW.out _)) | (go_at_call 10; exact Ext.calls _ (TE.out _)))) | quiet_step ((first | (go_at_call 14; exact Ext.calls _ (FW.out _)) | (go_at_call 10; exact Ext.calls _ (TE.out _)))))
                refine wpQuiet_nil ?_
                intro w9 hb9
                have S9 := Lib.hid (show Stays w8 w9 from hb9)
                have R9 := Lib.hid (R8.out.stays hb9)
                have W9 := Lib.hid (W8B.out.stays hb9)
                have L9 := Lib.hid ((O8.out.legs.below hb9).more hb9.size)
                have Q9 := Lib.hid ((OQ8.out.legs.below hb9).more hb9.size)
                clear hb9 cellR cellW cellC
                have uu : (tt != tt) = false := by simp
                have c1 := fun i => R9.out.cell i
                have c2 := fun i => W9.out.cell i
                go_wp2_with fail
                clear c1 c2
                go_loopw [13] (fun x wq => ∃ k : Nat, k ≤ n ∧ x = .int .i64 k ∧ Below w9.heap.size w9 wq) (fun x _ => n - (intOf x).toNat)
                case atStart => exact ⟨0, by omega, rfl, Below.refl _ _⟩
                case round =>
                  obtain ⟨k, hk, rfl, hbq⟩ := hrel
                  have HQ := Lib.hid (show Stays w9 wr from hbq)
                  have c1 := fun i => (R9.out.stays hbq).cell i
                  have c2 := fun i => (W9.out.stays hbq).cell i
                  clear hbq
                  by_cases hlk : k < n
                  · have t5 : decide ((k : Int) < (n : Int)) = true := by simp; omega
                    obtain ⟨b1, x, rfl, hxb, hxk, x0, x1, x2, x3, x4, x5⟩ := (Q9.out.below HQ.out).in_ hlk
                    obtain ⟨b2, y, rfl, hyb, hyk, y0, y1, y2, y3, y4, y5⟩ := (L9.out.below HQ.out).in_ hlk
                    have okxy := S8.out.get hxk hyk
                    clear hxk hyk hxb hyb
                    by_cases hs3 : x.status = 3
                    · have t6 : (x.status == 3) = true := by rw [hs3]; rfl
                      obtain rfl : y = x := okxy.sent hs3
                      have nq := fun W => neq_leg y W
                      clear hs3 okxy
                      go_wp2_with fail
                      go_quiet (fail)
                      go_wp2
                      go_roundw
                      case rel => exact ⟨k + 1, by omega, by go_num, below_drewN HQ.out _⟩
                      case measure => simp [intOf]; omega
                    · have t6 : (x.status == 3) = false := by simpa using hs3
                      clear hs3 okxy
                      go_wp2_with fail
                      go_quiet (fail)
                      go_wp2
                      go_roundw
                      case rel => exact ⟨k + 1, by omega, by go_num, below_drewN HQ.out _⟩
                      case measure => simp [intOf]; omega
                  · have t5 : decide ((k : Int) < (n : Int)) = false := by simp; omega
                    have hq60 : dn' ≤ 60 := by have := DNO.out.2.2.1; omega
                    go_wp2
                    go_roundw
                    case rel => exact ⟨q + 1, hd + 1, dn', _, ls', by omega, by go_num, by go_num, HD8.out, DNO.out.1, DNO.out.2.1, hq60, LIN.out, S8.out.fine FN.out, R9.out.stays HQ.out, (O8.out.stays S9.out).stays HQ.out, B8.out.trans ((S9.out.trans HQ.out).mono B8.out.size)⟩
                    case measure => simp [intOf]; omega
              · have s0 : (a2 == 0) = false := by simpa using hs0
                by_cases hs1 : a2 = 1
                · have s1 : (a2 == 1) = true := by simpa using hs1
                  clear hs0 hs1
                  go_wp2_with fail
                  clear c0 c1 c2 c3
                  obtain ⟨ls', hls'⟩ : ∃ x, x = P.movedTo (P.triedTurn q ds) 3 ds ls dst ⟨#[108, 97, 116, 101, 114]⟩ := ⟨_, rfl⟩
                  obtain ⟨dn', hdn'⟩ : ∃ x, x = P.doneOf 3 ds ls ls' dst dn q := ⟨_, rfl⟩
                  have FA := tried_any cn cd cpre cfil ctr cf cpt crt D n dc ds 1 1 0 3 dn 0 ⟨#[]⟩ A n cp ls dst ⟨#[108, 97, 116, 101, 114]⟩ q w5.heap.size _ ((O5.out.legs.below S5a.out)) ((D5.out.below S5a.out)) (by simp) (by omega) (by omega) HWC.out HWB.out (nat_wf (by omega)) HT1.out (by unfold maxLen; decide)
                  rw [← hls', ← hdn'] at FA
                  have lin' := (P.moved_but (dest := dst) (reply := ⟨#[108, 97, 116, 101, 114]⟩) (state := 3) LN.out (P.keeps_tried q ds)).lined
                  rw [← hls'] at lin'
                  have stp := P.moved_step (reply := ⟨#[108, 97, 116, 101, 114]⟩) FN.out HH'.out (P.turn_tried q ds)
                  rw [← hls'] at stp
                  have dno := P.doneOf_next (ls' := ls') (q := q) HH'.out HDN0.out
                  rw [← hdn'] at dno
                  have hl' : ls'.length = n := by rw [lin'.len, D5.out.len]
                  have FA := Lib.hid FA
                  have LIN := Lib.hid lin'
                  have STP := Lib.hid stp
                  have DNO := Lib.hid dno
                  have HL := Lib.hid hl'
                  clear hls' hdn' lin' stp dno hl'
                  refine FA.out.mono ?_
                  rintro x w6 ⟨v6, rfl, hown6, hb6⟩
                  obtain ⟨A6, c6, rfl, -⟩ := hown6.reads
                  rw [HL.out] at hown6 ⊢
                  have hs6 : Stays (w5.alloc (.cells #[.int .i64 1, .int .i64 1, .int .i64 0, .int .i64 3, .int .i64 dn, .string ⟨#[]⟩, .int .i64 0, .slice A n cp] 33)) w6 := hb6
                  have zz : w5.heap.size + 1 ≤ w6.heap.size := by have := hs6.size; simp at this; omega
                  have r6 := R5a.out.stays hs6
                  have f6 := fun i => r6.frozen i
                  have c6' := fun i => r6.cell i
                  have o6 := hown6
                  have ne6 := hown6.ne_blk r6
                  have oq := O5a.out.stays hs6
                  have neq' := oq.ne_blk r6
                  have r8 := r6.put8 (a := .int .i64 1) (b := .int .i64 1) (c := .int .i64 0) (d := .int .i64 3) (e := .int .i64 dn') (f := .string ⟨#[]⟩) (g := .int .i64 0) (h := .slice A6 n c6)
                  have o8 : OwnL ((((((((w6.setCell ⟨w4.heap.size, 0, none⟩ (.int .i64 1)).setCell ⟨w4.heap.size, 1, none⟩ (.int .i64 1)).setCell ⟨w4.heap.size, 2, none⟩ (.int .i64 0)).setCell ⟨w4.heap.size, 3, none⟩ (.int .i64 3)).setCell ⟨w4.heap.size, 4, none⟩ (.int .i64 dn')).setCell ⟨w4.heap.size, 5, none⟩ (.string ⟨#[]⟩)).setCell ⟨w4.heap.size, 6, none⟩ (.int .i64 0)).setCell ⟨w4.heap.size, 7, none⟩ (.slice A6 n c6)) (w.heap.size + 1) (.slice A6 n c6) ls' := by
                    repeat (refine OwnL.far3 ?_ ne6 _)
                    exact hown6.less (by simp; omega)
                  have oq8 : OwnL ((((((((w6.setCell ⟨w4.heap.size, 0, none⟩ (.int .i64 1)).setCell ⟨w4.heap.size, 1, none⟩ (.int .i64 1)).setCell ⟨w4.heap.size, 2, none⟩ (.int .i64 0)).setCell ⟨w4.heap.size, 3, none⟩ (.int .i64 3)).setCell ⟨w4.heap.size, 4, none⟩ (.int .i64 dn')).setCell ⟨w4.heap.size, 5, none⟩ (.string ⟨#[]⟩)).setCell ⟨w4.heap.size, 6, none⟩ (.int .i64 0)).setCell ⟨w4.heap.size, 7, none⟩ (.slice A6 n c6)) (w.heap.size + 1) (.slice A n cp) ls := by
                    repeat (refine OwnL.far3 ?_ neq' _)
                    exact oq
                  have w8b : Blk ((((((((w6.setCell ⟨w4.heap.size, 0, none⟩ (.int .i64 1)).setCell ⟨w4.heap.size, 1, none⟩ (.int .i64 1)).setCell ⟨w4.heap.size, 2, none⟩ (.int .i64 0)).setCell ⟨w4.heap.size, 3, none⟩ (.int .i64 3)).setCell ⟨w4.heap.size, 4, none⟩ (.int .i64 dn')).setCell ⟨w4.heap.size, 5, none⟩ (.string ⟨#[]⟩)).setCell ⟨w4.heap.size, 6, none⟩ (.int .i64 0)).setCell ⟨w4.heap.size, 7, none⟩ (.slice A6 n c6)) w5.heap.size 33 #[.int .i64 1, .int .i64 1, .int .i64 0, .int .i64 3, .int .i64 dn, .string ⟨#[]⟩, .int .i64 0, .slice A n cp] := by
                    repeat (refine Blk.far ?_ (by simp; omega) _)
                    exact WR.out.stays hs6
                  have k8 : Blk ((((((((w6.setCell ⟨w4.heap.size, 0, none⟩ (.int .i64 1)).setCell ⟨w4.heap.size, 1, none⟩ (.int .i64 1)).setCell ⟨w4.heap.size, 2, none⟩ (.int .i64 0)).setCell ⟨w4.heap.size, 3, none⟩ (.int .i64 3)).setCell ⟨w4.heap.size, 4, none⟩ (.int .i64 dn')).setCell ⟨w4.heap.size, 5, none⟩ (.string ⟨#[]⟩)).setCell ⟨w4.heap.size, 6, none⟩ (.int .i64 0)).setCell ⟨w4.heap.size, 7, none⟩ (.slice A6 n c6)) w.heap.size 24 #[.string cn, .bool cf, .int .i64 cpt, .string cd, .string cpre, .string cfil, .string ctr, .slice D n dc, .int .i64 crt] := by
                    repeat (refine Blk.far ?_ (by simp; omega) _)
                    exact K5a.out.stays hs6
                  have b8 : Below w4.heap.size w4 ((((((((w6.setCell ⟨w4.heap.size, 0, none⟩ (.int .i64 1)).setCell ⟨w4.heap.size, 1, none⟩ (.int .i64 1)).setCell ⟨w4.heap.size, 2, none⟩ (.int .i64 0)).setCell ⟨w4.heap.size, 3, none⟩ (.int .i64 3)).setCell ⟨w4.heap.size, 4, none⟩ (.int .i64 dn')).setCell ⟨w4.heap.size, 5, none⟩ (.string ⟨#[]⟩)).setCell ⟨w4.heap.size, 6, none⟩ (.int .i64 0)).setCell ⟨w4.heap.size, 7, none⟩ (.slice A6 n c6)) := by
                    repeat (refine Below.setCell ?_ (by simp) _)
                    exact B5a.out.trans (hs6.mono (by simp; omega))
                  have c0 := fun i => k8.cell i
                  have c1 := fun i => r8.cell i
                  have c2 := fun i => w8b.cell i
                  have R8 := Lib.hid r8
                  have O8 := Lib.hid o8
                  have OQ8 := Lib.hid oq8
                  have W8B := Lib.hid w8b
                  have K8 := Lib.hid k8
                  have B8 := Lib.hid b8
                  clear r6 o6 ne6 oq neq' r8 o8 oq8 w8b k8 b8 hown6 hb6 hs6
                  go_wp2_with fail
                  clear f6 c6' c0 c1 c2
                  generalize ((((((((w6.setCell ⟨w4.heap.size, 0, none⟩ (.int .i64 1)).setCell ⟨w4.heap.size, 1, none⟩ (.int .i64 1)).setCell ⟨w4.heap.size, 2, none⟩ (.int .i64 0)).setCell ⟨w4.heap.size, 3, none⟩ (.int .i64 3)).setCell ⟨w4.heap.size, 4, none⟩ (.int .i64 dn')).setCell ⟨w4.heap.size, 5, none⟩ (.string ⟨#[]⟩)).setCell ⟨w4.heap.size, 6, none⟩ (.int .i64 0)).setCell ⟨w4.heap.size, 7, none⟩ (.slice A6 n c6)) = w8 at *
                  have D8 := Lib.hid ((DST4.out.below B8.out).more B8.out.size)
                  have S8 := Lib.hid STP.out.1
                  have HD8 := Lib.hid (show hd ≤ P.shutN ls' from Nat.le_trans HHD.out STP.out.1.shutN_le)
                  have hdc : ((hd : Int) : Int) ≤ 8 := by
                    have h1 := HD8.out
                    have h2 := P.shutN_le_len ls'
                    rw [HL.out] at h2
                    omega
                  have FW : ∀ x : Ext w8, Calls Try.prog 14 #[.agg #[.int .i64 1, .int .i64 1, .int .i64 0, .int .i64 3, .int .i64 dn, .string ⟨#[]⟩, .int .i64 0, .slice A n cp], .agg #[.int .i64 1, .int .i64 1, .int .i64 0, .int .i64 3, .int .i64 dn', .string ⟨#[]⟩, .int .i64 0, .slice A6 n c6]] x.wd fun e w' => e = .returned (.bool true) ∧ Below x.wd.heap.size x.wd w' := fun x => by
                    have h := forward_any 1 1 0 3 dn 0 ⟨#[]⟩ A n cp ls 1 1 0 3 dn' 0 ⟨#[]⟩ A6 n c6 ls' x.wd.heap.size x.wd ((OQ8.out.legs.below x.hb).more x.hb.size) ((O8.out.legs.below x.hb).more x.hb.size) (Nat.le_refl _) hn hn HT2.out (fine_wf (S8.out.fine FN.out)).2
                    rw [show P.forward ⟨1, 1, 0, 3, dn, ⟨#[]⟩, 0⟩ ⟨1, 1, 0, 3, dn', ⟨#[]⟩, 0⟩ ls ls' = true from by unfold P.forward; rw [S8.out.may]; simp] at h
                    exact h
                  have TE : ∀ x : Ext w8, Calls Try.prog 10 #[.agg #[.int .i64 1, .int .i64 1, .int .i64 0, .int .i64 3, .int .i64 dn', .string ⟨#[]⟩, .int .i64 0, .slice A6 n c6]] x.wd fun e w' => e = .returned (.bool (P.terminal 3 ls')) ∧ Below x.wd.heap.size x.wd w' := fun x => terminal_any 1 1 0 3 dn' 0 ⟨#[]⟩ A6 n c6 ls' x.wd.heap.size x.wd ((O8.out.legs.below x.hb).more x.hb.size) (Nat.le_refl _) hn
                  have cellR : ∀ x : Ext w8, ∀ i, x.wd.cell? ⟨w4.heap.size, i, none⟩ = (#[.int .i64 1, .int .i64 1, .int .i64 0, .int .i64 3, .int .i64 dn', .string ⟨#[]⟩, .int .i64 0, .slice A6 n c6] : Array Value)[i]? := fun x i => by rw [x.cell (R8.out.lt), R8.out.cell]
                  have cellW : ∀ x : Ext w8, ∀ i, x.wd.cell? ⟨w5.heap.size, i, none⟩ = (#[.int .i64 1, .int .i64 1, .int .i64 0, .int .i64 3, .int .i64 dn, .string ⟨#[]⟩, .int .i64 0, .slice A n cp] : Array Value)[i]? := fun x i => by rw [x.cell (W8B.out.lt), W8B.out.cell]
                  have cellC : ∀ x : Ext w8, ∀ i, x.wd.cell? ⟨w.heap.size, i, none⟩ = (#[.string cn, .bool cf, .int .i64 cpt, .string cd, .string cpre, .string cfil, .string ctr, .slice D n dc, .int .i64 crt] : Array Value)[i]? := fun x i => by rw [x.cell (K8.out.lt), K8.out.cell]
                  have FW := Lib.hid FW
                  have TE := Lib.hid TE
                  have n1 : n ≥ 1 := by have := RD.out.pos; rw [DST.out.len] at this; exact this
                  have hln : ((hd : Int) : Int) ≤ (n : Int) := by
                    have h1 := HD8.out
                    have h2 := P.shutN_le_len ls'
                    rw [HL.out] at h2
                    omega
                  have u1n : decide (n < hd) = false := by simp; omega
                  have u1 : decide ((n : Int) < (hd : Int)) = false := by simp; omega
                  have u2 := DNO.out.2.2.2
                  obtain ⟨tt, htt⟩ : ∃ b, b = P.terminal 3 ls' := ⟨_, rfl⟩
                  rw [← htt] at u2 TE
                  have HTT := Lib.hid htt
                  clear htt
                  refine wp_region_ext (by kernel_rfl) (by kernel_rfl) ?_
                  repeat (first | go_big_quiet_step ((first | (go_at_call 14; exact Ext.calls _ (FW.out _)) | (go_at_call 10; exact Ext.calls _ (TE.out _)))) | quiet_step ((first | (go_at_call 14; exact Ext.calls _ (FW.out _)) | (go_at_call 10; exact Ext.calls _ (TE.out _)))))
                  refine wpQuiet_nil ?_
                  intro w9 hb9
                  have S9 := Lib.hid (show Stays w8 w9 from hb9)
                  have R9 := Lib.hid (R8.out.stays hb9)
                  have W9 := Lib.hid (W8B.out.stays hb9)
                  have L9 := Lib.hid ((O8.out.legs.below hb9).more hb9.size)
                  have Q9 := Lib.hid ((OQ8.out.legs.below hb9).more hb9.size)
                  clear hb9 cellR cellW cellC
                  have uu : (tt != tt) = false := by simp
                  have c1 := fun i => R9.out.cell i
                  have c2 := fun i => W9.out.cell i
                  go_wp2_with fail
                  clear c1 c2
                  go_loopw [13] (fun x wq => ∃ k : Nat, k ≤ n ∧ x = .int .i64 k ∧ Below w9.heap.size w9 wq) (fun x _ => n - (intOf x).toNat)
                  case atStart => exact ⟨0, by omega, rfl, Below.refl _ _⟩
                  case round =>
                    obtain ⟨k, hk, rfl, hbq⟩ := hrel
                    have HQ := Lib.hid (show Stays w9 wr from hbq)
                    have c1 := fun i => (R9.out.stays hbq).cell i
                    have c2 := fun i => (W9.out.stays hbq).cell i
                    clear hbq
                    by_cases hlk : k < n
                    · have t5 : decide ((k : Int) < (n : Int)) = true := by simp; omega
                      obtain ⟨b1, x, rfl, hxb, hxk, x0, x1, x2, x3, x4, x5⟩ := (Q9.out.below HQ.out).in_ hlk
                      obtain ⟨b2, y, rfl, hyb, hyk, y0, y1, y2, y3, y4, y5⟩ := (L9.out.below HQ.out).in_ hlk
                      have okxy := S8.out.get hxk hyk
                      clear hxk hyk hxb hyb
                      by_cases hs3 : x.status = 3
                      · have t6 : (x.status == 3) = true := by rw [hs3]; rfl
                        obtain rfl : y = x := okxy.sent hs3
                        have nq := fun W => neq_leg y W
                        clear hs3 okxy
                        go_wp2_with fail
                        go_quiet (fail)
                        go_wp2
                        go_roundw
                        case rel => exact ⟨k + 1, by omega, by go_num, below_drewN HQ.out _⟩
                        case measure => simp [intOf]; omega
                      · have t6 : (x.status == 3) = false := by simpa using hs3
                        clear hs3 okxy
                        go_wp2_with fail
                        go_quiet (fail)
                        go_wp2
                        go_roundw
                        case rel => exact ⟨k + 1, by omega, by go_num, below_drewN HQ.out _⟩
                        case measure => simp [intOf]; omega
                    · have t5 : decide ((k : Int) < (n : Int)) = false := by simp; omega
                      have hq60 : dn' ≤ 60 := by have := DNO.out.2.2.1; omega
                      go_wp2
                      go_roundw
                      case rel => exact ⟨q + 1, hd, dn', _, ls', by omega, by go_num, rfl, HD8.out, DNO.out.1, DNO.out.2.1, hq60, LIN.out, S8.out.fine FN.out, R9.out.stays HQ.out, (O8.out.stays S9.out).stays HQ.out, B8.out.trans ((S9.out.trans HQ.out).mono B8.out.size)⟩
                      case measure => simp [intOf]; omega
                · have s1 : (a2 == 1) = false := by simpa using hs1
                  clear hs0 hs1
                  go_wp2_with fail
                  clear c0 c1 c2 c3
                  obtain ⟨ls', hls'⟩ : ∃ x, x = P.turned P.sentLeg 3 ds ls dst ⟨#[121, 101, 115]⟩ := ⟨_, rfl⟩
                  obtain ⟨dn', hdn'⟩ : ∃ x, x = P.doneOf 3 ds ls ls' dst dn q := ⟨_, rfl⟩
                  have FA := sent_any cn cd cpre cfil ctr cf cpt crt D n dc ds 1 1 0 3 dn 0 ⟨#[]⟩ A n cp ls dst ⟨#[121, 101, 115]⟩ q w5.heap.size _ ((O5.out.legs.below S5a.out)) ((D5.out.below S5a.out)) (by simp) (by omega) (by omega) HWC.out HT1.out (by unfold maxLen; decide)
                  rw [← hls', ← hdn'] at FA
                  have lin' := (P.turned_moved 3 ds ls dst ⟨#[121, 101, 115]⟩ ▸ P.moved_but (dest := dst) (reply := ⟨#[121, 101, 115]⟩) (state := 3) LN.out (P.keeps_sent ds)).lined
                  rw [← hls'] at lin'
                  have stp := P.turned_moved 3 ds ls dst ⟨#[121, 101, 115]⟩ ▸ P.moved_step (reply := ⟨#[121, 101, 115]⟩) FN.out HH'.out P.turn_sent
                  rw [← hls'] at stp
                  have dno := P.doneOf_next (ls' := ls') (q := q) HH'.out HDN0.out
                  rw [← hdn'] at dno
                  have hl' : ls'.length = n := by rw [lin'.len, D5.out.len]
                  have FA := Lib.hid FA
                  have LIN := Lib.hid lin'
                  have STP := Lib.hid stp
                  have DNO := Lib.hid dno
                  have HL := Lib.hid hl'
                  clear hls' hdn' lin' stp dno hl'
                  refine FA.out.mono ?_
                  rintro x w6 ⟨v6, rfl, hown6, hb6⟩
                  obtain ⟨A6, c6, rfl, -⟩ := hown6.reads
                  rw [HL.out] at hown6 ⊢
                  have hs6 : Stays (w5.alloc (.cells #[.int .i64 1, .int .i64 1, .int .i64 0, .int .i64 3, .int .i64 dn, .string ⟨#[]⟩, .int .i64 0, .slice A n cp] 33)) w6 := hb6
                  have zz : w5.heap.size + 1 ≤ w6.heap.size := by have := hs6.size; simp at this; omega
                  have r6 := R5a.out.stays hs6
                  have f6 := fun i => r6.frozen i
                  have c6' := fun i => r6.cell i
                  have o6 := hown6
                  have ne6 := hown6.ne_blk r6
                  have oq := O5a.out.stays hs6
                  have neq' := oq.ne_blk r6
                  have r8 := r6.put8 (a := .int .i64 1) (b := .int .i64 1) (c := .int .i64 0) (d := .int .i64 3) (e := .int .i64 dn') (f := .string ⟨#[]⟩) (g := .int .i64 0) (h := .slice A6 n c6)
                  have o8 : OwnL ((((((((w6.setCell ⟨w4.heap.size, 0, none⟩ (.int .i64 1)).setCell ⟨w4.heap.size, 1, none⟩ (.int .i64 1)).setCell ⟨w4.heap.size, 2, none⟩ (.int .i64 0)).setCell ⟨w4.heap.size, 3, none⟩ (.int .i64 3)).setCell ⟨w4.heap.size, 4, none⟩ (.int .i64 dn')).setCell ⟨w4.heap.size, 5, none⟩ (.string ⟨#[]⟩)).setCell ⟨w4.heap.size, 6, none⟩ (.int .i64 0)).setCell ⟨w4.heap.size, 7, none⟩ (.slice A6 n c6)) (w.heap.size + 1) (.slice A6 n c6) ls' := by
                    repeat (refine OwnL.far3 ?_ ne6 _)
                    exact hown6.less (by simp; omega)
                  have oq8 : OwnL ((((((((w6.setCell ⟨w4.heap.size, 0, none⟩ (.int .i64 1)).setCell ⟨w4.heap.size, 1, none⟩ (.int .i64 1)).setCell ⟨w4.heap.size, 2, none⟩ (.int .i64 0)).setCell ⟨w4.heap.size, 3, none⟩ (.int .i64 3)).setCell ⟨w4.heap.size, 4, none⟩ (.int .i64 dn')).setCell ⟨w4.heap.size, 5, none⟩ (.string ⟨#[]⟩)).setCell ⟨w4.heap.size, 6, none⟩ (.int .i64 0)).setCell ⟨w4.heap.size, 7, none⟩ (.slice A6 n c6)) (w.heap.size + 1) (.slice A n cp) ls := by
                    repeat (refine OwnL.far3 ?_ neq' _)
                    exact oq
                  have w8b : Blk ((((((((w6.setCell ⟨w4.heap.size, 0, none⟩ (.int .i64 1)).setCell ⟨w4.heap.size, 1, none⟩ (.int .i64 1)).setCell ⟨w4.heap.size, 2, none⟩ (.int .i64 0)).setCell ⟨w4.heap.size, 3, none⟩ (.int .i64 3)).setCell ⟨w4.heap.size, 4, none⟩ (.int .i64 dn')).setCell ⟨w4.heap.size, 5, none⟩ (.string ⟨#[]⟩)).setCell ⟨w4.heap.size, 6, none⟩ (.int .i64 0)).setCell ⟨w4.heap.size, 7, none⟩ (.slice A6 n c6)) w5.heap.size 33 #[.int .i64 1, .int .i64 1, .int .i64 0, .int .i64 3, .int .i64 dn, .string ⟨#[]⟩, .int .i64 0, .slice A n cp] := by
                    repeat (refine Blk.far ?_ (by simp; omega) _)
                    exact WR.out.stays hs6
                  have k8 : Blk ((((((((w6.setCell ⟨w4.heap.size, 0, none⟩ (.int .i64 1)).setCell ⟨w4.heap.size, 1, none⟩ (.int .i64 1)).setCell ⟨w4.heap.size, 2, none⟩ (.int .i64 0)).setCell ⟨w4.heap.size, 3, none⟩ (.int .i64 3)).setCell ⟨w4.heap.size, 4, none⟩ (.int .i64 dn')).setCell ⟨w4.heap.size, 5, none⟩ (.string ⟨#[]⟩)).setCell ⟨w4.heap.size, 6, none⟩ (.int .i64 0)).setCell ⟨w4.heap.size, 7, none⟩ (.slice A6 n c6)) w.heap.size 24 #[.string cn, .bool cf, .int .i64 cpt, .string cd, .string cpre, .string cfil, .string ctr, .slice D n dc, .int .i64 crt] := by
                    repeat (refine Blk.far ?_ (by simp; omega) _)
                    exact K5a.out.stays hs6
                  have b8 : Below w4.heap.size w4 ((((((((w6.setCell ⟨w4.heap.size, 0, none⟩ (.int .i64 1)).setCell ⟨w4.heap.size, 1, none⟩ (.int .i64 1)).setCell ⟨w4.heap.size, 2, none⟩ (.int .i64 0)).setCell ⟨w4.heap.size, 3, none⟩ (.int .i64 3)).setCell ⟨w4.heap.size, 4, none⟩ (.int .i64 dn')).setCell ⟨w4.heap.size, 5, none⟩ (.string ⟨#[]⟩)).setCell ⟨w4.heap.size, 6, none⟩ (.int .i64 0)).setCell ⟨w4.heap.size, 7, none⟩ (.slice A6 n c6)) := by
                    repeat (refine Below.setCell ?_ (by simp) _)
                    exact B5a.out.trans (hs6.mono (by simp; omega))
                  have c0 := fun i => k8.cell i
                  have c1 := fun i => r8.cell i
                  have c2 := fun i => w8b.cell i
                  have R8 := Lib.hid r8
                  have O8 := Lib.hid o8
                  have OQ8 := Lib.hid oq8
                  have W8B := Lib.hid w8b
                  have K8 := Lib.hid k8
                  have B8 := Lib.hid b8
                  clear r6 o6 ne6 oq neq' r8 o8 oq8 w8b k8 b8 hown6 hb6 hs6
                  go_wp2_with fail
                  clear f6 c6' c0 c1 c2
                  generalize ((((((((w6.setCell ⟨w4.heap.size, 0, none⟩ (.int .i64 1)).setCell ⟨w4.heap.size, 1, none⟩ (.int .i64 1)).setCell ⟨w4.heap.size, 2, none⟩ (.int .i64 0)).setCell ⟨w4.heap.size, 3, none⟩ (.int .i64 3)).setCell ⟨w4.heap.size, 4, none⟩ (.int .i64 dn')).setCell ⟨w4.heap.size, 5, none⟩ (.string ⟨#[]⟩)).setCell ⟨w4.heap.size, 6, none⟩ (.int .i64 0)).setCell ⟨w4.heap.size, 7, none⟩ (.slice A6 n c6)) = w8 at *
                  have D8 := Lib.hid ((DST4.out.below B8.out).more B8.out.size)
                  have S8 := Lib.hid STP.out.1
                  have HD8 := Lib.hid (show hd + 1 ≤ P.shutN ls' from Nat.le_trans (Nat.succ_le_succ HHD.out) (STP.out.2 P.shuts_sent))
                  have hdc : ((hd : Int) + 1 : Int) ≤ 8 := by
                    have h1 := HD8.out
                    have h2 := P.shutN_le_len ls'
                    rw [HL.out] at h2
                    omega
                  have FW : ∀ x : Ext w8, Calls Try.prog 14 #[.agg #[.int .i64 1, .int .i64 1, .int .i64 0, .int .i64 3, .int .i64 dn, .string ⟨#[]⟩, .int .i64 0, .slice A n cp], .agg #[.int .i64 1, .int .i64 1, .int .i64 0, .int .i64 3, .int .i64 dn', .string ⟨#[]⟩, .int .i64 0, .slice A6 n c6]] x.wd fun e w' => e = .returned (.bool true) ∧ Below x.wd.heap.size x.wd w' := fun x => by
                    have h := forward_any 1 1 0 3 dn 0 ⟨#[]⟩ A n cp ls 1 1 0 3 dn' 0 ⟨#[]⟩ A6 n c6 ls' x.wd.heap.size x.wd ((OQ8.out.legs.below x.hb).more x.hb.size) ((O8.out.legs.below x.hb).more x.hb.size) (Nat.le_refl _) hn hn HT2.out (fine_wf (S8.out.fine FN.out)).2
                    rw [show P.forward ⟨1, 1, 0, 3, dn, ⟨#[]⟩, 0⟩ ⟨1, 1, 0, 3, dn', ⟨#[]⟩, 0⟩ ls ls' = true from by unfold P.forward; rw [S8.out.may]; simp] at h
                    exact h
                  have TE : ∀ x : Ext w8, Calls Try.prog 10 #[.agg #[.int .i64 1, .int .i64 1, .int .i64 0, .int .i64 3, .int .i64 dn', .string ⟨#[]⟩, .int .i64 0, .slice A6 n c6]] x.wd fun e w' => e = .returned (.bool (P.terminal 3 ls')) ∧ Below x.wd.heap.size x.wd w' := fun x => terminal_any 1 1 0 3 dn' 0 ⟨#[]⟩ A6 n c6 ls' x.wd.heap.size x.wd ((O8.out.legs.below x.hb).more x.hb.size) (Nat.le_refl _) hn
                  have cellR : ∀ x : Ext w8, ∀ i, x.wd.cell? ⟨w4.heap.size, i, none⟩ = (#[.int .i64 1, .int .i64 1, .int .i64 0, .int .i64 3, .int .i64 dn', .string ⟨#[]⟩, .int .i64 0, .slice A6 n c6] : Array Value)[i]? := fun x i => by rw [x.cell (R8.out.lt), R8.out.cell]
                  have cellW : ∀ x : Ext w8, ∀ i, x.wd.cell? ⟨w5.heap.size, i, none⟩ = (#[.int .i64 1, .int .i64 1, .int .i64 0, .int .i64 3, .int .i64 dn, .string ⟨#[]⟩, .int .i64 0, .slice A n cp] : Array Value)[i]? := fun x i => by rw [x.cell (W8B.out.lt), W8B.out.cell]
                  have cellC : ∀ x : Ext w8, ∀ i, x.wd.cell? ⟨w.heap.size, i, none⟩ = (#[.string cn, .bool cf, .int .i64 cpt, .string cd, .string cpre, .string cfil, .string ctr, .slice D n dc, .int .i64 crt] : Array Value)[i]? := fun x i => by rw [x.cell (K8.out.lt), K8.out.cell]
                  have FW := Lib.hid FW
                  have TE := Lib.hid TE
                  have n1 : n ≥ 1 := by have := RD.out.pos; rw [DST.out.len] at this; exact this
                  have hln : ((hd : Int) + 1 : Int) ≤ (n : Int) := by
                    have h1 := HD8.out
                    have h2 := P.shutN_le_len ls'
                    rw [HL.out] at h2
                    omega
                  have u1 : decide ((n : Int) < (hd : Int) + 1) = false := by simp; omega
                  have u2 := DNO.out.2.2.2
                  obtain ⟨tt, htt⟩ : ∃ b, b = P.terminal 3 ls' := ⟨_, rfl⟩
                  rw [← htt] at u2 TE
                  have HTT := Lib.hid htt
                  clear htt
                  refine wp_region_ext (by kernel_rfl) (by kernel_rfl) ?_
                  repeat (first | go_big_quiet_step ((first | (go_at_call 14; exact Ext.calls _ (FW.out _)) | (go_at_call 10; exact Ext.calls _ (TE.out _)))) | quiet_step ((first | (go_at_call 14; exact Ext.calls _ (FW.out _)) | (go_at_call 10; exact Ext.calls _ (TE.out _)))))
                  refine wpQuiet_nil ?_
                  intro w9 hb9
                  have S9 := Lib.hid (show Stays w8 w9 from hb9)
                  have R9 := Lib.hid (R8.out.stays hb9)
                  have W9 := Lib.hid (W8B.out.stays hb9)
                  have L9 := Lib.hid ((O8.out.legs.below hb9).more hb9.size)
                  have Q9 := Lib.hid ((OQ8.out.legs.below hb9).more hb9.size)
                  clear hb9 cellR cellW cellC
                  have uu : (tt != tt) = false := by simp
                  have c1 := fun i => R9.out.cell i
                  have c2 := fun i => W9.out.cell i
                  go_wp2_with fail
                  clear c1 c2
                  go_loopw [13] (fun x wq => ∃ k : Nat, k ≤ n ∧ x = .int .i64 k ∧ Below w9.heap.size w9 wq) (fun x _ => n - (intOf x).toNat)
                  case atStart => exact ⟨0, by omega, rfl, Below.refl _ _⟩
                  case round =>
                    obtain ⟨k, hk, rfl, hbq⟩ := hrel
                    have HQ := Lib.hid (show Stays w9 wr from hbq)
                    have c1 := fun i => (R9.out.stays hbq).cell i
                    have c2 := fun i => (W9.out.stays hbq).cell i
                    clear hbq
                    by_cases hlk : k < n
                    · have t5 : decide ((k : Int) < (n : Int)) = true := by simp; omega
                      obtain ⟨b1, x, rfl, hxb, hxk, x0, x1, x2, x3, x4, x5⟩ := (Q9.out.below HQ.out).in_ hlk
                      obtain ⟨b2, y, rfl, hyb, hyk, y0, y1, y2, y3, y4, y5⟩ := (L9.out.below HQ.out).in_ hlk
                      have okxy := S8.out.get hxk hyk
                      clear hxk hyk hxb hyb
                      by_cases hs3 : x.status = 3
                      · have t6 : (x.status == 3) = true := by rw [hs3]; rfl
                        obtain rfl : y = x := okxy.sent hs3
                        have nq := fun W => neq_leg y W
                        clear hs3 okxy
                        go_wp2_with fail
                        go_quiet (fail)
                        go_wp2
                        go_roundw
                        case rel => exact ⟨k + 1, by omega, by go_num, below_drewN HQ.out _⟩
                        case measure => simp [intOf]; omega
                      · have t6 : (x.status == 3) = false := by simpa using hs3
                        clear hs3 okxy
                        go_wp2_with fail
                        go_quiet (fail)
                        go_wp2
                        go_roundw
                        case rel => exact ⟨k + 1, by omega, by go_num, below_drewN HQ.out _⟩
                        case measure => simp [intOf]; omega
                    · have t5 : decide ((k : Int) < (n : Int)) = false := by simp; omega
                      have hq60 : dn' ≤ 60 := by have := DNO.out.2.2.1; omega
                      go_wp2
                      go_roundw
                      case rel => exact ⟨q + 1, hd + 1, dn', _, ls', by omega, by go_num, by go_num, HD8.out, DNO.out.1, DNO.out.2.1, hq60, LIN.out, S8.out.fine FN.out, R9.out.stays HQ.out, (O8.out.stays S9.out).stays HQ.out, B8.out.trans ((S9.out.trans HQ.out).mono B8.out.size)⟩
                      case measure => simp [intOf]; omega
          · have t1 : decide ((q : Int) < (pn : Int)) = false := by simp; omega
            go_wp2_with fail
            refine (AL.out _).mono ?_
            rintro x w5 ⟨rfl, hb5⟩
            have S5 := Lib.hid (show Stays wr w5 from hb5)
            have B5 := Lib.hid (B4.out.trans ((BE.out.trans (hb5.mono BE.out.size)).mono B4.out.size))
            clear hb5 c0 c1
            have c0 := fun i => (KR4.out.stays S5.out).cell i
            have c1 := fun i => (RW.out.stays S5.out).cell i
            have u9 : ((n : Int) == (n : Int)) = true := by simp
            go_wp2
            go_ret
            exact ⟨rfl, B5.out⟩
      · have t2 : decide ((20 : Int) < (rn : Int)) = true := by simp; omega
        go_wp2_with fail
        refine (AL.out _).mono ?_
        rintro x w4 ⟨rfl, hb4⟩
        have B4 := Lib.hid (B3.out.trans (hb4.mono B3.out.size))
        clear hb4
        go_wp2
        go_ret
        exact ⟨rfl, B4.out⟩
    · have t1 : decide ((60 : Int) < (pn : Int)) = true := by simp; omega
      go_wp2_with fail
      refine (AL.out _).mono ?_
      rintro x w4 ⟨rfl, hb4⟩
      have B4 := Lib.hid (B3.out.trans (hb4.mono B3.out.size))
      clear hb4
      go_wp2
      go_ret
      exact ⟨rfl, B4.out⟩
end Go.Proofs.Ytjbhlojfmcldjab
