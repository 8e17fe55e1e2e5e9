/- What prune.fail turns: a leg, and those behind it in its chain. -/
import Derived.Test.YtemjipongehjlaaGreatL6
namespace Go.Proofs.YtemjipongehjlaaGreat
set_option linter.unusedVariables false
open Go.RowKit Go.BigFrame
namespace P
def leftOut (l : Leg) : Leg := { l with status := 0, payload := ⟨#[]⟩, due := 0 }
/-- The legs behind one destination's turn, where that stands behind the one that failed and is of its chain. -/
def failLegs (may : Bool) (ls : List Leg) (name : ByteArray) : List Leg :=
  if may = true then match legAt ls name with
    | some i => match ls[i]? with
      | some l => if l.isOpen = true then ls.set i (leftOut l) else ls
      | none => ls
    | none => ls
  else ls
def failStep (d : Dest) (s : Bool × List Leg) (o : Dest) : Bool × List Leg :=
  (s.1 || (o.name.toList == d.name.toList), failLegs (s.1 && (o.chain == d.chain)) s.2 o.name)
def failTo (ds : List Dest) (d : Dest) (ls : List Leg) (k : Nat) : Bool × List Leg := (ds.take k).foldl (failStep d) (false, ls)
/-- The legs behind one that failed. -/
def failed (ds : List Dest) (d : Dest) (ls : List Leg) : List Leg := (ds.foldl (failStep d) (false, ls)).2
theorem failTo_step {ds : List Dest} {d o : Dest} {ls : List Leg} {k : Nat} (h : ds[k]? = some o) : failTo ds d ls (k + 1) = failStep d (failTo ds d ls k) o := by
  unfold failTo
  rw [List.take_add_one, h, List.foldl_append]
  rfl
theorem failTo_all {ds : List Dest} {d : Dest} {ls : List Leg} {k : Nat} (h : ds.length ≤ k) : (failTo ds d ls k).2 = failed ds d ls := by
  unfold failTo failed
  rw [List.take_of_length_le h]
theorem failLegs_len (may : Bool) (ls : List Leg) (name : ByteArray) : (failLegs may ls name).length = ls.length := by
  unfold failLegs
  split
  · split
    · split
      · split
        · simp
        · rfl
      · rfl
    · rfl
  · rfl
theorem failLegs_key (bh : Bool) (c : Bool) (ls : List Leg) (name : ByteArray) : (bh = false ∧ failLegs (bh && c) ls name = ls) ∨ (bh = true ∧ c = false ∧ failLegs (bh && c) ls name = ls) ∨ (bh = true ∧ c = true ∧ legI ls name = -1 ∧ failLegs (bh && c) ls name = ls)
    ∨ ∃ (i : Nat) (l : Leg), bh = true ∧ c = true ∧ legI ls name = (i : Int) ∧ i < ls.length ∧ ls[i]? = some l ∧ ((l.isOpen = false ∧ failLegs (bh && c) ls name = ls) ∨ (l.isOpen = true ∧ failLegs (bh && c) ls name = ls.set i (leftOut l))) := by
  cases bh
  · exact Or.inl ⟨rfl, rfl⟩
  · cases c
    · exact Or.inr (Or.inl ⟨rfl, rfl, rfl⟩)
    · rcases legI_cases ls name with ⟨h1, h2⟩ | ⟨j, l, h1, h2, hj, hl, -⟩
      · exact Or.inr (Or.inr (Or.inl ⟨rfl, rfl, h2, by unfold failLegs; rw [h1]; rfl⟩))
      · refine Or.inr (Or.inr (Or.inr ⟨j, l, rfl, rfl, h2, hj, hl, ?_⟩))
        cases ho : l.isOpen
        · exact Or.inl ⟨rfl, by unfold failLegs; rw [h1]; simp [hl, ho]⟩
        · exact Or.inr ⟨rfl, by unfold failLegs; rw [h1]; simp [hl, ho]⟩
end P
theorem Stays.grown {a b : World} (h : Stays a b) (row : Option Nat) : a.grownBy b row := ⟨h.os, h.tape, h.output, h.size, fun k hk _ => h.block k hk⟩
theorem grown_set (w : World) (g o : Nat) (u : Value) : w.grownBy (w.setCell ⟨g, o, none⟩ u) (some g) := ⟨rfl, rfl, rfl, by simp [World.setCell], fun k _ hne => Below.heap_setCell _ _ _ _ (fun e => hne (by rw [e]))⟩
theorem Blk.grownAt {w w' : World} {g g' : Nat} {t : TypeId} {cs : Array Value} (h : Blk w g' t cs) (hg : w.grownBy w' (some g)) (hne : g' ≠ g) : Blk w' g' t cs := (hg.block g' h.lt (fun e => hne (by injection e))).trans h
theorem below_grown {w w' : World} {B g : Nat} (hg : w.grownBy w' (some g)) (hB : B ≤ w.heap.size) (h : B ≤ g) : Below B w w' := (Below.refl _ _).grown hg hB (fun k hk => by cases hk; exact h)
set_option maxRecDepth 100000 in
set_option maxHeartbeats 4000000 in
theorem fail_any (cn cd cpre cfil ctr : ByteArray) (cf : Bool) (cpt crt : Int) (D : Option Addr) (n dc : Nat) (ds : List P.Dest) (id run tm st dn flt : Int) (raw : ByteArray) (g m cp k rb : Nat) (ls : List P.Leg) (l : P.Leg) (d : P.Dest) (Bo B : Nat) (w : World)
    (hd : DestsAt w B D n ds) (hB : B ≤ w.heap.size) (hBg : B ≤ g) (hown : OwnL w Bo (.slice (some ⟨g, 0, none⟩) m cp) ls) (hlen : ls.length = m) (hl : ls[k]? = some l) (hr : Blk w rb 28 #[.int .i64 id, .int .i64 run, .int .i64 tm, .int .i64 st, .int .i64 dn, .string raw, .int .i64 flt, .slice (some ⟨g, 0, none⟩) m cp]) (hne : rb ≠ g) (hg : g < w.heap.size) (hn : n ≤ maxLen) (hm : m ≤ maxLen) :
    Calls Tryz.prog 36 #[.agg #[.string cn, .bool cf, .int .i64 cpt, .string cd, .string cpre, .string cfil, .string ctr, .slice D n dc, .int .i64 crt], .pointer (some ⟨g, k * 6, none⟩), .agg #[.string d.name, .int .i64 d.chain, .bool d.file, .int .i64 d.port, .string d.dir, .int .i64 d.retry, .int .i64 d.backoff, .int .i64 d.timeout, .string d.response], .pointer (some ⟨rb, 0, none⟩)] w fun e w' => e = .returned (.tuple #[]) ∧ OwnL w' Bo (.slice (some ⟨g, 0, none⟩) m cp) (P.failed ds d (ls.set k { l with status := 4, due := 0 })) ∧ w.grownBy w' (some g) := by
  unfold maxLen at hn
  have hkl : k < ls.length := by
    rcases Nat.lt_or_ge k ls.length with h1 | h1
    · exact h1
    · rw [List.getElem?_eq_none h1] at hl; cases hl
  obtain ⟨e0, e1, e2, e3, e4, e5⟩ := hown.legIn hl
  have fz := fun j => hown.frz hlen j
  have own3 := hown.put (l' := { l with status := 4 }) (j := 1) (u := .int .i64 4) hlen hl rfl (by omega)
  have hl3 : (ls.set k { l with status := 4 })[k]? = some { l with status := 4 } := by rw [List.getElem?_set_self hkl]
  have own4 := own3.put (l' := { l with status := 4, due := 0 }) (j := 3) (u := .int .i64 0) (by rw [List.length_set]; exact hlen) hl3 rfl (by omega)
  rw [List.set_set] at own4
  have own5 := (own4.alloc (.cells #[.string cn, .bool cf, .int .i64 cpt, .string cd, .string cpre, .string cfil, .string ctr, .slice D n dc, .int .i64 crt] 24)).alloc (.cells #[.string d.name, .int .i64 d.chain, .bool d.file, .int .i64 d.port, .string d.dir, .int .i64 d.retry, .int .i64 d.backoff, .int .i64 d.timeout, .string d.response] 67)
  have gr2 := (grown_set w g (k * 6 + 1) (.int .i64 4)).trans (grown_set _ g (k * 6 + 3) (.int .i64 0))
  have gr4 := (gr2.trans (World.grownBy_alloc _ (.cells #[.string cn, .bool cf, .int .i64 cpt, .string cd, .string cpre, .string cfil, .string ctr, .slice D n dc, .int .i64 crt] 24) _)).trans (World.grownBy_alloc _ (.cells #[.string d.name, .int .i64 d.chain, .bool d.file, .int .i64 d.port, .string d.dir, .int .i64 d.retry, .int .i64 d.backoff, .int .i64 d.timeout, .string d.response] 67) _)
  have zz : ((w.setCell ⟨g, k * 6 + 1, none⟩ (.int .i64 4)).setCell ⟨g, k * 6 + 3, none⟩ (.int .i64 0)).heap.size = w.heap.size := by simp [World.setCell]
  have kc := (Blk.new ((w.setCell ⟨g, k * 6 + 1, none⟩ (.int .i64 4)).setCell ⟨g, k * 6 + 3, none⟩ (.int .i64 0)) 24 #[.string cn, .bool cf, .int .i64 cpt, .string cd, .string cpre, .string cfil, .string ctr, .slice D n dc, .int .i64 crt]).alloc (.cells #[.string d.name, .int .i64 d.chain, .bool d.file, .int .i64 d.port, .string d.dir, .int .i64 d.retry, .int .i64 d.backoff, .int .i64 d.timeout, .string d.response] 67)
  have kd := Blk.new (((w.setCell ⟨g, k * 6 + 1, none⟩ (.int .i64 4)).setCell ⟨g, k * 6 + 3, none⟩ (.int .i64 0)).alloc (.cells #[.string cn, .bool cf, .int .i64 cpt, .string cd, .string cpre, .string cfil, .string ctr, .slice D n dc, .int .i64 crt] 24)) 67 #[.string d.name, .int .i64 d.chain, .bool d.file, .int .i64 d.port, .string d.dir, .int .i64 d.retry, .int .i64 d.backoff, .int .i64 d.timeout, .string d.response]
  rw [show (((w.setCell ⟨g, k * 6 + 1, none⟩ (.int .i64 4)).setCell ⟨g, k * 6 + 3, none⟩ (.int .i64 0)).alloc (.cells #[.string cn, .bool cf, .int .i64 cpt, .string cd, .string cpre, .string cfil, .string ctr, .slice D n dc, .int .i64 crt] 24)).heap.size = w.heap.size + 1 from by simp [World.setCell]] at kd
  rw [zz] at kc
  have LN4 := Lib.hid (show (ls.set k { l with status := 4, due := 0 }).length = m from by rw [List.length_set]; exact hlen)
  have OW4 := Lib.hid own5
  have GR4 := Lib.hid gr4
  have KC := Lib.hid kc
  have KD := Lib.hid kd
  have HR := Lib.hid hr
  have HD := Lib.hid hd
  have c0 := fun i => kc.cell i
  clear hd hown hr own3 own4 own5 gr2 gr4 kc kd zz hlen hl3
  obtain ⟨ls0, hls0⟩ : ∃ ls0, ls0 = ls.set k { l with status := 4, due := 0 } := ⟨_, rfl⟩
  rw [← hls0] at OW4 LN4
  rw [← hls0]
  clear hls0
  go_enter Tryz.func36, Tryz.ntmps36
  go_wp2_with fail
  clear e0 e1 e2 e3 e4 e5 fz c0
  generalize (((w.setCell ⟨g, k * 6 + 1, none⟩ (.int .i64 4)).setCell ⟨g, k * 6 + 3, none⟩ (.int .i64 0)).alloc (.cells #[.string cn, .bool cf, .int .i64 cpt, .string cd, .string cpre, .string cfil, .string ctr, .slice D n dc, .int .i64 crt] 24)).alloc (.cells #[.string d.name, .int .i64 d.chain, .bool d.file, .int .i64 d.port, .string d.dir, .int .i64 d.retry, .int .i64 d.backoff, .int .i64 d.timeout, .string d.response] 67) = w4 at *
  go_loopw [8, 22] (fun b x wr => ∃ (q : Nat) (bh : Bool) (lq : List P.Leg), q ≤ n ∧ x = .int .i64 q ∧ b = .bool bh ∧ P.failTo ds d ls0 q = (bh, lq) ∧ lq.length = m ∧ OwnL wr Bo (.slice (some ⟨g, 0, none⟩) m cp) lq ∧ w.grownBy wr (some g) ∧ Blk wr w.heap.size 24 #[.string cn, .bool cf, .int .i64 cpt, .string cd, .string cpre, .string cfil, .string ctr, .slice D n dc, .int .i64 crt] ∧ Blk wr (w.heap.size + 1) 67 #[.string d.name, .int .i64 d.chain, .bool d.file, .int .i64 d.port, .string d.dir, .int .i64 d.retry, .int .i64 d.backoff, .int .i64 d.timeout, .string d.response]) (fun _ x _ => n - (intOf x).toNat)
  case atStart => exact ⟨0, false, ls0, by omega, rfl, rfl, rfl, LN4.out, OW4.out, GR4.out, KC.out, KD.out⟩
  case round =>
    obtain ⟨q, bh, lq, hq, rfl, rfl, hfl, hlq, how, hgr, hkc, hkd⟩ := hrel
    by_cases hlt : q < n
    · have hb := below_grown hgr hB hBg
      obtain ⟨ad, o, rfl, hob, hok, hoc⟩ := (HD.out.below hb).in_ hlt
      have FS := Lib.hid ((P.failTo_step hok).trans (by rw [hfl]) : P.failTo ds d ls0 (q + 1) = P.failStep d (bh, lq) o)
      obtain ⟨c0, c1, c2, c3, c4, c5, c6, c7, c8⟩ := hoc
      have hrw := HR.out.grownAt hgr hne
      have hgw : g < wr.heap.size := Nat.lt_of_lt_of_le hg hgr.size
      have KO := Lib.hid (Blk.new wr 67 #[.string o.name, .int .i64 o.chain, .bool o.file, .int .i64 o.port, .string o.dir, .int .i64 o.retry, .int .i64 o.backoff, .int .i64 o.timeout, .string o.response])
      have RO := Lib.hid (hrw.alloc (.cells #[.string o.name, .int .i64 o.chain, .bool o.file, .int .i64 o.port, .string o.dir, .int .i64 o.retry, .int .i64 o.backoff, .int .i64 o.timeout, .string o.response] 67))
      have CO := Lib.hid (hkc.alloc (.cells #[.string o.name, .int .i64 o.chain, .bool o.file, .int .i64 o.port, .string o.dir, .int .i64 o.retry, .int .i64 o.backoff, .int .i64 o.timeout, .string o.response] 67))
      have DO := Lib.hid (hkd.alloc (.cells #[.string o.name, .int .i64 o.chain, .bool o.file, .int .i64 o.port, .string o.dir, .int .i64 o.retry, .int .i64 o.backoff, .int .i64 o.timeout, .string o.response] 67))
      have OO := Lib.hid (how.alloc (.cells #[.string o.name, .int .i64 o.chain, .bool o.file, .int .i64 o.port, .string o.dir, .int .i64 o.retry, .int .i64 o.backoff, .int .i64 o.timeout, .string o.response] 67))
      have GO := Lib.hid (hgr.trans (World.grownBy_alloc wr (.cells #[.string o.name, .int .i64 o.chain, .bool o.file, .int .i64 o.port, .string o.dir, .int .i64 o.retry, .int .i64 o.backoff, .int .i64 o.timeout, .string o.response] 67) (some g)))
      have LQ := Lib.hid hlq
      have zo : (wr.alloc (.cells #[.string o.name, .int .i64 o.chain, .bool o.file, .int .i64 o.port, .string o.dir, .int .i64 o.retry, .int .i64 o.backoff, .int .i64 o.timeout, .string o.response] 67)).heap.size = wr.heap.size + 1 := by simp
      have ZO := Lib.hid zo
      clear hfl hlq how hgr hkc hkd hob hok hb hrw zo
      go_wp2_with fail
      clear c0 c1 c2 c3 c4 c5 c6 c7 c8
      refine wp_region_free 7 [] Stays (fun _ => none) (by kernel_rfl) (by kernel_rfl) Stays.refl (by simp) (Stays.draw _) Stays.trans (fun j φ v x y hB => by cases hB) ?_
      apply wpFree_pure rfl rfl
      · intro vs wx hk K hK
        go_simp
        exact hK _ (Stays.refl _)
      intro KK hKK
      go_simp
      refine hKK _ ?_
      clear hKK KK
      apply wpFree_pure rfl rfl
      · intro vs wx hk K hK
        go_simp
        exact hK _ (Stays.refl _)
      intro KK hKK
      go_simp
      refine hKK _ ?_
      clear hKK KK
      apply wpFree_pure rfl rfl
      · intro vs wx hk K hK
        have c0 := fun i => (RO.out.stays hk.1).cell i
        go_simp
        exact hK _ (Stays.refl _)
      intro KK hKK
      go_simp
      refine hKK _ ?_
      clear hKK KK
      apply wpFree_pure rfl rfl
      · intro vs wx hk K hK
        go_simp
        exact hK _ (Stays.refl _)
      intro KK hKK
      go_simp
      refine hKK _ ?_
      clear hKK KK
      apply wpFree_pure rfl rfl
      · intro vs wx hk K hK
        have c0 := fun i => (KO.out.stays hk.1).cell i
        go_simp
        exact hK _ (Stays.refl _)
      intro KK hKK
      go_simp
      refine hKK _ ?_
      clear hKK KK
      apply wpFree_pure rfl rfl
      · intro vs wx hk K hK
        have CL := leg_any id run tm st dn flt raw (some ⟨g, 0, none⟩) m cp lq o.name wx.heap.size wx ((OO.out.stays hk.1).legsAt LQ.out) (Nat.le_refl _) hm
        go_simp
        first
          | exact hK _ (Stays.refl _)
          | exact Calls.free hK CL
      intro KK hKK
      go_simp
      refine hKK _ ?_
      clear hKK KK
      apply wpFree_pure rfl rfl
      · intro vs wx hk K hK
        go_simp
        exact hK _ (Stays.refl _)
      intro KK hKK
      go_simp
      refine hKK _ ?_
      clear hKK KK
      refine wpFree_nil ?_
      intro vs w6 hs6 _
      intro KK hKK
      simp only [List.drop_succ_cons, List.drop_nil]
      have K6 := Lib.hid (KO.out.stays hs6)
      have R6 := Lib.hid (RO.out.stays hs6)
      have C6 := Lib.hid (CO.out.stays hs6)
      have D6 := Lib.hid (DO.out.stays hs6)
      have O6 := Lib.hid (OO.out.stays hs6)
      have G6 := Lib.hid (GO.out.trans (hs6.grown (some g)))
      have hg6 : g < w6.heap.size := by have := hs6.size; rw [ZO.out] at this; omega
      clear hs6
      have c0 := fun i => K6.out.cell i
      have c1 := fun i => D6.out.cell i
      have c2 := fun i => R6.out.cell i
      rcases P.failLegs_key bh (o.chain == d.chain) lq o.name with ⟨rfl, he⟩ | ⟨rfl, t1, he⟩ | ⟨rfl, t1, t2, he⟩ | ⟨i, x, rfl, t1, t2, hi, hx, ⟨ho, he⟩ | ⟨ho, he⟩⟩
      · have HS := Lib.hid (show P.failTo ds d ls0 (q + 1) = (o.name.toList == d.name.toList, lq) from FS.out.trans (by rw [P.failStep]; simp only; rw [he]; rfl))
        clear he
        go_wp2
        go_roundw
        case rel => exact ⟨q + 1, _, lq, by omega, by go_num, rfl, HS.out, LQ.out, O6.out, G6.out, C6.out, D6.out⟩
        case measure => simp [intOf]; omega
      · have HS := Lib.hid (show P.failTo ds d ls0 (q + 1) = (true, lq) from FS.out.trans (by rw [P.failStep]; simp only; rw [he]; rfl))
        clear he
        go_wp2
        go_roundw
        case rel => exact ⟨q + 1, _, lq, by omega, by go_num, rfl, HS.out, LQ.out, O6.out, G6.out, C6.out, D6.out⟩
        case measure => simp [intOf]; omega
      · have HS := Lib.hid (show P.failTo ds d ls0 (q + 1) = (true, lq) from FS.out.trans (by rw [P.failStep]; simp only; rw [he]; rfl))
        rw [t2]
        clear he t2
        go_wp2
        go_roundw
        case rel => exact ⟨q + 1, _, lq, by omega, by go_num, rfl, HS.out, LQ.out, O6.out, G6.out, C6.out, D6.out⟩
        case measure => simp [intOf]; omega
      · have HS := Lib.hid (show P.failTo ds d ls0 (q + 1) = (true, lq) from FS.out.trans (by rw [P.failStep]; simp only; rw [he]; rfl))
        rw [t2]
        have hlm := LQ.out
        obtain ⟨x0, x1, x2, x3, x4, x5⟩ := O6.out.legIn hx
        have OP := Lib.hid (fun W => open_any x W)
        rw [ho] at OP
        clear he t2 hx ho
        go_wp2_with fail
        refine (OP.out _).mono ?_
        rintro e w7 ⟨rfl, hb7⟩
        have S7 := Lib.hid (show Stays w6 w7 from hb7)
        clear hb7 c0 c1 c2 x0 x1 x2 x3 x4 x5
        have c0 := fun i => (K6.out.stays S7.out).cell i
        have c1 := fun i => (D6.out.stays S7.out).cell i
        go_wp2
        go_roundw
        case rel => exact ⟨q + 1, _, lq, by omega, by go_num, rfl, HS.out, LQ.out, O6.out.stays S7.out, G6.out.trans (S7.out.grown _), C6.out.stays S7.out, D6.out.stays S7.out⟩
        case measure => simp [intOf]; omega
      · have HS := Lib.hid (show P.failTo ds d ls0 (q + 1) = (true, lq.set i (P.leftOut x)) from FS.out.trans (by rw [P.failStep]; simp only; rw [he]; rfl))
        rw [t2]
        have hlm := LQ.out
        obtain ⟨x0, x1, x2, x3, x4, x5⟩ := O6.out.legIn hx
        have OP := Lib.hid (fun W => open_any x W)
        rw [ho] at OP
        have HX := Lib.hid hx
        have LS := Lib.hid (show (lq.set i (P.leftOut x)).length = m from by rw [List.length_set]; exact hlm)
        clear he t2 hx ho
        go_wp2_with fail
        refine (OP.out _).mono ?_
        rintro e w7 ⟨rfl, hb7⟩
        have S7 := Lib.hid (show Stays w6 w7 from hb7)
        have hg7 : g < w7.heap.size := Nat.lt_of_lt_of_le hg6 hb7.size
        clear hb7 c0 c1 c2 x0 x1 x2 x3 x4 x5
        have O7 := O6.out.stays S7.out
        obtain ⟨x0, x1, x2, x3, x4, x5⟩ := O7.legIn HX.out
        have fz := fun j => O7.frz LQ.out j
        have p1 := O7.put (l' := { x with status := 0 }) (j := 1) (u := .int .i64 0) LQ.out HX.out rfl (by omega)
        have p2 := p1.put (l := { x with status := 0 }) (l' := { x with status := 0, payload := ⟨#[]⟩ }) (j := 4) (u := .string ⟨#[]⟩) (by rw [List.length_set]; exact LQ.out) (by rw [List.getElem?_set_self hi]) rfl (by omega)
        rw [List.set_set] at p2
        have p3 := p2.put (l := { x with status := 0, payload := ⟨#[]⟩ }) (l' := P.leftOut x) (j := 3) (u := .int .i64 0) (by rw [List.length_set]; exact LQ.out) (by rw [List.getElem?_set_self hi]) rfl (by omega)
        rw [List.set_set] at p3
        have P3 := Lib.hid p3
        have k7 := (((K6.out.stays S7.out).grownAt (grown_set _ g (i * 6 + 1) (.int .i64 0)) (by omega)).grownAt (grown_set _ g (i * 6 + 4) (.string ⟨#[]⟩)) (by omega)).grownAt (grown_set _ g (i * 6 + 3) (.int .i64 0)) (by omega)
        have d7 := (((D6.out.stays S7.out).grownAt (grown_set _ g (i * 6 + 1) (.int .i64 0)) (by omega)).grownAt (grown_set _ g (i * 6 + 4) (.string ⟨#[]⟩)) (by omega)).grownAt (grown_set _ g (i * 6 + 3) (.int .i64 0)) (by omega)
        have C7 := Lib.hid ((((C6.out.stays S7.out).grownAt (grown_set _ g (i * 6 + 1) (.int .i64 0)) (by omega)).grownAt (grown_set _ g (i * 6 + 4) (.string ⟨#[]⟩)) (by omega)).grownAt (grown_set _ g (i * 6 + 3) (.int .i64 0)) (by omega))
        have D7 := Lib.hid d7
        have c0 := fun j => k7.cell j
        have c1 := fun j => d7.cell j
        have c2 := fun j => (R6.out.stays S7.out).cell j
        have G7 := Lib.hid ((((G6.out.trans (S7.out.grown _)).trans (grown_set _ g (i * 6 + 1) (.int .i64 0))).trans (grown_set _ g (i * 6 + 4) (.string ⟨#[]⟩))).trans (grown_set _ g (i * 6 + 3) (.int .i64 0)))
        clear p1 p2 p3 k7 d7 O7
        go_wp2
        go_roundw
        case rel => exact ⟨q + 1, _, _, by omega, by go_num, rfl, HS.out, LS.out, P3.out, G7.out, C7.out, D7.out⟩
        case measure => simp [intOf]; omega
    · have HF := Lib.hid (P.failTo_all (ds := ds) (d := d) (ls := ls0) (k := q) (by rw [HD.out.len]; omega))
      have OW := Lib.hid how
      have GR := Lib.hid hgr
      have HQ := Lib.hid hfl
      clear how hgr hkc hkd hlq hfl
      go_wp2
      go_end0
      refine ⟨rfl, ?_, GR.out⟩
      have h1 := HF.out
      rw [HQ.out] at h1
      rw [← h1]
      exact OW.out
end Go.Proofs.YtemjipongehjlaaGreat
/- What clock.Due returns. -/
namespace Go.Proofs.YtemjipongehjlaaGreat
set_option linter.unusedVariables false
open Go.RowKit Go.BigFrame
namespace P
/-- When the next try is due. -/
def dueAt (now backoff tries : Int) : Int := min (min (max now 0) 2147483647 + min (max backoff 0) 2147483647 * 2 ^ (min (max tries 1 - 1) 6).toNat) 2147483647
end P
set_option maxHeartbeats 400000 in
set_option maxRecDepth 20000 in
theorem dueAt_any (now backoff tries : Int) (w : World) (h1 : -9223372036854775808 ≤ now) (h2 : now ≤ 9223372036854775807) (h3 : -9223372036854775808 ≤ backoff) (h4 : backoff ≤ 9223372036854775807) (h5 : -9223372036854775808 ≤ tries) (h6 : tries ≤ 9223372036854775807) :
    Calls Tryz.prog 37 #[.int .i64 now, .int .i64 backoff, .int .i64 tries] w fun e w' => e = .returned (.int .i64 (P.dueAt now backoff tries)) ∧ w = w' := by
  go_enter Tryz.func37, Tryz.ntmps37
  have hb0 : 0 ≤ min (max backoff 0) 2147483647 ∧ min (max backoff 0) 2147483647 ≤ 2147483647 := by omega
  have ha0 : 0 ≤ min (max now 0) 2147483647 ∧ min (max now 0) 2147483647 ≤ 2147483647 := by omega
  have hk : (min (max tries 1 - 1) 6).toNat ≤ 6 := by omega
  have key : 0 ≤ min (max backoff 0) 2147483647 * 2 ^ (min (max tries 1 - 1) 6).toNat ∧ min (max backoff 0) 2147483647 * 2 ^ (min (max tries 1 - 1) 6).toNat ≤ 274877906944 := by
    generalize (min (max tries 1 - 1) 6).toNat = k at *
    generalize min (max backoff 0) 2147483647 = b at *
    rcases (by omega : k = 0 ∨ k = 1 ∨ k = 2 ∨ k = 3 ∨ k = 4 ∨ k = 5 ∨ k = 6) with rfl | rfl | rfl | rfl | rfl | rfl | rfl <;> omega
  have HD := Lib.hid (show min (wrap64 (min (max now 0) 2147483647 + wrap64 (min (max backoff 0) 2147483647 * 2 ^ (min (max tries 1 - 1) 6).toNat))) 2147483647 = P.dueAt now backoff tries from by
    unfold P.dueAt
    rw [IntWalk.wrap64_in (min (max backoff 0) 2147483647 * 2 ^ (min (max tries 1 - 1) 6).toNat) ⟨by omega, by omega⟩, IntWalk.wrap64_in _ ⟨by omega, by omega⟩])
  clear hb0 ha0 hk key
  go_wp2
  go_ret
  rw [← HD.out]
  exact ⟨rfl, rfl⟩
namespace P
/-- What a verdict 'to be tried again' makes of the legs. -/
def triedTurn (now : Int) (ds : List Dest) (ls : List Leg) (k : Nat) (l : Leg) (d : Dest) : List Leg :=
  if d.retry ≠ 0 ∧ d.retry < l.tries then failed ds d (ls.set k { l with status := 4, due := 0 }) else ls.set k { l with status := 2, due := dueAt now d.backoff l.tries }
def failTurn (ds : List Dest) (ls : List Leg) (k : Nat) (l : Leg) (d : Dest) : List Leg := failed ds d (ls.set k { l with status := 4, due := 0 })
theorem triedTurn_key (now : Int) (ds : List Dest) (ls : List Leg) (k : Nat) (l : Leg) (d : Dest) : ((d.retry != 0) = false ∧ triedTurn now ds ls k l d = ls.set k { l with status := 2, due := dueAt now d.backoff l.tries }) ∨ ((d.retry != 0) = true ∧ decide (d.retry < l.tries) = false ∧ triedTurn now ds ls k l d = ls.set k { l with status := 2, due := dueAt now d.backoff l.tries })
    ∨ ((d.retry != 0) = true ∧ decide (d.retry < l.tries) = true ∧ triedTurn now ds ls k l d = failTurn ds ls k l d) := by
  unfold triedTurn failTurn
  by_cases h1 : d.retry = 0
  · exact Or.inl ⟨by simp [h1], by rw [if_neg (fun h => h.1 h1)]⟩
  · by_cases h2 : d.retry < l.tries
    · exact Or.inr (Or.inr ⟨by simpa using h1, by simpa using h2, by rw [if_pos ⟨h1, h2⟩]⟩)
    · exact Or.inr (Or.inl ⟨by simpa using h1, by simpa using h2, by rw [if_neg (fun h => h2 h.2)]⟩)
end P
set_option maxRecDepth 100000 in
set_option maxHeartbeats 4000000 in
theorem tried1_any (cn cd cpre cfil ctr : ByteArray) (cf : Bool) (cpt crt : Int) (D : Option Addr) (n dc : Nat) (ds : List P.Dest) (id run tm st dn flt : Int) (raw : ByteArray) (g m cp k rb cb nb : Nat) (ls : List P.Leg) (l : P.Leg) (d : P.Dest) (now : Int) (Bo B : Nat) (w : World)
    (hd : DestsAt w B D n ds) (hB : B ≤ w.heap.size) (hBg : B ≤ g) (hown : OwnL w Bo (.slice (some ⟨g, 0, none⟩) m cp) ls) (hlen : ls.length = m) (hl : ls[k]? = some l) (hr : Blk w rb 28 #[.int .i64 id, .int .i64 run, .int .i64 tm, .int .i64 st, .int .i64 dn, .string raw, .int .i64 flt, .slice (some ⟨g, 0, none⟩) m cp]) (hne : rb ≠ g) (hg : g < w.heap.size) (hn : n ≤ maxLen) (hm : m ≤ maxLen)
    (hc : Blk w cb 24 #[.string cn, .bool cf, .int .i64 cpt, .string cd, .string cpre, .string cfil, .string ctr, .slice D n dc, .int .i64 crt]) (hnb : Blk w nb 3 #[.int .i64 now]) (hw1 : (Lit.int .i64 now).wf = true) (hw2 : (Lit.int .i64 d.backoff).wf = true) (hw3 : (Lit.int .i64 l.tries).wf = true) :
    Calls Tryz.prog 35 #[.pointer (some ⟨g, k * 6, none⟩), .agg #[.string d.name, .int .i64 d.chain, .bool d.file, .int .i64 d.port, .string d.dir, .int .i64 d.retry, .int .i64 d.backoff, .int .i64 d.timeout, .string d.response], .pointer (some ⟨rb, 0, none⟩), .pointer (some ⟨cb, 0, none⟩), .pointer (some ⟨nb, 0, none⟩)] w fun e w' => e = .returned (.tuple #[]) ∧ OwnL w' Bo (.slice (some ⟨g, 0, none⟩) m cp) (P.triedTurn now ds ls k l d) ∧ w.grownBy w' (some g) := by
  have hkl : k < ls.length := by
    rcases Nat.lt_or_ge k ls.length with h1 | h1
    · exact h1
    · rw [List.getElem?_eq_none h1] at hl; cases hl
  have b1 := bounds_i64 hw1
  have b2 := bounds_i64 hw2
  have b3 := bounds_i64 hw3
  have hs1 : Stays w (w.alloc (.cells #[.string d.name, .int .i64 d.chain, .bool d.file, .int .i64 d.port, .string d.dir, .int .i64 d.retry, .int .i64 d.backoff, .int .i64 d.timeout, .string d.response] 67)) := Stays.alloc w _
  have kd := Blk.new w 67 #[.string d.name, .int .i64 d.chain, .bool d.file, .int .i64 d.port, .string d.dir, .int .i64 d.retry, .int .i64 d.backoff, .int .i64 d.timeout, .string d.response]
  have FA := Lib.hid (fun W (hW : Stays w W) => fail_any cn cd cpre cfil ctr cf cpt crt D n dc ds id run tm st dn flt raw g m cp k rb ls l d Bo B W (hd.below (hW.mono hB)) (Nat.le_trans hB hW.size) hBg (hown.stays hW) hlen hl (hr.stays hW) hne (Nat.lt_of_lt_of_le hg hW.size) hn hm)
  have S1 := Lib.hid hs1
  have KD := Lib.hid kd
  have KC := Lib.hid hc
  have KN := Lib.hid hnb
  have OW := Lib.hid hown
  have HL := Lib.hid hl
  have LN := Lib.hid hlen
  have c0 := fun i => (hc.stays hs1).cell i
  have c1 := fun i => kd.cell i
  obtain ⟨e0, e1, e2, e3, e4, e5⟩ := (hown.stays hs1).legIn hl
  have DU := Lib.hid (fun W => dueAt_any now d.backoff l.tries W (by omega) (by omega) (by omega) (by omega) (by omega) (by omega))
  clear hd hown hlen hl hr hc hnb hw1 hw2 hw3 hs1 kd b1 b2 b3
  rcases P.triedTurn_key now ds ls k l d with ⟨t1, he⟩ | ⟨t1, t2, he⟩ | ⟨t1, t2, he⟩
  case inr.inr =>
    rw [he, P.failTurn]
    clear he
    go_enter Tryz.func35, Tryz.ntmps35
    go_wp2_with fail
    go_quiet (fail)
    go_wp2_with fail
    refine (FA.out _ (below_drewN S1.out _)).mono ?_
    rintro e w2 ⟨rfl, ho, hgr⟩
    have O2 := Lib.hid ho
    have G2 := Lib.hid ((Stays.grown (below_drewN S1.out _) (some g)).trans hgr)
    clear ho hgr
    go_wp2
    try simp only [Exit.inBlock, Exit.then]
    refine bodyPost_ret (results_none rfl _ _ _) rfl ?_
    exact ⟨rfl, O2.out, G2.out⟩
  all_goals
    rw [he]
    clear he
    go_enter Tryz.func35, Tryz.ntmps35
    go_wp2_with fail
    go_quiet (fail)
    go_wp2_with fail
    refine wp_region_free 12 [1] Stays (fun _ => none) (by kernel_rfl) (by kernel_rfl) Stays.refl (by simp) (Stays.draw _) Stays.trans (fun j φ v x y hB => by cases hB) ?_
    clear c0 c1 e0 e1 e2 e3 e4 e5
    apply wpFree_pure rfl rfl
    · intro vs wx hk K hK
      go_simp
      exact hK _ (Stays.refl _)
    intro KK hKK
    go_simp
    refine hKK _ ?_
    clear hKK KK
    apply wpFree_late rfl rfl
    · intro vs wx K hK
      go_simp
      exact hK
    intro KK hKK
    go_simp
    refine hKK _ ?_
    clear hKK KK
    apply wpFree_pure rfl rfl
    · intro vs wx hk K hK
      have c0 := fun i => (KN.out.stays (Stays.trans (below_drewN S1.out _) hk.1)).cell i
      go_simp
      exact hK _ (Stays.refl _)
    intro KK hKK
    go_simp
    refine hKK _ ?_
    clear hKK KK
    apply wpFree_pure rfl rfl
    · intro vs wx hk K hK
      go_simp
      exact hK _ (Stays.refl _)
    intro KK hKK
    go_simp
    refine hKK _ ?_
    clear hKK KK
    apply wpFree_pure rfl rfl
    · intro vs wx hk K hK
      have c0 := fun i => (KD.out.stays (Stays.trans (below_drewN (Stays.refl _) _) hk.1)).cell i
      go_simp
      exact hK _ (Stays.refl _)
    intro KK hKK
    go_simp
    refine hKK _ ?_
    clear hKK KK
    apply wpFree_pure rfl rfl
    · intro vs wx hk K hK
      go_simp
      exact hK _ (Stays.refl _)
    intro KK hKK
    go_simp
    refine hKK _ ?_
    clear hKK KK
    apply wpFree_pure rfl rfl
    · intro vs wx hk K hK
      go_simp
      exact hK _ (Stays.refl _)
    intro KK hKK
    go_simp
    refine hKK _ ?_
    clear hKK KK
    apply wpFree_pure rfl rfl
    · intro vs wx hk K hK
      go_simp
      exact hK _ (Stays.refl _)
    intro KK hKK
    go_simp
    refine hKK _ ?_
    clear hKK KK
    apply wpFree_pure rfl rfl
    · intro vs wx hk K hK
      obtain ⟨e0, e1, e2, e3, e4, e5⟩ := (OW.out.stays (Stays.trans (below_drewN S1.out _) hk.1)).legIn HL.out
      go_simp
      exact hK _ (Stays.refl _)
    intro KK hKK
    go_simp
    refine hKK _ ?_
    clear hKK KK
    apply wpFree_pure rfl rfl
    · intro vs wx hk K hK
      go_simp
      first
        | exact hK _ (Stays.refl _)
        | exact Calls.free hK ((DU.out _).mono fun e w' ⟨he, hw'⟩ => ⟨he, hw' ▸ Stays.refl _⟩)
    intro KK hKK
    go_simp
    refine hKK _ ?_
    clear hKK KK
    apply wpFree_pure rfl rfl
    · intro vs wx hk K hK
      go_simp
      exact hK _ (Stays.refl _)
    intro KK hKK
    go_simp
    refine hKK _ ?_
    clear hKK KK
    apply wpFree_pure rfl rfl
    · intro vs wx hk K hK
      go_simp
      exact hK _ (Stays.refl _)
    intro KK hKK
    go_simp
    refine hKK _ ?_
    clear hKK KK
    refine wpFree_nil ?_
    intro vs w6 hs6 _
    intro KK hKK
    simp only [List.drop_succ_cons]
    have s6 : Stays w w6 := Stays.trans (below_drewN S1.out _) hs6
    have S6 := Lib.hid s6
    have hg6 : g < w6.heap.size := Nat.lt_of_lt_of_le hg s6.size
    have O6 := OW.out.stays s6
    obtain ⟨e0, e1, e2, e3, e4, e5⟩ := O6.legIn HL.out
    have fz := fun j => O6.frz LN.out j
    have p1 := O6.put (l' := { l with status := 2 }) (j := 1) (u := .int .i64 2) LN.out HL.out rfl (by omega)
    have p2 := p1.put (l := { l with status := 2 }) (l' := { l with status := 2, due := P.dueAt now d.backoff l.tries }) (j := 3) (u := .int .i64 (P.dueAt now d.backoff l.tries)) (by rw [List.length_set]; exact LN.out) (by rw [List.getElem?_set_self hkl]) rfl (by omega)
    rw [List.set_set] at p2
    have P2 := Lib.hid p2
    have G2 := Lib.hid (((Stays.grown s6 (some g)).trans (grown_set _ g (k * 6 + 1) (.int .i64 2))).trans (grown_set _ g (k * 6 + 3) (.int .i64 (P.dueAt now d.backoff l.tries))))
    clear p1 p2 O6 s6 hs6
    go_wp2
    go_end0
    exact ⟨rfl, P2.out, G2.out⟩
end Go.Proofs.YtemjipongehjlaaGreat
