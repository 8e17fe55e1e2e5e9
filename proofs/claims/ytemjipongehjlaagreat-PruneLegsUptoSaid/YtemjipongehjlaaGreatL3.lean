/- What prune.Next returns: the destinations whose legs may be gone now. -/
import Derived.Test.YtemjipongehjlaaGreatL2
namespace Go.Proofs.YtemjipongehjlaaGreat
set_option linter.unusedVariables false
open Go.RowKit Go.BigFrame
namespace P
theorem legI_cases (ls : List Leg) (name : ByteArray) : (legAt ls name = none ∧ legI ls name = -1) ∨ ∃ (j : Nat) (l : Leg), legAt ls name = some j ∧ legI ls name = (j : Int) ∧ j < ls.length ∧ ls[j]? = some l ∧ (l.name.data.toList == name.data.toList) = true := by
  unfold legI
  cases h : legAt ls name with
  | none => exact Or.inl ⟨rfl, rfl⟩
  | some j =>
    have h2 := h
    unfold legAt at h2
    obtain ⟨hj, hp, _⟩ := List.findIdx?_eq_some_iff_getElem.1 h2
    exact Or.inr ⟨j, ls[j], rfl, rfl, hj, List.getElem?_eq_getElem hj, hp⟩
theorem nextGo_skip0 {ls : List Leg} {d : Dest} {ds : List Dest} {busy : List Int} (h : legAt ls d.name = none) : nextGo ls (d :: ds) busy = nextGo ls ds busy := by
  rw [nextGo, h]
theorem nextGo_skip1 {ls : List Leg} {d : Dest} {ds : List Dest} {busy : List Int} {j : Nat} {l : Leg} (h : legAt ls d.name = some j) (hl : ls[j]? = some l) (ho : l.isOpen = false) : nextGo ls (d :: ds) busy = nextGo ls ds busy := by
  rw [nextGo, h]
  simp [hl, ho]
theorem nextGo_busy {ls : List Leg} {d : Dest} {ds : List Dest} {busy : List Int} {j : Nat} {l : Leg} (h : legAt ls d.name = some j) (hl : ls[j]? = some l) (ho : l.isOpen = true) (hb : busy.contains d.chain = true) : nextGo ls (d :: ds) busy = nextGo ls ds (d.chain :: busy) := by
  rw [nextGo, h]
  simp only [hl, ho, hb, if_true]
theorem nextGo_take {ls : List Leg} {d : Dest} {ds : List Dest} {busy : List Int} {j : Nat} {l : Leg} (h : legAt ls d.name = some j) (hl : ls[j]? = some l) (ho : l.isOpen = true) (hb : busy.contains d.chain = false) : nextGo ls (d :: ds) busy = d.name :: nextGo ls ds (d.chain :: busy) := by
  rw [nextGo, h]
  simp only [hl, ho, hb, if_true]
  rfl
theorem drop_at {α : Type} {l : List α} {k : Nat} {x : α} (h : l[k]? = some x) : l.drop k = x :: l.drop (k + 1) := by
  have hk : k < l.length := by
    rcases Nat.lt_or_ge k l.length with h1 | h1
    · exact h1
    · rw [List.getElem?_eq_none h1] at h; cases h
  rw [List.getElem?_eq_getElem hk] at h
  cases h
  exact List.drop_eq_getElem_cons hk
end P
def Busy (busy : List Int) (z : Value) : Prop := ∃ c, c ∈ busy ∧ z = .agg #[.int .i64 c]
theorem busy_of (busy : List Int) (c : Int) : busy.contains c = true ↔ Busy busy (.agg #[.int .i64 c]) := by
  unfold Busy
  constructor
  · intro h
    exact ⟨c, by simpa using h, rfl⟩
  · rintro ⟨c', h, e⟩
    cases e
    simpa using h
theorem busy_cons (busy : List Int) (c : Int) (z : Value) : (z = .agg #[.int .i64 c] ∨ Busy busy z) ↔ Busy (c :: busy) z := by
  unfold Busy
  constructor
  · rintro (h | ⟨c', h, e⟩)
    · exact ⟨c, by simp, h⟩
    · exact ⟨c', by simp [h], e⟩
  · rintro ⟨c', h, e⟩
    rcases List.mem_cons.1 h with h | h
    · subst h; exact Or.inl e
    · exact Or.inr ⟨c', h, e⟩
theorem newsS1 (w : World) (o : Obj) (t : TypeId) (s : ByteArray) : ∀ j u, [s][j]? = some u → ((w.alloc o).alloc (.cells #[.string s] t)).cell? ((⟨w.heap.size + 1, 0, none⟩ : Addr).add j) = some (Value.string u) := by
  have := newsS (w.alloc o) t s
  rw [show (w.alloc o).heap.size = w.heap.size + 1 from by simp] at this
  exact this
/-- The call hands back texts of its own; what was there stands. -/
def GivesS (w : World) (l : List ByteArray) (x : Ending) (w' : World) : Prop := ∃ v, x = .returned v ∧ OwnS w' w.heap.size v l ∧ Below w.heap.size w w'
theorem OwnS.less {w : World} {B B' : Nat} {v : Value} {l : List ByteArray} (h : OwnS w B v l) (hB : B' ≤ B) : OwnS w B' v l := by
  obtain ⟨h1, h2⟩ := h
  refine ⟨h1, ?_⟩
  rcases h2 with h2 | ⟨g, cap, cur, hv, hg, r⟩
  · exact .inl h2
  · exact .inr ⟨g, cap, cur, hv, Nat.le_trans hB hg, r⟩
set_option maxRecDepth 100000 in
set_option maxHeartbeats 4000000 in
theorem next_any (id run tm st dn flt : Int) (raw : ByteArray) (A : Option Addr) (m cp : Nat) (ls : List P.Leg) (cn cd cpre cfil ctr : ByteArray) (cf : Bool) (cpt crt : Int) (D : Option Addr) (n dc : Nat) (ds : List P.Dest) (B : Nat) (w : World)
    (h : LegsAt w B A m ls) (hd : DestsAt w B D n ds) (hB : B ≤ w.heap.size) (hm : m ≤ maxLen) (hn : n ≤ 1099511627776) (hw : ∀ d ∈ ds, (Lit.int .i64 d.chain).wf = true) :
    Calls Tryz.prog 10 #[.agg #[.string cn, .bool cf, .int .i64 cpt, .string cd, .string cpre, .string cfil, .string ctr, .slice D n dc, .int .i64 crt], .agg #[.int .i64 id, .int .i64 run, .int .i64 tm, .int .i64 st, .int .i64 dn, .string raw, .int .i64 flt, .slice A m cp]] w (GivesS w (P.next st ds ls)) := by
  have hmm := @run_makeMap Tryz.prog
  by_cases h3 : st = 3
  · subst h3
    have H := Lib.hid h
    have HD := Lib.hid hd
    have HW := Lib.hid hw
    have hr : (((w.alloc (.cells #[.string cn, .bool cf, .int .i64 cpt, .string cd, .string cpre, .string cfil, .string ctr, .slice D n dc, .int .i64 crt] 24)).alloc (.cells #[.int .i64 id, .int .i64 run, .int .i64 tm, .int .i64 3, .int .i64 dn, .string raw, .int .i64 flt, .slice A m cp] 28)).alloc (.map #[] 0)).heap.size = w.heap.size + 3 := by simp
    have hblk := (Blk.new (w.alloc (.cells #[.string cn, .bool cf, .int .i64 cpt, .string cd, .string cpre, .string cfil, .string ctr, .slice D n dc, .int .i64 crt] 24)) 28 #[.int .i64 id, .int .i64 run, .int .i64 tm, .int .i64 3, .int .i64 dn, .string raw, .int .i64 flt, .slice A m cp]).alloc (.map #[] 0)
    rw [show (w.alloc (.cells #[.string cn, .bool cf, .int .i64 cpt, .string cd, .string cpre, .string cfil, .string ctr, .slice D n dc, .int .i64 crt] 24)).heap.size = w.heap.size + 1 from by simp] at hblk
    have hset := SetIs.made ((w.alloc (.cells #[.string cn, .bool cf, .int .i64 cpt, .string cd, .string cpre, .string cfil, .string ctr, .slice D n dc, .int .i64 crt] 24)).alloc (.cells #[.int .i64 id, .int .i64 run, .int .i64 tm, .int .i64 3, .int .i64 dn, .string raw, .int .i64 flt, .slice A m cp] 28)) 76
    rw [show ((w.alloc (.cells #[.string cn, .bool cf, .int .i64 cpt, .string cd, .string cpre, .string cfil, .string ctr, .slice D n dc, .int .i64 crt] 24)).alloc (.cells #[.int .i64 id, .int .i64 run, .int .i64 tm, .int .i64 3, .int .i64 dn, .string raw, .int .i64 flt, .slice A m cp] 28)).heap.size = w.heap.size + 2 from by simp] at hset
    have BK := Lib.hid hblk
    have ST := Lib.hid (hset.say (S' := Busy []) (fun v => by simp [Busy]))
    have BB := Lib.hid ((((Below.refl w.heap.size w).alloc (Nat.le_refl _) (.cells #[.string cn, .bool cf, .int .i64 cpt, .string cd, .string cpre, .string cfil, .string ctr, .slice D n dc, .int .i64 crt] 24)).alloc (by simp) (.cells #[.int .i64 id, .int .i64 run, .int .i64 tm, .int .i64 3, .int .i64 dn, .string raw, .int .i64 flt, .slice A m cp] 28)).alloc (by simp; omega) (.map #[] 0))
    have HR := Lib.hid hr
    clear h hd hw hr hblk hset
    go_enter Tryz.func10, Tryz.ntmps10
    go_wp2_with fail
    go_loopw [5, 19] (fun o x wr => ∃ (k : Nat) (acc : List ByteArray) (busy : List Int), k ≤ n ∧ x = .int .i64 k ∧ acc.length ≤ k ∧ P.nextGo ls ds [] = acc ++ P.nextGo ls (ds.drop k) busy ∧ OwnS wr (w.heap.size + 3) o acc ∧ SetIs wr 76 (w.heap.size + 2) k (Busy busy) ∧ Blk wr (w.heap.size + 1) 28 #[.int .i64 id, .int .i64 run, .int .i64 tm, .int .i64 3, .int .i64 dn, .string raw, .int .i64 flt, .slice A m cp] ∧ w.heap.size + 3 ≤ wr.heap.size ∧ Below w.heap.size w wr) (fun _ x _ => n - (intOf x).toNat)
    case atStart => exact ⟨0, [], [], by omega, rfl, by simp, rfl, OwnS.nil _ _, ST.out, BK.out, by rw [HR.out]; omega, BB.out⟩
    case round =>
      obtain ⟨k, acc, busy, hk, rfl, hacc, hgo, hown, hset, hblk, hsz, hbel⟩ := hrel
      by_cases hlt : k < n
      · obtain ⟨ad, d, rfl, hdb, hdk, hdc⟩ := (HD.out.below (hbel.mono hB)).in_ hlt
        have hwf := HW.out d (List.mem_of_getElem? hdk)
        have hk1 := key1 hwf
        have HGO := Lib.hid (show P.nextGo ls ds [] = acc ++ P.nextGo ls (d :: ds.drop (k + 1)) busy from by rw [hgo, P.drop_at hdk])
        obtain ⟨c0, c1, c2, c3, c4, c5, c6, c7, c8⟩ := hdc
        have DB := Lib.hid (Blk.new wr 67 #[.string d.name, .int .i64 d.chain, .bool d.file, .int .i64 d.port, .string d.dir, .int .i64 d.retry, .int .i64 d.backoff, .int .i64 d.timeout, .string d.response])
        have W1 := Lib.hid (hbel.alloc hbel.size (.cells #[.string d.name, .int .i64 d.chain, .bool d.file, .int .i64 d.port, .string d.dir, .int .i64 d.retry, .int .i64 d.backoff, .int .i64 d.timeout, .string d.response] 67))
        have RB := Lib.hid (hblk.alloc (.cells #[.string d.name, .int .i64 d.chain, .bool d.file, .int .i64 d.port, .string d.dir, .int .i64 d.retry, .int .i64 d.backoff, .int .i64 d.timeout, .string d.response] 67))
        have SB := Lib.hid (hset.alloc (.cells #[.string d.name, .int .i64 d.chain, .bool d.file, .int .i64 d.port, .string d.dir, .int .i64 d.retry, .int .i64 d.backoff, .int .i64 d.timeout, .string d.response] 67))
        have OB := Lib.hid (hown.alloc (.cells #[.string d.name, .int .i64 d.chain, .bool d.file, .int .i64 d.port, .string d.dir, .int .i64 d.retry, .int .i64 d.backoff, .int .i64 d.timeout, .string d.response] 67))
        have hrc := fun i => RB.out.cell i
        have LC := Lib.hid (fun W (hW : Below w.heap.size w W) => leg_any id run tm 3 dn flt raw A m cp ls d.name B W (H.out.below (hW.mono hB)) (Nat.le_trans hB hW.size) hm)
        clear hgo hdk hwf hbel hown hset hblk
        go_wp2_with fail
        refine (LC.out _ W1.out).mono ?_
        rintro x w2 ⟨rfl, hb2⟩
        have W2 := Lib.hid (W1.out.trans (hb2.mono W1.out.size))
        have DB2 := Lib.hid (DB.out.below hb2 DB.out.lt)
        have RB2 := Lib.hid (RB.out.below hb2 RB.out.lt)
        have SB2 := Lib.hid (SB.out.below hb2 SB.out.lt)
        have OB2 := Lib.hid (OB.out.below hb2 (Nat.le_refl _))
        have Z2 : w.heap.size + 3 ≤ w2.heap.size := by have := hb2.size; simp at this; omega
        clear hb2 hrc c0 c1 c2 c3 c4 c5 c6 c7 c8
        rcases P.legI_cases ls d.name with ⟨l1, l2⟩ | ⟨j, l, l1, l2, hj, hl, -⟩
        · have HN := Lib.hid (HGO.out.trans (by rw [P.nextGo_skip0 l1] : _ = acc ++ P.nextGo ls (ds.drop (k + 1)) busy))
          rw [l2]
          clear l1 l2
          go_wp2
          go_roundw
          case rel => exact ⟨k + 1, acc, busy, by omega, by go_num, by omega, HN.out, OB2.out, SB2.out.mono (by omega), RB2.out, Z2, W2.out⟩
          case measure => simp [intOf]; omega
        · rw [l2]
          clear l2
          have hjm : j < m := by have := H.out.len; omega
          obtain ⟨ad2, l', rfl, hlb, hl', hlc⟩ := (H.out.below (W2.out.mono hB)).in_ hjm
          obtain rfl : l' = l := Option.some.inj (hl'.symm.trans hl)
          obtain ⟨e0, e1, e2, e3, e4, e5⟩ := hlc
          have hrc2 := fun i => RB2.out.cell i
          have hj0 : decide ((j : Int) < 0) = false := decide_eq_false (by omega)
          have HL1 := Lib.hid l1
          have HL2 := Lib.hid hl
          clear l1 hl hl'
          go_wp2_with fail
          refine (open_any l' _).mono ?_
          rintro x w3 ⟨rfl, hb3⟩
          have W3 := Lib.hid (W2.out.trans (hb3.mono W2.out.size))
          have DB3 := Lib.hid (DB2.out.below hb3 DB2.out.lt)
          have RB3 := Lib.hid (RB2.out.below hb3 RB2.out.lt)
          have SB3 := Lib.hid (SB2.out.below hb3 SB2.out.lt)
          have OB3 := Lib.hid (OB2.out.below hb3 (Nat.le_refl _))
          have Z3 : w.heap.size + 3 ≤ w3.heap.size := Nat.le_trans Z2 hb3.size
          clear hb3 hrc2 e0 e1 e2 e3 e4 e5 hlb
          cases ho : l'.isOpen
          · have HN := Lib.hid (HGO.out.trans (by rw [P.nextGo_skip1 HL1.out HL2.out ho] : _ = acc ++ P.nextGo ls (ds.drop (k + 1)) busy))
            clear ho
            go_wp2
            go_roundw
            case rel => exact ⟨k + 1, acc, busy, by omega, by go_num, by omega, HN.out, OB3.out, SB3.out.mono (by omega), RB3.out, Z3, W3.out⟩
            case measure => simp [intOf]; omega
          · have hdc3 := fun i => DB3.out.cell i
            have hlt3 := DB3.out.lt
            cases hb : busy.contains d.chain
            · have HN := Lib.hid (HGO.out.trans (by rw [P.nextGo_take HL1.out HL2.out ho hb]; simp : _ = (acc ++ [d.name]) ++ P.nextGo ls (ds.drop (k + 1)) (d.chain :: busy)))
              have HBU := Lib.hid (show false = true ↔ Busy busy (.agg #[.int .i64 d.chain]) from by rw [← busy_of, hb])
              clear ho hb
              go_wp2_with (first
                | (at_lookup; refine wpList_set_lookup rfl (.tmp 39) (.tmp 42) 71 76 rfl law1 Tryz.underlying71 (w.heap.size + 2) k _ rfl SB3.out _ _ rfl hk1 false HBU.out ?_)
                | (at_builtin; refine wpList_append_str1 rfl (.tmp 48) (.tmp 51) rfl (w.heap.size + 3) u5 acc rfl ((OB3.out.alloc _).alloc _) ⟨w3.heap.size + 1, 0, none⟩ d.name rfl (newsS1 w3 _ _ d.name) (by omega) (by simp; omega) ?_; intro o4 w4 hown4 hb4 hg4; have hdc4 := fun i => (((DB3.out.alloc (.cells #[] 74)).alloc (.cells #[.string d.name] 9)).grown hg4 (own_blk_ne ((OB3.out.alloc (.cells #[] 74)).alloc (.cells #[.string d.name] 9)) ((DB3.out.alloc (.cells #[] 74)).alloc (.cells #[.string d.name] 9)) (by decide))).cell i; have W4 := Lib.hid (((W3.out.alloc W3.out.size (.cells #[] 74)).alloc (by have := W3.out.size; simp; omega) (.cells #[.string d.name] 9)).trans (hb4.mono (by omega))); have SB4 := ((SB3.out.alloc (.cells #[] 74)).alloc (.cells #[.string d.name] 9)).below hb4 (by omega); have RB4 := Lib.hid (((RB3.out.alloc (.cells #[] 74)).alloc (.cells #[.string d.name] 9)).below hb4 (by omega)); have Z4 := Lib.hid (show w.heap.size + 3 ≤ w4.heap.size from by have := hb4.size; simp at this; omega); clear hb4 hg4)
                | (at_mapUpdate; refine wpList_set_put rfl (.tmp 53) (.tmp 56) (.tmp 57) 71 76 rfl law1 Tryz.underlying71 (w.heap.size + 2) k _ rfl SB4 (by unfold maxLen; omega) _ _ rfl rfl hk1 ?_; intro w5 hset5 hg5))
              have Z5 := Lib.hid (show w.heap.size + 3 ≤ w5.heap.size from Nat.le_trans Z4.out hg5.size)
              have OB5 := Lib.hid (hown4.grown hg5 (by omega))
              have RB5 := Lib.hid (RB4.out.grown hg5 (by simp))
              have W5 := Lib.hid (W4.out.grown hg5 W4.out.size (fun k hk => by cases hk; omega))
              clear hg5 hown4 hdc4 SB4
              go_roundw
              case rel => exact ⟨k + 1, acc ++ [d.name], d.chain :: busy, by omega, by go_num, by simp; omega, HN.out, OB5.out, hset5.say (busy_cons busy d.chain), RB5.out, Z5.out, W5.out⟩
              case measure => simp [intOf]; omega
            · have HN := Lib.hid (HGO.out.trans (by rw [P.nextGo_busy HL1.out HL2.out ho hb] : _ = acc ++ P.nextGo ls (ds.drop (k + 1)) (d.chain :: busy)))
              have HBU := Lib.hid ((busy_of busy d.chain).1 hb)
              have SB4 := SB3.out.alloc (.cells #[] 74)
              clear ho hb
              go_wp2_with (first
                | (at_lookup; refine wpList_set_lookup rfl (.tmp 39) (.tmp 42) 71 76 rfl law1 Tryz.underlying71 (w.heap.size + 2) k _ rfl SB3.out _ _ rfl hk1 true ⟨fun _ => HBU.out, fun _ => rfl⟩ ?_)
                | (at_mapUpdate; refine wpList_set_put rfl (.tmp 53) (.tmp 56) (.tmp 57) 71 76 rfl law1 Tryz.underlying71 (w.heap.size + 2) k _ rfl SB4 (by unfold maxLen; omega) _ _ rfl rfl hk1 ?_; intro w5 hset5 hg5))
              have Z5 := Lib.hid (show w.heap.size + 3 ≤ w5.heap.size from by have := hg5.size; simp at this; omega)
              have OB5 := Lib.hid ((OB3.out.alloc (.cells #[] 74)).grown hg5 (by omega))
              have RB5 := Lib.hid ((RB3.out.alloc (.cells #[] 74)).grown hg5 (by simp))
              have W5 := Lib.hid ((W3.out.alloc W3.out.size (.cells #[] 74)).grown hg5 (W3.out.alloc W3.out.size (.cells #[] 74)).size (fun k hk => by cases hk; omega))
              clear hg5 SB4
              go_roundw
              case rel => exact ⟨k + 1, acc, d.chain :: busy, by omega, by go_num, by omega, HN.out, OB5.out, hset5.say (busy_cons busy d.chain), RB5.out, Z5.out, W5.out⟩
              case measure => simp [intOf]; omega
      · have hkn : k = n := by omega
        have HN := Lib.hid (show P.next 3 ds ls = acc from by unfold P.next; rw [if_pos rfl, hgo, List.drop_eq_nil_of_le (by have := HD.out.len; omega)]; simp [P.nextGo])
        have OW := Lib.hid (hown.less (B' := w.heap.size) (by omega))
        have BW := Lib.hid hbel
        clear hkn hgo hown hset hblk hbel
        go_wp2
        go_ret
        rw [HN.out]
        exact ⟨_, rfl, OW.out, BW.out⟩
  · have t3 : (st != 3) = true := by rw [bne_iff_ne]; exact h3
    have HN := Lib.hid (show P.next st ds ls = [] from by unfold P.next; rw [if_neg h3])
    clear h3 h hd
    go_enter Tryz.func10, Tryz.ntmps10
    go_wp2
    go_ret
    rw [HN.out]
    exact ⟨_, rfl, OwnS.nil _ _, ((Below.refl _ _).alloc (Nat.le_refl _) _).alloc (by simp) _⟩
end Go.Proofs.YtemjipongehjlaaGreat
/- What slices.Contains of texts and prune.Legs return. -/
namespace Go.Proofs.YtemjipongehjlaaGreat
set_option linter.unusedVariables false
open Go.RowKit Go.BigFrame
def StrsAt (w : World) (B : Nat) (A : Option Addr) (n : Nat) (l : List ByteArray) : Prop := Reads w B 1 A n (l.map Value.string)
section
variable {w w' : World} {B n : Nat} {A : Option Addr} {l : List ByteArray}
theorem StrsAt.len (h : StrsAt w B A n l) : l.length = n := by
  have := h.1
  simpa using this
theorem StrsAt.below (h : StrsAt w B A n l) (hb : Below B w w') : StrsAt w' B A n l := Reads.below h hb
theorem StrsAt.in_ {k : Nat} (h : StrsAt w B A n l) (hk : k < n) : ∃ ad s, A = some ad ∧ ad.block < B ∧ l[k]? = some s ∧ w.cell? (ad.add k) = some (.string s) := by
  obtain ⟨ad, e, hb, hc⟩ := h.2 (by omega)
  have hl := h.len
  exact ⟨ad, l[k]'(by omega), e, hb, List.getElem?_eq_getElem (by omega), hc k _ (by rw [List.getElem?_map, List.getElem?_eq_getElem (by omega)]; rfl)⟩
theorem OwnS.reads {v : Value} (h : OwnS w B v l) : ∃ A c, v = .slice A l.length c ∧ StrsAt w w.heap.size A l.length l := by
  rcases h.2 with ⟨rfl, hn⟩ | ⟨g, cap, cur, rfl, hg, hh, r⟩
  · exact ⟨none, 0, by rw [hn], by rw [hn, List.eq_nil_of_length_eq_zero hn]; exact Reads.nil⟩
  · exact ⟨_, _, rfl, Reads.of_own h⟩
end
namespace P
def strAt (l : List ByteArray) (x : ByteArray) : Option Nat := l.findIdx? fun s => x.data.toList == s.data.toList
def strI (l : List ByteArray) (x : ByteArray) : Int := match strAt l x with | none => -1 | some k => (k : Int)
def hasS (l : List ByteArray) (x : ByteArray) : Bool := l.any fun s => x.data.toList == s.data.toList
theorem hasS_eq (l : List ByteArray) (x : ByteArray) : decide (0 ≤ strI l x) = hasS l x := by
  unfold strI strAt hasS
  cases h : l.findIdx? fun s => x.data.toList == s.data.toList with
  | none =>
    rw [List.findIdx?_eq_none_iff] at h
    have : (l.any fun s => x.data.toList == s.data.toList) = false := by rw [List.any_eq_false]; intro s hs; rw [h s hs]; simp
    rw [this]
    rfl
  | some k =>
    obtain ⟨hk, hp, _⟩ := List.findIdx?_eq_some_iff_getElem.1 h
    have : (l.any fun s => x.data.toList == s.data.toList) = true := by rw [List.any_eq_true]; exact ⟨l[k], List.getElem_mem hk, hp⟩
    rw [this]
    simp
theorem strAt_some {ls : List ByteArray} {x : ByteArray} {k : Nat} {l : ByteArray} (hl : ls[k]? = some l) (h : (x.toList == l.toList) = true) (hno : ∀ j l, j < k → ls[j]? = some l → (x.toList == l.toList) = false) : strI ls x = k := by
  have hk : k < ls.length := by
    rcases Nat.lt_or_ge k ls.length with h1 | h1
    · exact h1
    · rw [List.getElem?_eq_none h1] at hl; cases hl
  have : strAt ls x = some k := by
    unfold strAt
    rw [List.findIdx?_eq_some_iff_getElem]
    rw [List.getElem?_eq_getElem hk] at hl
    cases hl
    refine ⟨hk, by simpa [ByteArray.toList_eq] using h, fun j hj => ?_⟩
    have := hno j _ hj (List.getElem?_eq_getElem (by omega))
    simpa [ByteArray.toList_eq] using this
  unfold strI
  rw [this]
theorem strAt_none {ls : List ByteArray} {x : ByteArray} (hno : ∀ j l, j < ls.length → ls[j]? = some l → (x.toList == l.toList) = false) : strI ls x = -1 := by
  have : strAt ls x = none := by
    unfold strAt
    rw [List.findIdx?_eq_none_iff]
    intro l hl
    obtain ⟨j, hj⟩ := List.getElem?_of_mem hl
    have hjl : j < ls.length := by
      rcases Nat.lt_or_ge j ls.length with h1 | h1
      · exact h1
      · rw [List.getElem?_eq_none h1] at hj; cases hj
    have := hno j l hjl hj
    simpa [ByteArray.toList_eq] using this
  unfold strI
  rw [this]
end P
set_option maxRecDepth 100000 in
set_option maxHeartbeats 1000000 in
theorem index_any (A : Option Addr) (n c : Nat) (l : List ByteArray) (x : ByteArray) (B : Nat) (w : World) (h : StrsAt w B A n l) (hn : n ≤ maxLen) : Calls Tryz.prog 121 #[.slice A n c, .string x] w fun e w' => e = .returned (.int .i64 (P.strI l x)) ∧ w = w' := by
  unfold maxLen at hn
  have H := Lib.hid h
  clear h
  go_enter Tryz.func121, Tryz.ntmps121
  go_wp2_with fail
  go_loop [8] (fun i => ∃ k : Nat, k ≤ n ∧ i = .int .i64 k ∧ (∀ j s, j < k → l[j]? = some s → (x.toList == s.toList) = false)) (fun i => n - (intOf i).toNat)
  case atStart => exact ⟨0, by omega, rfl, fun j s hj => by omega⟩
  case round =>
    obtain ⟨k, hk, rfl, hno⟩ := hrel
    have Hno := Lib.hid hno
    clear hno
    by_cases hlt : k < n
    · obtain ⟨ad, s, rfl, hb, hl, hc⟩ := H.out.in_ hlt
      have HL := Lib.hid hl
      clear hl
      cases ht : (x.toList == s.toList)
      · have HN := Lib.hid (show ∀ j s, j < k + 1 → l[j]? = some s → (x.toList == s.toList) = false from fun j l2 hj hl2 => by
          rcases Nat.lt_or_ge j k with h1 | h1
          · exact Hno.out j l2 h1 hl2
          · have : j = k := by omega
            subst this
            rw [HL.out] at hl2
            cases hl2
            exact ht)
        go_wp2
        go_round
        case rel => exact ⟨k + 1, by omega, by go_num, HN.out⟩
        case measure => simp [intOf]; omega
      · have HT := Lib.hid (P.strAt_some HL.out ht Hno.out)
        go_wp2
        go_ret
        rw [HT.out]
        exact ⟨rfl, rfl⟩
    · have HT := Lib.hid (P.strAt_none (ls := l) (x := x) (fun j l hj hl => Hno.out j l (by have := H.out.len; omega) hl))
      go_wp2
      go_ret
      rw [HT.out]
      exact ⟨rfl, rfl⟩
set_option maxRecDepth 100000 in
set_option maxHeartbeats 1000000 in
theorem contains_any (A : Option Addr) (n c : Nat) (l : List ByteArray) (x : ByteArray) (B : Nat) (w : World) (h : StrsAt w B A n l) (hn : n ≤ maxLen) : Calls Tryz.prog 30 #[.slice A n c, .string x] w fun e w' => e = .returned (.bool (P.hasS l x)) ∧ w = w' := by
  have K := Lib.hid (index_any A n c l x B w h hn)
  have HS := Lib.hid (P.hasS_eq l x)
  clear h
  generalize P.strI l x = i at *
  go_enter Tryz.func30, Tryz.ntmps30
  go_wp2_with fail
  refine K.out.mono ?_
  rintro e w2 ⟨rfl, rfl⟩
  go_wp2
  go_ret
  rw [← HS.out]
  exact ⟨rfl, rfl⟩
/-- Legs that the call itself has gathered. -/
def OwnL (w : World) (B : Nat) (v : Value) (l : List P.Leg) : Prop := w.ownsRow B 69 6 v l.length (l.flatMap P.Leg.cells)
theorem infoLeg : (Tryz.prog.info? 69).map (fun i => (i.zero, i.size, i.bytes)) = some (some (.agg #[.string ByteArray.empty, .int .i64 0, .int .i64 0, .int .i64 0, .string ByteArray.empty, .string ByteArray.empty]), 6, 72) := by kernel_rfl
theorem leg_one (l : P.Leg) : ∀ u ∈ l.cells, u.oneCell' = true := by
  intro u hu
  simp [P.Leg.cells] at hu
  rcases hu with rfl | rfl | rfl | rfl | rfl | rfl <;> rfl
section
variable {w w' : World} {B B' : Nat} {v : Value} {l : List P.Leg}
theorem OwnL.nil (w : World) (B : Nat) : OwnL w B (.slice none 0 0) [] := World.ownsRow_nil _ _ _ _
theorem OwnL.alloc (h : OwnL w B v l) (o : Obj) : OwnL (w.alloc o) B v l := World.ownsRow.alloc h o
theorem OwnL.below {C : Nat} (h : OwnL w B v l) (hb : Below C w w') (hC : w.heap.size ≤ C) : OwnL w' B v l := by
  obtain ⟨h1, h2⟩ := h
  refine ⟨h1, ?_⟩
  rcases h2 with h2 | ⟨g, cap, cur, hv, hg, hh, r⟩
  · exact .inl h2
  · have hlt : g < w.heap.size := by
      rcases Nat.lt_or_ge g w.heap.size with h | h
      · exact h
      · rw [Array.getElem?_eq_none h] at hh; cases hh
    exact .inr ⟨g, cap, cur, hv, hg, by rw [hb.block g (by omega)]; exact hh, r⟩
theorem OwnL.less (h : OwnL w B v l) (hB : B' ≤ B) : OwnL w B' v l := by
  obtain ⟨h1, h2⟩ := h
  refine ⟨h1, ?_⟩
  rcases h2 with h2 | ⟨g, cap, cur, hv, hg, r⟩
  · exact .inl h2
  · exact .inr ⟨g, cap, cur, hv, Nat.le_trans hB hg, r⟩
theorem newsL (w : World) (t : TypeId) (l : P.Leg) : ∀ j u, l.cells[j]? = some u → (w.alloc (.cells #[.string l.name, .int .i64 l.status, .int .i64 l.tries, .int .i64 l.due, .string l.payload, .string l.reply] t)).cell? ((⟨w.heap.size, 0, none⟩ : Addr).add j) = some u := by
  intro j u hu
  rw [Addr.add_lit, Nat.zero_add, (Blk.new w t #[.string l.name, .int .i64 l.status, .int .i64 l.tries, .int .i64 l.due, .string l.payload, .string l.reply]).cell, show (#[.string l.name, .int .i64 l.status, .int .i64 l.tries, .int .i64 l.due, .string l.payload, .string l.reply] : Array Value) = l.cells.toArray from rfl, List.getElem?_toArray]
  exact hu
theorem wpList_append_leg1 {w : World} {ops : Array Oper} {rest : List Oper} {o : Oper} {a : Act} {Q : Exit → Act → World → Prop} (hgd : o.guard = none) (s x : Operand)
    (ho : o.op = .call { callee := .builtin .append, args := #[s, x], argTypes := #[26, 26] })
    (B : Nat) (v : Value) (l : List P.Leg) (hs : a.eval s = v) (hown : OwnL w B v l)
    (ad : Addr) (u : P.Leg) (hx : a.eval x = .slice (some ad) 1 1) (hnews : ∀ j z, u.cells[j]? = some z → w.cell? (ad.add j) = some z)
    (hbytes : l.length + 1 ≤ 1099511627777) (hbase : B ≤ w.heap.size)
    (h : ∀ v' w', OwnL w' B v' (l ++ [u]) → Below B w w' → w.grownBy w' v.ownBlock → wpList Tryz.prog ops Q rest (a.put o.dst v') w') : wpList Tryz.prog ops Q (o :: rest) a w := by
  obtain ⟨i, hi, hz, hs1, hb1⟩ := info_parts infoLeg
  refine wpList_append_own w hgd s x 26 ho B 69 i _ 6 72 Tryz.underlying26 hi hz hs1 hb1 rfl (by omega) v l.length (l.flatMap P.Leg.cells) hs hown ad 1 1 u.cells hx (by rw [leg_len])
    hnews (leg_one u) (by unfold maxLen; omega) (by omega) hbase ?_
  intro v' w' hown' hg _
  refine h v' w' ?_ ((Below.refl _ _).grown hg hbase (fun k hk => (World.ownsRow.lt hown k hk).1)) hg
  unfold OwnL
  rw [List.length_append, List.flatMap_append, List.flatMap_cons, List.flatMap_nil, List.append_nil]
  exact hown'
end
end Go.Proofs.YtemjipongehjlaaGreat
/- What prune.Legs, bits.Add, slices.Clone of legs, prune.copied return. -/
namespace Go.Proofs.YtemjipongehjlaaGreat
set_option linter.unusedVariables false
open Go.RowKit Go.BigFrame
namespace P
/-- Counts added. -/
def add (a b : Int) : Int := if max a 0 > 9223372036854775807 - max b 0 then 9223372036854775807 else max a 0 + max b 0
def meant (routes : List ByteArray) (d : Dest) : Bool := routes.isEmpty || hasS routes d.name
def legOf (routes : List ByteArray) (payload : ByteArray) (d : Dest) : Leg := if meant routes d = true then ⟨d.name, 1, 0, 0, payload, ⟨#[]⟩⟩ else ⟨d.name, 0, 0, 0, ⟨#[]⟩, ⟨#[]⟩⟩
def legsOf (ds : List Dest) (routes : List ByteArray) (payload : ByteArray) : List Leg := ds.map (legOf routes payload)
end P
set_option maxHeartbeats 400000 in
set_option maxRecDepth 20000 in
theorem add_any (a b : Int) (w : World) (ha : -9223372036854775808 ≤ a) (ha' : a ≤ 9223372036854775807) (hb : -9223372036854775808 ≤ b) (hb' : b ≤ 9223372036854775807) :
    Calls Tryz.prog 127 #[.int .i64 a, .int .i64 b] w fun e w' => e = .returned (.int .i64 (P.add a b)) ∧ w = w' := by
  have ea : max a 0 = if a < 0 then 0 else a := by omega
  have eb : max b 0 = if b < 0 then 0 else b := by omega
  have hp : P.add a b = if (if a < 0 then 0 else a) > 9223372036854775807 - (if b < 0 then 0 else b) then 9223372036854775807 else (if a < 0 then 0 else a) + (if b < 0 then 0 else b) := by rw [P.add, ea, eb]
  clear ea eb
  have HP := Lib.hid hp
  clear hp
  by_cases h1 : a < 0 <;> by_cases h2 : b < 0 <;>
  (by_cases h3 : (if a < 0 then 0 else a) > 9223372036854775807 - (if b < 0 then 0 else b)) <;>
  (simp only [h1, h2, if_true, if_false] at h3) <;>
  (go_enter Tryz.func127, Tryz.ntmps127
   go_wp2
   all_goals (go_ret; rw [HP.out]; first | (simp [h1, h2]; done) | (simp [h1, h2]; omega)))
/-- The call hands back legs of its own; what was there stands. -/
def GivesL (w : World) (l : List P.Leg) (x : Ending) (w' : World) : Prop := ∃ v, x = .returned v ∧ OwnL w' w.heap.size v l ∧ Below w.heap.size w w'
theorem newsL1 (w : World) (l : P.Leg) (t : TypeId) (o : Obj) : ∀ j u, l.cells[j]? = some u → ((w.alloc o).alloc (.cells #[.string l.name, .int .i64 l.status, .int .i64 l.tries, .int .i64 l.due, .string l.payload, .string l.reply] t)).cell? ((⟨w.heap.size + 1, 0, none⟩ : Addr).add j) = some u := by
  have := newsL (w.alloc o) t l
  rw [show (w.alloc o).heap.size = w.heap.size + 1 from by simp] at this
  exact this
theorem newsL2 (w : World) (l : P.Leg) (t : TypeId) (o o' : Obj) : ∀ j u, l.cells[j]? = some u → (((w.alloc o).alloc o').alloc (.cells #[.string l.name, .int .i64 l.status, .int .i64 l.tries, .int .i64 l.due, .string l.payload, .string l.reply] t)).cell? ((⟨w.heap.size + 2, 0, none⟩ : Addr).add j) = some u := by
  have := newsL ((w.alloc o).alloc o') t l
  rw [show ((w.alloc o).alloc o').heap.size = w.heap.size + 2 from by simp] at this
  exact this
set_option maxRecDepth 100000 in
set_option maxHeartbeats 4000000 in
theorem legs_any (cn cd cpre cfil ctr : ByteArray) (cf : Bool) (cpt crt : Int) (D : Option Addr) (n dc : Nat) (ds : List P.Dest) (RA : Option Addr) (rn rc : Nat) (routes : List ByteArray) (payload : ByteArray) (B : Nat) (w : World)
    (hd : DestsAt w B D n ds) (hr : StrsAt w B RA rn routes) (hB : B ≤ w.heap.size) (hn : n ≤ 1099511627776) (hrn : rn ≤ maxLen) :
    Calls Tryz.prog 9 #[.agg #[.string cn, .bool cf, .int .i64 cpt, .string cd, .string cpre, .string cfil, .string ctr, .slice D n dc, .int .i64 crt], .slice RA rn rc, .string payload] w (GivesL w (P.legsOf ds routes payload)) := by
  have HD := Lib.hid hd
  have HR := Lib.hid hr
  have HW := Lib.hid ((Below.refl w.heap.size w).alloc (Nat.le_refl _) (.cells #[.string cn, .bool cf, .int .i64 cpt, .string cd, .string cpre, .string cfil, .string ctr, .slice D n dc, .int .i64 crt] 24))
  clear hd hr
  go_enter Tryz.func9, Tryz.ntmps9
  go_wp2_with fail
  go_loopw [7, 14] (fun o x wr => ∃ (k : Nat), k ≤ n ∧ x = .int .i64 k ∧ OwnL wr (w.heap.size + 1) o (P.legsOf (ds.take k) routes payload) ∧ w.heap.size + 1 ≤ wr.heap.size ∧ Below w.heap.size w wr) (fun _ x _ => n - (intOf x).toNat)
  case atStart => exact ⟨0, by omega, rfl, OwnL.nil _ _, by simp, HW.out⟩
  case round =>
    obtain ⟨k, hk, rfl, hown, hsz, hbel⟩ := hrel
    by_cases hlt : k < n
    · obtain ⟨ad, d, rfl, hdb, hdk, hdc⟩ := (HD.out.below (hbel.mono hB)).in_ hlt
      have HS := Lib.hid (show P.legsOf (ds.take (k + 1)) routes payload = P.legsOf (ds.take k) routes payload ++ [P.legOf routes payload d] from by
        unfold P.legsOf
        rw [List.take_add_one, hdk, List.map_append]
        rfl)
      have hlen : (P.legsOf (ds.take k) routes payload).length = k := by unfold P.legsOf; rw [List.length_map, List.length_take, Nat.min_eq_left (by have := HD.out.len; omega)]
      have HLN := Lib.hid hlen
      obtain ⟨c0, c1, c2, c3, c4, c5, c6, c7, c8⟩ := hdc
      have DB := Lib.hid (Blk.new wr 67 #[.string d.name, .int .i64 d.chain, .bool d.file, .int .i64 d.port, .string d.dir, .int .i64 d.retry, .int .i64 d.backoff, .int .i64 d.timeout, .string d.response])
      have RR := Lib.hid (fun W (hW : Below w.heap.size w W) => contains_any RA rn rc routes d.name B W (HR.out.below (hW.mono hB)) hrn)
      clear hdk hlen
      generalize P.legsOf (ds.take k) routes payload = acc at *
      have key : (P.legOf routes payload d = ⟨d.name, 1, 0, 0, payload, ⟨#[]⟩⟩ ∧ ((rn == 0) = true ∨ ((rn == 0) = false ∧ P.hasS routes d.name = true))) ∨ (P.legOf routes payload d = ⟨d.name, 0, 0, 0, ⟨#[]⟩, ⟨#[]⟩⟩ ∧ (rn == 0) = false ∧ P.hasS routes d.name = false) := by
        have hl := HR.out.len
        unfold P.legOf P.meant
        cases hh : P.hasS routes d.name <;> rcases routes with _ | ⟨r0, rs⟩ <;> simp at hl <;> simp [← hl]
      rcases key with ⟨he, t1 | ⟨t1, t2⟩⟩ | ⟨he, t1, t2⟩
      · have HE := Lib.hid he
        have t1' : ((rn : Int) == 0) = true := by have : rn = 0 := by simpa using t1
                                                  rw [this]; rfl
        clear he
        go_wp2_with (at_builtin; refine wpList_append_leg1 rfl (.tmp 33) (.tmp 35) rfl (w.heap.size + 1) u7 acc rfl (((hown.alloc (.cells #[.string d.name, .int .i64 d.chain, .bool d.file, .int .i64 d.port, .string d.dir, .int .i64 d.retry, .int .i64 d.backoff, .int .i64 d.timeout, .string d.response] 67)).alloc (.cells #[.string d.name, .int .i64 1, .int .i64 0, .int .i64 0, .string payload, .string ⟨#[]⟩] 69)).alloc (.cells #[.string d.name, .int .i64 1, .int .i64 0, .int .i64 0, .string payload, .string ⟨#[]⟩] 69)) ⟨wr.heap.size + 2, 0, none⟩ ⟨d.name, 1, 0, 0, payload, ⟨#[]⟩⟩ rfl (newsL2 wr ⟨d.name, 1, 0, 0, payload, ⟨#[]⟩⟩ 69 (.cells #[.string d.name, .int .i64 d.chain, .bool d.file, .int .i64 d.port, .string d.dir, .int .i64 d.retry, .int .i64 d.backoff, .int .i64 d.timeout, .string d.response] 67) (.cells #[.string d.name, .int .i64 1, .int .i64 0, .int .i64 0, .string payload, .string ⟨#[]⟩] 69)) (by have := HLN.out; omega) (by simp; omega) ?_; intro o4 w4 hown4 hb4 hg4)
        have W4 := Lib.hid ((((hbel.alloc hbel.size (.cells #[.string d.name, .int .i64 d.chain, .bool d.file, .int .i64 d.port, .string d.dir, .int .i64 d.retry, .int .i64 d.backoff, .int .i64 d.timeout, .string d.response] 67)).alloc (by have := hbel.size; simp; omega) (.cells #[.string d.name, .int .i64 1, .int .i64 0, .int .i64 0, .string payload, .string ⟨#[]⟩] 69)).alloc (by have := hbel.size; simp; omega) (.cells #[.string d.name, .int .i64 1, .int .i64 0, .int .i64 0, .string payload, .string ⟨#[]⟩] 69)).trans (hb4.mono (by omega)))
        have Z4 := Lib.hid (show w.heap.size + 1 ≤ w4.heap.size from by have := hb4.size; simp at this; omega)
        clear hb4 hg4
        go_wp2
        go_roundw
        case rel => exact ⟨k + 1, by omega, by go_num, by rw [HS.out, HE.out]; exact hown4, Z4.out, W4.out⟩
        case measure => simp [intOf]; omega
      · have HE := Lib.hid he
        have t1' : ((rn : Int) == 0) = false := by rw [beq_eq_false_iff_ne] at t1 ⊢; omega
        rw [t2] at RR
        clear he t2
        go_wp2_with fail
        refine (RR.out _ ((hbel.alloc hbel.size (.cells #[.string d.name, .int .i64 d.chain, .bool d.file, .int .i64 d.port, .string d.dir, .int .i64 d.retry, .int .i64 d.backoff, .int .i64 d.timeout, .string d.response] 67)).alloc (by have := hbel.size; simp; omega) (.cells #[.string d.name, .int .i64 0, .int .i64 0, .int .i64 0, .string ⟨#[]⟩, .string ⟨#[]⟩] 69))).mono ?_
        rintro x w2 ⟨rfl, rfl⟩
        go_wp2_with (at_builtin; refine wpList_append_leg1 rfl (.tmp 33) (.tmp 35) rfl (w.heap.size + 1) u7 acc rfl (((hown.alloc (.cells #[.string d.name, .int .i64 d.chain, .bool d.file, .int .i64 d.port, .string d.dir, .int .i64 d.retry, .int .i64 d.backoff, .int .i64 d.timeout, .string d.response] 67)).alloc (.cells #[.string d.name, .int .i64 1, .int .i64 0, .int .i64 0, .string payload, .string ⟨#[]⟩] 69)).alloc (.cells #[.string d.name, .int .i64 1, .int .i64 0, .int .i64 0, .string payload, .string ⟨#[]⟩] 69)) ⟨wr.heap.size + 2, 0, none⟩ ⟨d.name, 1, 0, 0, payload, ⟨#[]⟩⟩ rfl (newsL2 wr ⟨d.name, 1, 0, 0, payload, ⟨#[]⟩⟩ 69 (.cells #[.string d.name, .int .i64 d.chain, .bool d.file, .int .i64 d.port, .string d.dir, .int .i64 d.retry, .int .i64 d.backoff, .int .i64 d.timeout, .string d.response] 67) (.cells #[.string d.name, .int .i64 1, .int .i64 0, .int .i64 0, .string payload, .string ⟨#[]⟩] 69)) (by have := HLN.out; omega) (by simp; omega) ?_; intro o4 w4 hown4 hb4 hg4)
        have W4 := Lib.hid ((((hbel.alloc hbel.size (.cells #[.string d.name, .int .i64 d.chain, .bool d.file, .int .i64 d.port, .string d.dir, .int .i64 d.retry, .int .i64 d.backoff, .int .i64 d.timeout, .string d.response] 67)).alloc (by have := hbel.size; simp; omega) (.cells #[.string d.name, .int .i64 1, .int .i64 0, .int .i64 0, .string payload, .string ⟨#[]⟩] 69)).alloc (by have := hbel.size; simp; omega) (.cells #[.string d.name, .int .i64 1, .int .i64 0, .int .i64 0, .string payload, .string ⟨#[]⟩] 69)).trans (hb4.mono (by omega)))
        have Z4 := Lib.hid (show w.heap.size + 1 ≤ w4.heap.size from by have := hb4.size; simp at this; omega)
        clear hb4 hg4
        go_wp2
        go_roundw
        case rel => exact ⟨k + 1, by omega, by go_num, by rw [HS.out, HE.out]; exact hown4, Z4.out, W4.out⟩
        case measure => simp [intOf]; omega
      · have HE := Lib.hid he
        have t1' : ((rn : Int) == 0) = false := by rw [beq_eq_false_iff_ne] at t1 ⊢; omega
        rw [t2] at RR
        clear he t2
        go_wp2_with fail
        refine (RR.out _ ((hbel.alloc hbel.size (.cells #[.string d.name, .int .i64 d.chain, .bool d.file, .int .i64 d.port, .string d.dir, .int .i64 d.retry, .int .i64 d.backoff, .int .i64 d.timeout, .string d.response] 67)).alloc (by have := hbel.size; simp; omega) (.cells #[.string d.name, .int .i64 0, .int .i64 0, .int .i64 0, .string ⟨#[]⟩, .string ⟨#[]⟩] 69))).mono ?_
        rintro x w2 ⟨rfl, rfl⟩
        go_wp2_with (at_builtin; refine wpList_append_leg1 rfl (.tmp 33) (.tmp 35) rfl (w.heap.size + 1) u7 acc rfl (((hown.alloc (.cells #[.string d.name, .int .i64 d.chain, .bool d.file, .int .i64 d.port, .string d.dir, .int .i64 d.retry, .int .i64 d.backoff, .int .i64 d.timeout, .string d.response] 67)).alloc (.cells #[.string d.name, .int .i64 0, .int .i64 0, .int .i64 0, .string ⟨#[]⟩, .string ⟨#[]⟩] 69)).alloc (.cells #[.string d.name, .int .i64 0, .int .i64 0, .int .i64 0, .string ⟨#[]⟩, .string ⟨#[]⟩] 69)) ⟨wr.heap.size + 2, 0, none⟩ ⟨d.name, 0, 0, 0, ⟨#[]⟩, ⟨#[]⟩⟩ rfl (newsL2 wr ⟨d.name, 0, 0, 0, ⟨#[]⟩, ⟨#[]⟩⟩ 69 (.cells #[.string d.name, .int .i64 d.chain, .bool d.file, .int .i64 d.port, .string d.dir, .int .i64 d.retry, .int .i64 d.backoff, .int .i64 d.timeout, .string d.response] 67) (.cells #[.string d.name, .int .i64 0, .int .i64 0, .int .i64 0, .string ⟨#[]⟩, .string ⟨#[]⟩] 69)) (by have := HLN.out; omega) (by simp; omega) ?_; intro o4 w4 hown4 hb4 hg4)
        have W4 := Lib.hid ((((hbel.alloc hbel.size (.cells #[.string d.name, .int .i64 d.chain, .bool d.file, .int .i64 d.port, .string d.dir, .int .i64 d.retry, .int .i64 d.backoff, .int .i64 d.timeout, .string d.response] 67)).alloc (by have := hbel.size; simp; omega) (.cells #[.string d.name, .int .i64 0, .int .i64 0, .int .i64 0, .string ⟨#[]⟩, .string ⟨#[]⟩] 69)).alloc (by have := hbel.size; simp; omega) (.cells #[.string d.name, .int .i64 0, .int .i64 0, .int .i64 0, .string ⟨#[]⟩, .string ⟨#[]⟩] 69)).trans (hb4.mono (by omega)))
        have Z4 := Lib.hid (show w.heap.size + 1 ≤ w4.heap.size from by have := hb4.size; simp at this; omega)
        clear hb4 hg4
        go_wp2
        go_roundw
        case rel => exact ⟨k + 1, by omega, by go_num, by rw [HS.out, HE.out]; exact hown4, Z4.out, W4.out⟩
        case measure => simp [intOf]; omega
    · have hkn : k = n := by omega
      have HN := Lib.hid (show P.legsOf (ds.take k) routes payload = P.legsOf ds routes payload from by rw [List.take_of_length_le (by have := HD.out.len; omega)])
      have OW := Lib.hid (hown.less (B' := w.heap.size) (by omega))
      have BW := Lib.hid hbel
      clear hkn hown hbel
      go_wp2
      go_ret
      rw [← HN.out]
      exact ⟨_, rfl, OW.out, BW.out⟩
end Go.Proofs.YtemjipongehjlaaGreat
