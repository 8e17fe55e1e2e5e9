/- What prune.Next returns: the destinations whose legs may be gone now. -/
import Derived.Test.YtjbhlojfmcldjabPr2
import Derived.Test.YtjbhlojfmcldjabSets
namespace Go.Proofs.Ytjbhlojfmcldjab
set_option linter.unusedVariables false
open Go.RowKit Go.BigFrame
namespace P
theorem legI_cases (ls : List Leg) (name : ByteArray) : (legAt ls name = none ∧ legI ls name = -1) ∨ ∃ (j : Nat) (l : Leg), legAt ls name = some j ∧ legI ls name = (j : Int) ∧ j < ls.length ∧ ls[j]? = some l ∧ (l.name.data.toList == name.data.toList) = true := by
  unfold legI
  cases h : legAt ls name with
  | none => exact Or.inl ⟨rfl, rfl⟩
  | some j =>
    have h2 := h
    unfold legAt at h2
    obtain ⟨hj, hp, _⟩ := List.findIdx?_eq_some_iff_getElem.1 h2
    exact Or.inr ⟨j, ls[j], rfl, rfl, hj, List.getElem?_eq_getElem hj, hp⟩
theorem nextGo_skip0 {ls : List Leg} {d : Dest} {ds : List Dest} {busy : List Int} (h : legAt ls d.name = none) : nextGo ls (d :: ds) busy = nextGo ls ds busy := by
  rw [nextGo, h]
theorem nextGo_skip1 {ls : List Leg} {d : Dest} {ds : List Dest} {busy : List Int} {j : Nat} {l : Leg} (h : legAt ls d.name = some j) (hl : ls[j]? = some l) (ho : l.isOpen = false) : nextGo ls (d :: ds) busy = nextGo ls ds busy := by
  rw [nextGo, h]
  simp [hl, ho]
theorem nextGo_busy {ls : List Leg} {d : Dest} {ds : List Dest} {busy : List Int} {j : Nat} {l : Leg} (h : legAt ls d.name = some j) (hl : ls[j]? = some l) (ho : l.isOpen = true) (hb : busy.contains d.chain = true) : nextGo ls (d :: ds) busy = nextGo ls ds (d.chain :: busy) := by
  rw [nextGo, h]
  simp only [hl, ho, hb, if_true]
theorem nextGo_take {ls : List Leg} {d : Dest} {ds : List Dest} {busy : List Int} {j : Nat} {l : Leg} (h : legAt ls d.name = some j) (hl : ls[j]? = some l) (ho : l.isOpen = true) (hb : busy.contains d.chain = false) : nextGo ls (d :: ds) busy = d.name :: nextGo ls ds (d.chain :: busy) := by
  rw [nextGo, h]
  simp only [hl, ho, hb, if_true]
  rfl
theorem drop_at {α : Type} {l : List α} {k : Nat} {x : α} (h : l[k]? = some x) : l.drop k = x :: l.drop (k + 1) := by
  have hk : k < l.length := by
    rcases Nat.lt_or_ge k l.length with h1 | h1
    · exact h1
    · rw [List.getElem?_eq_none h1] at h; cases h
  rw [List.getElem?_eq_getElem hk] at h
  cases h
  exact List.drop_eq_getElem_cons hk
end P
def Busy (busy : List Int) (z : Value) : Prop := ∃ c, c ∈ busy ∧ z = .agg #[.int .i64 c]
theorem busy_of (busy : List Int) (c : Int) : busy.contains c = true ↔ Busy busy (.agg #[.int .i64 c]) := by
  unfold Busy
  constructor
  · intro h
    exact ⟨c, by simpa using h, rfl⟩
  · rintro ⟨c', h, e⟩
    cases e
    simpa using h
theorem busy_cons (busy : List Int) (c : Int) (z : Value) : (z = .agg #[.int .i64 c] ∨ Busy busy z) ↔ Busy (c :: busy) z := by
  unfold Busy
  constructor
  · rintro (h | ⟨c', h, e⟩)
    · exact ⟨c, by simp, h⟩
    · exact ⟨c', by simp [h], e⟩
  · rintro ⟨c', h, e⟩
    rcases List.mem_cons.1 h with h | h
    · subst h; exact Or.inl e
    · exact Or.inr ⟨c', h, e⟩
theorem newsS1 (w : World) (o : Obj) (t : TypeId) (s : ByteArray) : ∀ j u, [s][j]? = some u → ((w.alloc o).alloc (.cells #[.string s] t)).cell? ((⟨w.heap.size + 1, 0, none⟩ : Addr).add j) = some (Value.string u) := by
  have := newsS (w.alloc o) t s
  rw [show (w.alloc o).heap.size = w.heap.size + 1 from by simp] at this
  exact this
/-- The call hands back texts of its own; what was there stands. -/
def GivesS (w : World) (l : List ByteArray) (x : Ending) (w' : World) : Prop := ∃ v, x = .returned v ∧ OwnS w' w.heap.size v l ∧ Below w.heap.size w w'
theorem OwnS.less {w : World} {B B' : Nat} {v : Value} {l : List ByteArray} (h : OwnS w B v l) (hB : B' ≤ B) : OwnS w B' v l := by
  obtain ⟨h1, h2⟩ := h
  refine ⟨h1, ?_⟩
  rcases h2 with h2 | ⟨g, cap, cur, hv, hg, r⟩
  · exact .inl h2
  · exact .inr ⟨g, cap, cur, hv, Nat.le_trans hB hg, r⟩
set_option maxRecDepth 100000 in
set_option maxHeartbeats 4000000 in
theorem next_any (id run tm st dn flt : Int) (raw : ByteArray) (A : Option Addr) (m cp : Nat) (ls : List P.Leg) (cn cd cpre cfil ctr : ByteArray) (cf : Bool) (cpt crt : Int) (D : Option Addr) (n dc : Nat) (ds : List P.Dest) (B : Nat) (w : World)
    (h : LegsAt w B A m ls) (hd : DestsAt w B D n ds) (hB : B ≤ w.heap.size) (hm : m ≤ maxLen) (hn : n ≤ 1099511627776) (hw : ∀ d ∈ ds, (Lit.int .i64 d.chain).wf = true) :
    Calls Try.prog 9 #[.agg #[.string cn, .bool cf, .int .i64 cpt, .string cd, .string cpre, .string cfil, .string ctr, .slice D n dc, .int .i64 crt], .agg #[.int .i64 id, .int .i64 run, .int .i64 tm, .int .i64 st, .int .i64 dn, .string raw, .int .i64 flt, .slice A m cp]] w (GivesS w (P.next st ds ls)) := by
  have hmm := @run_makeMap Try.prog
  by_cases h3 : st = 3
  · subst h3
    have H := Lib.hid h
    have HD := Lib.hid hd
    have HW := Lib.hid hw
    have hr : (((w.alloc (.cells #[.string cn, .bool cf, .int .i64 cpt, .string cd, .string cpre, .string cfil, .string ctr, .slice D n dc, .int .i64 crt] 24)).alloc (.cells #[.int .i64 id, .int .i64 run, .int .i64 tm, .int .i64 3, .int .i64 dn, .string raw, .int .i64 flt, .slice A m cp] 33)).alloc (.map #[] 0)).heap.size = w.heap.size + 3 := by simp
    have hblk := (Blk.new (w.alloc (.cells #[.string cn, .bool cf, .int .i64 cpt, .string cd, .string cpre, .string cfil, .string ctr, .slice D n dc, .int .i64 crt] 24)) 33 #[.int .i64 id, .int .i64 run, .int .i64 tm, .int .i64 3, .int .i64 dn, .string raw, .int .i64 flt, .slice A m cp]).alloc (.map #[] 0)
    rw [show (w.alloc (.cells #[.string cn, .bool cf, .int .i64 cpt, .string cd, .string cpre, .string cfil, .string ctr, .slice D n dc, .int .i64 crt] 24)).heap.size = w.heap.size + 1 from by simp] at hblk
    have hset := SetIs.made ((w.alloc (.cells #[.string cn, .bool cf, .int .i64 cpt, .string cd, .string cpre, .string cfil, .string ctr, .slice D n dc, .int .i64 crt] 24)).alloc (.cells #[.int .i64 id, .int .i64 run, .int .i64 tm, .int .i64 3, .int .i64 dn, .string raw, .int .i64 flt, .slice A m cp] 33)) 57
    rw [show ((w.alloc (.cells #[.string cn, .bool cf, .int .i64 cpt, .string cd, .string cpre, .string cfil, .string ctr, .slice D n dc, .int .i64 crt] 24)).alloc (.cells #[.int .i64 id, .int .i64 run, .int .i64 tm, .int .i64 3, .int .i64 dn, .string raw, .int .i64 flt, .slice A m cp] 33)).heap.size = w.heap.size + 2 from by simp] at hset
    have BK := Lib.hid hblk
    have ST := Lib.hid (hset.say (S' := Busy []) (fun v => by simp [Busy]))
    have BB := Lib.hid ((((Below.refl w.heap.size w).alloc (Nat.le_refl _) (.cells #[.string cn, .bool cf, .int .i64 cpt, .string cd, .string cpre, .string cfil, .string ctr, .slice D n dc, .int .i64 crt] 24)).alloc (by simp) (.cells #[.int .i64 id, .int .i64 run, .int .i64 tm, .int .i64 3, .int .i64 dn, .string raw, .int .i64 flt, .slice A m cp] 33)).alloc (by simp; omega) (.map #[] 0))
    have HR := Lib.hid hr
    clear h hd hw hr hblk hset
    go_enter Try.func9, Try.ntmps9
    go_wp2_with fail
    go_loopw [5, 19] (fun o x wr => ∃ (k : Nat) (acc : List ByteArray) (busy : List Int), k ≤ n ∧ x = .int .i64 k ∧ acc.length ≤ k ∧ P.nextGo ls ds [] = acc ++ P.nextGo ls (ds.drop k) busy ∧ OwnS wr (w.heap.size + 3) o acc ∧ SetIs wr 57 (w.heap.size + 2) k (Busy busy) ∧ Blk wr (w.heap.size + 1) 33 #[.int .i64 id, .int .i64 run, .int .i64 tm, .int .i64 3, .int .i64 dn, .string raw, .int .i64 flt, .slice A m cp] ∧ w.heap.size + 3 ≤ wr.heap.size ∧ Below w.heap.size w wr) (fun _ x _ => n - (intOf x).toNat)
    case atStart => exact ⟨0, [], [], by omega, rfl, by simp, rfl, OwnS.nil _ _, ST.out, BK.out, by rw [HR.out]; omega, BB.out⟩
    case round =>
      obtain ⟨k, acc, busy, hk, rfl, hacc, hgo, hown, hset, hblk, hsz, hbel⟩ := hrel
      by_cases hlt : k < n
      · obtain ⟨ad, d, rfl, hdb, hdk, hdc⟩ := (HD.out.below (hbel.mono hB)).in_ hlt
        have hwf := HW.out d (List.mem_of_getElem? hdk)
        have hk1 := key1 hwf
        have HGO := Lib.hid (show P.nextGo ls ds [] = acc ++ P.nextGo ls (d :: ds.drop (k + 1)) busy from by rw [hgo, P.drop_at hdk])
        obtain ⟨c0, c1, c2, c3, c4, c5, c6, c7, c8⟩ := hdc
        have DB := Lib.hid (Blk.new wr 43 #[.string d.name, .int .i64 d.chain, .bool d.file, .int .i64 d.port, .string d.dir, .int .i64 d.retry, .int .i64 d.backoff, .int .i64 d.timeout, .string d.response])
        have W1 := Lib.hid (hbel.alloc hbel.size (.cells #[.string d.name, .int .i64 d.chain, .bool d.file, .int .i64 d.port, .string d.dir, .int .i64 d.retry, .int .i64 d.backoff, .int .i64 d.timeout, .string d.response] 43))
        have RB := Lib.hid (hblk.alloc (.cells #[.string d.name, .int .i64 d.chain, .bool d.file, .int .i64 d.port, .string d.dir, .int .i64 d.retry, .int .i64 d.backoff, .int .i64 d.timeout, .string d.response] 43))
        have SB := Lib.hid (hset.alloc (.cells #[.string d.name, .int .i64 d.chain, .bool d.file, .int .i64 d.port, .string d.dir, .int .i64 d.retry, .int .i64 d.backoff, .int .i64 d.timeout, .string d.response] 43))
        have OB := Lib.hid (hown.alloc (.cells #[.string d.name, .int .i64 d.chain, .bool d.file, .int .i64 d.port, .string d.dir, .int .i64 d.retry, .int .i64 d.backoff, .int .i64 d.timeout, .string d.response] 43))
        have hrc := fun i => RB.out.cell i
        have LC := Lib.hid (fun W (hW : Below w.heap.size w W) => leg_any id run tm 3 dn flt raw A m cp ls d.name B W (H.out.below (hW.mono hB)) (Nat.le_trans hB hW.size) hm)
        clear hgo hdk hwf hbel hown hset hblk
        go_wp2_with fail
        refine (LC.out _ W1.out).mono ?_
        rintro x w2 ⟨rfl, hb2⟩
        have W2 := Lib.hid (W1.out.trans (hb2.mono W1.out.size))
        have DB2 := Lib.hid (DB.out.below hb2 DB.out.lt)
        have RB2 := Lib.hid (RB.out.below hb2 RB.out.lt)
        have SB2 := Lib.hid (SB.out.below hb2 SB.out.lt)
        have OB2 := Lib.hid (OB.out.below hb2 (Nat.le_refl _))
        have Z2 : w.heap.size + 3 ≤ w2.heap.size := by have := hb2.size; simp at this; omega
        clear hb2 hrc c0 c1 c2 c3 c4 c5 c6 c7 c8
        rcases P.legI_cases ls d.name with ⟨l1, l2⟩ | ⟨j, l, l1, l2, hj, hl, -⟩
        · have HN := Lib.hid (HGO.out.trans (by rw [P.nextGo_skip0 l1] : _ = acc ++ P.nextGo ls (ds.drop (k + 1)) busy))
          rw [l2]
          clear l1 l2
          go_wp2
          go_roundw
          case rel => exact ⟨k + 1, acc, busy, by omega, by go_num, by omega, HN.out, OB2.out, SB2.out.mono (by omega), RB2.out, Z2, W2.out⟩
          case measure => simp [intOf]; omega
        · rw [l2]
          clear l2
          have hjm : j < m := by have := H.out.len; omega
          obtain ⟨ad2, l', rfl, hlb, hl', hlc⟩ := (H.out.below (W2.out.mono hB)).in_ hjm
          obtain rfl : l' = l := Option.some.inj (hl'.symm.trans hl)
          obtain ⟨e0, e1, e2, e3, e4, e5⟩ := hlc
          have hrc2 := fun i => RB2.out.cell i
          have hj0 : decide ((j : Int) < 0) = false := decide_eq_false (by omega)
          have HL1 := Lib.hid l1
          have HL2 := Lib.hid hl
          clear l1 hl hl'
          go_wp2_with fail
          refine (open_any l' _).mono ?_
          rintro x w3 ⟨rfl, hb3⟩
          have W3 := Lib.hid (W2.out.trans (hb3.mono W2.out.size))
          have DB3 := Lib.hid (DB2.out.below hb3 DB2.out.lt)
          have RB3 := Lib.hid (RB2.out.below hb3 RB2.out.lt)
          have SB3 := Lib.hid (SB2.out.below hb3 SB2.out.lt)
          have OB3 := Lib.hid (OB2.out.below hb3 (Nat.le_refl _))
          have Z3 : w.heap.size + 3 ≤ w3.heap.size := Nat.le_trans Z2 hb3.size
          clear hb3 hrc2 e0 e1 e2 e3 e4 e5 hlb
          cases ho : l'.isOpen
          · have HN := Lib.hid (HGO.out.trans (by rw [P.nextGo_skip1 HL1.out HL2.out ho] : _ = acc ++ P.nextGo ls (ds.drop (k + 1)) busy))
            clear ho
            go_wp2
            go_roundw
            case rel => exact ⟨k + 1, acc, busy, by omega, by go_num, by omega, HN.out, OB3.out, SB3.out.mono (by omega), RB3.out, Z3, W3.out⟩
            case measure => simp [intOf]; omega
          · have hdc3 := fun i => DB3.out.cell i
            have hlt3 := DB3.out.lt
            cases hb : busy.contains d.chain
            · have HN := Lib.hid (HGO.out.trans (by rw [P.nextGo_take HL1.out HL2.out ho hb]; simp : _ = (acc ++ [d.name]) ++ P.nextGo ls (ds.drop (k + 1)) (d.chain :: busy)))
              have HBU := Lib.hid (show false = true ↔ Busy busy (.agg #[.int .i64 d.chain]) from by rw [← busy_of, hb])
              clear ho hb
              go_wp2_with (first
                | (at_lookup; refine wpList_set_lookup rfl (.tmp 39) (.tmp 42) 52 57 rfl law1 Try.underlying52 (w.heap.size + 2) k _ rfl SB3.out _ _ rfl hk1 false HBU.out ?_)
                | (at_builtin; refine wpList_append_str1 rfl (.tmp 48) (.tmp 51) rfl (w.heap.size + 3) u5 acc rfl ((OB3.out.alloc _).alloc _) ⟨w3.heap.size + 1, 0, none⟩ d.name rfl (newsS1 w3 _ _ d.name) (by omega) (by simp; omega) ?_; intro o4 w4 hown4 hb4 hg4; have hdc4 := fun i => (((DB3.out.alloc (.cells #[] 55)).alloc (.cells #[.string d.name] 9)).grown hg4 (own_blk_ne ((OB3.out.alloc (.cells #[] 55)).alloc (.cells #[.string d.name] 9)) ((DB3.out.alloc (.cells #[] 55)).alloc (.cells #[.string d.name] 9)) (by decide))).cell i; have W4 := Lib.hid (((W3.out.alloc W3.out.size (.cells #[] 55)).alloc (by have := W3.out.size; simp; omega) (.cells #[.string d.name] 9)).trans (hb4.mono (by omega))); have SB4 := ((SB3.out.alloc (.cells #[] 55)).alloc (.cells #[.string d.name] 9)).below hb4 (by omega); have RB4 := Lib.hid (((RB3.out.alloc (.cells #[] 55)).alloc (.cells #[.string d.name] 9)).below hb4 (by omega)); have Z4 := Lib.hid (show w.heap.size + 3 ≤ w4.heap.size from by have := hb4.size; simp at this; omega); clear hb4 hg4)
                | (at_mapUpdate; refine wpList_set_put rfl (.tmp 53) (.tmp 56) (.tmp 57) 52 57 rfl law1 Try.underlying52 (w.heap.size + 2) k _ rfl SB4 (by unfold maxLen; omega) _ _ rfl rfl hk1 ?_; intro w5 hset5 hg5))
              have Z5 := Lib.hid (show w.heap.size + 3 ≤ w5.heap.size from Nat.le_trans Z4.out hg5.size)
              have OB5 := Lib.hid (hown4.grown hg5 (by omega))
              have RB5 := Lib.hid (RB4.out.grown hg5 (by simp))
              have W5 := Lib.hid (W4.out.grown hg5 W4.out.size (fun k hk => by cases hk; omega))
              clear hg5 hown4 hdc4 SB4
              go_roundw
              case rel => exact ⟨k + 1, acc ++ [d.name], d.chain :: busy, by omega, by go_num, by simp; omega, HN.out, OB5.out, hset5.say (busy_cons busy d.chain), RB5.out, Z5.out, W5.out⟩
              case measure => simp [intOf]; omega
            · have HN := Lib.hid (HGO.out.trans (by rw [P.nextGo_busy HL1.out HL2.out ho hb] : _ = acc ++ P.nextGo ls (ds.drop (k + 1)) (d.chain :: busy)))
              have HBU := Lib.hid ((busy_of busy d.chain).1 hb)
              have SB4 := SB3.out.alloc (.cells #[] 55)
              clear ho hb
              go_wp2_with (first
                | (at_lookup; refine wpList_set_lookup rfl (.tmp 39) (.tmp 42) 52 57 rfl law1 Try.underlying52 (w.heap.size + 2) k _ rfl SB3.out _ _ rfl hk1 true ⟨fun _ => HBU.out, fun _ => rfl⟩ ?_)
                | (at_mapUpdate; refine wpList_set_put rfl (.tmp 53) (.tmp 56) (.tmp 57) 52 57 rfl law1 Try.underlying52 (w.heap.size + 2) k _ rfl SB4 (by unfold maxLen; omega) _ _ rfl rfl hk1 ?_; intro w5 hset5 hg5))
              have Z5 := Lib.hid (show w.heap.size + 3 ≤ w5.heap.size from by have := hg5.size; simp at this; omega)
              have OB5 := Lib.hid ((OB3.out.alloc (.cells #[] 55)).grown hg5 (by omega))
              have RB5 := Lib.hid ((RB3.out.alloc (.cells #[] 55)).grown hg5 (by simp))
              have W5 := Lib.hid ((W3.out.alloc W3.out.size (.cells #[] 55)).grown hg5 (W3.out.alloc W3.out.size (.cells #[] 55)).size (fun k hk => by cases hk; omega))
              clear hg5 SB4
              go_roundw
              case rel => exact ⟨k + 1, acc, d.chain :: busy, by omega, by go_num, by omega, HN.out, OB5.out, hset5.say (busy_cons busy d.chain), RB5.out, Z5.out, W5.out⟩
              case measure => simp [intOf]; omega
      · have hkn : k = n := by omega
        have HN := Lib.hid (show P.next 3 ds ls = acc from by unfold P.next; rw [if_pos rfl, hgo, List.drop_eq_nil_of_le (by have := HD.out.len; omega)]; simp [P.nextGo])
        have OW := Lib.hid (hown.less (B' := w.heap.size) (by omega))
        have BW := Lib.hid hbel
        clear hkn hgo hown hset hblk hbel
        go_wp2
        go_ret
        rw [HN.out]
        exact ⟨_, rfl, OW.out, BW.out⟩
  · have t3 : (st != 3) = true := by rw [bne_iff_ne]; exact h3
    have HN := Lib.hid (show P.next st ds ls = [] from by unfold P.next; rw [if_neg h3])
    clear h3 h hd
    go_enter Try.func9, Try.ntmps9
    go_wp2
    go_ret
    rw [HN.out]
    exact ⟨_, rfl, OwnS.nil _ _, ((Below.refl _ _).alloc (Nat.le_refl _) _).alloc (by simp) _⟩
end Go.Proofs.Ytjbhlojfmcldjab
