/- What the reference's Legs returns. -/
import Derived.Test.YtemjipongehjlaaGreatL23
import Derived.Test.YtemjipongehjlaaGreatL10
import Derived.Test.YtemjipongehjlaaGreatL16
import Derived.Test.YtemjipongehjlaaGreatL17
import Derived.Test.YtemjipongehjlaaGreatL11
import Derived.Test.YtemjipongehjlaaGreatL18
import Derived.Test.YtemjipongehjlaaGreatL12
import Derived.Test.YtemjipongehjlaaGreatL13
namespace Go.Proofs.YtemjipongehjlaaGreat
set_option linter.unusedVariables false
open Go.RowKit Go.BigFrame
namespace P
/-- Is a destination meant, as far as the first k routes say? -/
def meantTo (routes : List ByteArray) (name : ByteArray) (k : Nat) : Bool := routes.isEmpty || (routes.take k).any fun s => s.toList == name.toList
theorem meantTo_zero (routes : List ByteArray) (name : ByteArray) : meantTo routes name 0 = routes.isEmpty := by simp [meantTo]
theorem meantTo_step {routes : List ByteArray} {name s : ByteArray} {k : Nat} (h : routes[k]? = some s) : meantTo routes name (k + 1) = (meantTo routes name k || (s.toList == name.toList)) := by
  unfold meantTo
  rw [List.take_add_one, h, List.any_append, Bool.or_assoc]
  simp
theorem meantTo_all (routes : List ByteArray) (d : Dest) {k : Nat} (h : routes.length ≤ k) : meantTo routes d.name k = meant routes d := by
  unfold meantTo meant hasS
  rw [List.take_of_length_le h]
  congr 1
  congr 1
  funext s
  rw [Bool.eq_iff_iff]
  simp only [beq_iff_eq, ByteArray.toList_eq]
  exact eq_comm
end P
set_option maxRecDepth 100000 in
set_option maxHeartbeats 4000000 in
theorem refLegs_any (cn cd cpre cfil ctr : ByteArray) (cf : Bool) (cpt crt : Int) (D : Option Addr) (n dc : Nat) (ds : List P.Dest) (RA : Option Addr) (rn rc : Nat) (routes : List ByteArray) (payload : ByteArray) (B : Nat) (w : World)
    (hd : DestsAt w B D n ds) (hr : StrsAt w B RA rn routes) (hB : B ≤ w.heap.size) (hn : n ≤ 1099511627776) (hrn : rn ≤ maxLen) :
    Calls Tryz.prog 15 #[.agg #[.string cn, .bool cf, .int .i64 cpt, .string cd, .string cpre, .string cfil, .string ctr, .slice D n dc, .int .i64 crt], .slice RA rn rc, .string payload] w (GivesL w (P.legsOf ds routes payload)) := by
  unfold maxLen at hrn
  have HD := Lib.hid hd
  have HR := Lib.hid hr
  have HW := Lib.hid ((Below.refl w.heap.size w).alloc (Nat.le_refl _) (.cells #[.string cn, .bool cf, .int .i64 cpt, .string cd, .string cpre, .string cfil, .string ctr, .slice D n dc, .int .i64 crt] 24))
  have K0 := Lib.hid (Blk.new w 24 #[.string cn, .bool cf, .int .i64 cpt, .string cd, .string cpre, .string cfil, .string ctr, .slice D n dc, .int .i64 crt])
  clear hd hr
  go_enter Tryz.func15, Tryz.ntmps15
  go_wp2_with fail
  go_loopw [7, 8] (fun o x wr => ∃ (k : Nat), k ≤ n ∧ x = .int .i64 k ∧ OwnL wr (w.heap.size + 1) o (P.legsOf (ds.take k) routes payload) ∧ w.heap.size + 1 ≤ wr.heap.size ∧ Blk wr w.heap.size 24 #[.string cn, .bool cf, .int .i64 cpt, .string cd, .string cpre, .string cfil, .string ctr, .slice D n dc, .int .i64 crt] ∧ Below w.heap.size w wr) (fun _ x _ => n - (intOf x).toNat)
  case atStart => exact ⟨0, by omega, rfl, OwnL.nil _ _, by simp, K0.out, HW.out⟩
  case round =>
    obtain ⟨k, hk, rfl, hown, hsz, hk0, hbel⟩ := hrel
    have OWr := Lib.hid hown
    have BWr := Lib.hid hbel
    have K0r := Lib.hid hk0
    have c0 := fun i => hk0.cell i
    clear hk0
    by_cases hlt : k < n
    · have t0 : decide ((k : Int) < (n : Int)) = true := by simp; omega
      obtain ⟨ad, d, rfl, hdb, hdk, hdc⟩ := (HD.out.below (hbel.mono hB)).in_ hlt
      have HS := Lib.hid (show P.legsOf (ds.take (k + 1)) routes payload = P.legsOf (ds.take k) routes payload ++ [P.legOf routes payload d] from by
        unfold P.legsOf
        rw [List.take_add_one, hdk, List.map_append]
        rfl)
      have HLN := Lib.hid (show (P.legsOf (ds.take k) routes payload).length = k from by unfold P.legsOf; rw [List.length_map, List.length_take, Nat.min_eq_left (by have := HD.out.len; omega)])
      obtain ⟨e0, e1, e2, e3, e4, e5, e6, e7, e8⟩ := hdc
      have K9 := Lib.hid (Blk.new wr 69 #[.string ⟨#[]⟩, .int .i64 0, .int .i64 0, .int .i64 0, .string ⟨#[]⟩, .string ⟨#[]⟩])
      clear hdk hown hbel
      generalize P.legsOf (ds.take k) routes payload = acc at *
      obtain ⟨wo, rfl⟩ : ∃ wo : World, wo = wr := ⟨_, rfl⟩
      have OW1 := Lib.hid (OWr.out.alloc (.cells #[.string ⟨#[]⟩, .int .i64 0, .int .i64 0, .int .i64 0, .string ⟨#[]⟩, .string ⟨#[]⟩] 69))
      have OB := Lib.hid (show u7.ownBlock ≠ some wo.heap.size from own_old OWr.out)
      have B1 := Lib.hid (BWr.out.alloc BWr.out.size (.cells #[.string ⟨#[]⟩, .int .i64 0, .int .i64 0, .int .i64 0, .string ⟨#[]⟩, .string ⟨#[]⟩] 69))
      have K01 := Lib.hid (K0r.out.alloc (.cells #[.string ⟨#[]⟩, .int .i64 0, .int .i64 0, .int .i64 0, .string ⟨#[]⟩, .string ⟨#[]⟩] 69))
      have key : (((rn : Int) == 0) = true ∧ routes.isEmpty = true) ∨ (((rn : Int) == 0) = false ∧ routes.isEmpty = false) := by
        have hl := HR.out.len
        rcases routes with _ | ⟨r0, rs⟩ <;> simp at hl <;> simp [← hl]
        omega
      rcases key with ⟨t1, hre⟩ | ⟨t1, hre⟩
      all_goals
        have HRE := Lib.hid hre
        clear hre
        go_wp2_with (refine wpList_store_blk (cs' := #[.string d.name, .int .i64 0, .int .i64 0, .int .i64 0, .string ⟨#[]⟩, .string ⟨#[]⟩]) rfl 69 (.tmp 9) (.tmp 25) rfl wo.heap.size (by rfl) (by rfl) K9.out rfl (by kernel_rfl) (by simp [Value.oneCell']) ?_; intro w5 hk5 hg5; have K5 := Lib.hid hk5; have O5 := Lib.hid (OW1.out.grownAt hg5 OB.out); have B5 := Lib.hid (below_gr B1.out hg5 (by omega)); have K05 := Lib.hid (K01.out.grownAt hg5 (by omega)); have hz5 := hk5.lt; clear hk5 hg5)
        go_loopw [10, 11] (fun o x wq => ∃ j : Nat, j ≤ rn ∧ x = .int .i64 j ∧ o = .bool (P.meantTo routes d.name j) ∧ Stays w5 wq) (fun _ x _ => rn - (intOf x).toNat)
        case atStart => exact ⟨0, by omega, rfl, by rw [P.meantTo_zero, HRE.out], Stays.refl _⟩
        case round =>
          obtain ⟨j, hj, rfl, rfl, hsq⟩ := hrel
          have SQ := Lib.hid hsq
          have K5q := Lib.hid (K5.out.stays hsq)
          have zq := hsq.size
          clear hsq
          by_cases hjl : j < rn
          · have t2 : decide ((j : Int) < (rn : Int)) = true := by simp; omega
            obtain ⟨ra, s, rfl, hrb, hsk, hsc⟩ := StrsAt.in_ (HR.out.below ((B5.out.trans (SQ.out.mono B5.out.size)).mono hB)) hjl
            have MS := Lib.hid (P.meantTo_step (name := d.name) hsk)
            clear hsk
            cases mo : P.meantTo routes d.name j
            · have MJ := Lib.hid (show P.meantTo routes d.name (j + 1) = (s.toList == d.name.toList) from by rw [MS.out, mo]; rfl)
              have c9 := fun i => K5q.out.cell i
              clear mo
              go_wp2_with fail
              go_quiet (fail)
              go_wp2
              go_roundw
              case rel => exact ⟨j + 1, by omega, by go_num, by rw [MJ.out], SQ.out.trans (below_drewN (Stays.refl _) _)⟩
              case measure => simp [intOf]; omega
            · have MJ := Lib.hid (show P.meantTo routes d.name (j + 1) = true from by rw [MS.out, mo]; rfl)
              have c9 := fun i => K5q.out.cell i
              clear mo
              go_wp2_with fail
              go_quiet (fail)
              go_wp2
              go_roundw
              case rel => exact ⟨j + 1, by omega, by go_num, by rw [MJ.out], SQ.out.trans (below_drewN (Stays.refl _) _)⟩
              case measure => simp [intOf]; omega
          · have t2 : decide ((j : Int) < (rn : Int)) = false := by simp; omega
            have MA := Lib.hid (P.meantTo_all routes d (k := j) (by have := HR.out.len; omega))
            have OWq := Lib.hid (O5.out.stays SQ.out)
            have B5q := Lib.hid (B5.out.trans (SQ.out.mono B5.out.size))
            have K0q := Lib.hid (K05.out.stays SQ.out)
            cases mo : P.meantTo routes d.name j
            · have HE := Lib.hid (show P.legOf routes payload d = ⟨d.name, 0, 0, 0, ⟨#[]⟩, ⟨#[]⟩⟩ from by unfold P.legOf; rw [← MA.out, mo]; rfl)
              clear mo
              have c9 := fun i => K5q.out.cell i
              go_wp2_with (at_builtin; refine wpList_append_leg1 rfl (.tmp 49) (.tmp 51) rfl (w.heap.size + 1) u7 acc rfl (OWq.out.alloc (.cells #[.string d.name, .int .i64 0, .int .i64 0, .int .i64 0, .string ⟨#[]⟩, .string ⟨#[]⟩] 69)) ⟨wr.heap.size, 0, none⟩ ⟨d.name, 0, 0, 0, ⟨#[]⟩, ⟨#[]⟩⟩ rfl (newsL wr 69 ⟨d.name, 0, 0, 0, ⟨#[]⟩, ⟨#[]⟩⟩) (by have := HLN.out; omega) (by simp; omega) ?_; intro o4 w4 hown4 hb4 hg4; have O4 := Lib.hid hown4; have K04 := Lib.hid ((K0q.out.alloc (.cells #[.string d.name, .int .i64 0, .int .i64 0, .int .i64 0, .string ⟨#[]⟩, .string ⟨#[]⟩] 69)).below hb4 (by omega)); have W4 := Lib.hid ((B5q.out.alloc B5q.out.size (.cells #[.string d.name, .int .i64 0, .int .i64 0, .int .i64 0, .string ⟨#[]⟩, .string ⟨#[]⟩] 69)).trans (hb4.mono (by omega))); have Z4 := Lib.hid hb4.size; clear hb4 hg4 hown4)
              go_roundw
              case rel => exact ⟨k + 1, by omega, by go_num, by rw [HS.out, HE.out]; exact O4.out, by have := Z4.out; simp at this; omega, K04.out, W4.out⟩
              case measure => simp [intOf]; omega
            · have HE := Lib.hid (show P.legOf routes payload d = ⟨d.name, 1, 0, 0, payload, ⟨#[]⟩⟩ from by unfold P.legOf; rw [← MA.out, mo]; rfl)
              clear mo
              have K51 := Lib.hid ((K5q.out.set_ 1 (.int .i64 1)).set_ 4 (.string payload))
              have K5c : ∀ i, ((wr.setCell ⟨wo.heap.size, 1, none⟩ (.int .i64 1)).setCell ⟨wo.heap.size, 4, none⟩ (.string payload)).cell? ⟨wo.heap.size, i, none⟩ = (#[.string d.name, .int .i64 1, .int .i64 0, .int .i64 0, .string payload, .string ⟨#[]⟩] : Array Value)[i]? := fun i => by
                have := K51.out.cell i
                simpa using this
              have GS := Lib.hid ((grown_set wr wo.heap.size 1 (.int .i64 1)).trans (grown_set _ wo.heap.size 4 (.string payload)))
              have c9 := fun i => K5q.out.cell i
              have f9 := fun i => K5q.out.frozen i
              go_wp2_with (at_builtin; refine wpList_append_leg1 rfl (.tmp 49) (.tmp 51) rfl (w.heap.size + 1) u7 acc rfl ((OWq.out.grownAt GS.out OB.out).alloc (.cells #[.string d.name, .int .i64 1, .int .i64 0, .int .i64 0, .string payload, .string ⟨#[]⟩] 69)) ⟨wr.heap.size, 0, none⟩ ⟨d.name, 1, 0, 0, payload, ⟨#[]⟩⟩ rfl (by have h := newsL ((wr.setCell ⟨wo.heap.size, 1, none⟩ (.int .i64 1)).setCell ⟨wo.heap.size, 4, none⟩ (.string payload)) 69 ⟨d.name, 1, 0, 0, payload, ⟨#[]⟩⟩; simpa [World.setCell] using h) (by have := HLN.out; omega) (by simp; omega) ?_; intro o4 w4 hown4 hb4 hg4; have O4 := Lib.hid hown4; have K04 := Lib.hid (((K0q.out.grownAt GS.out (by omega)).alloc (.cells #[.string d.name, .int .i64 1, .int .i64 0, .int .i64 0, .string payload, .string ⟨#[]⟩] 69)).below hb4 (by omega)); have W4 := Lib.hid (((below_gr B5q.out GS.out (by omega)).alloc (below_gr B5q.out GS.out (by omega)).size (.cells #[.string d.name, .int .i64 1, .int .i64 0, .int .i64 0, .string payload, .string ⟨#[]⟩] 69)).trans (hb4.mono (by omega))); have Z4 := Lib.hid hb4.size; clear hb4 hg4 hown4)
              go_roundw
              case rel => exact ⟨k + 1, by omega, by go_num, by rw [HS.out, HE.out]; exact O4.out, by have := Z4.out; simp at this; omega, K04.out, W4.out⟩
              case measure => simp [intOf]; omega
    · have t0 : decide ((k : Int) < (n : Int)) = false := by simp; omega
      have hkn : k = n := by omega
      have HN := Lib.hid (show P.legsOf (ds.take k) routes payload = P.legsOf ds routes payload from by rw [List.take_of_length_le (by have := HD.out.len; omega)])
      have OW := Lib.hid (hown.less (B' := w.heap.size) (by omega))
      clear hkn hown hbel
      go_wp2
      go_ret
      rw [← HN.out]
      exact ⟨_, rfl, OW.out, BWr.out⟩
end Go.Proofs.YtemjipongehjlaaGreat
/- Small words for PruneLegs' walk: what nil arguments hold; rows that three calls hand back; the fore part of a list. -/
namespace Go.Proofs.YtemjipongehjlaaGreat
set_option linter.unusedVariables false
open Go.Joins Go.ChangeShapes Go.WideShapes Go.RowKit Go.Deep
section
variable {H : Type} {enc : TypeId × Value → H} {w : World} {base : Nat} {spare : Nat → Bool} {held : Bool} {r : Reach} {b0 : Nat} {d : DataW H} {p : List MemPlace}
theorem nil_legs {fuel : Nat} {m c : Nat} {x : DataW H × List MemPlace} (h : DataW.trod enc Tryz.prog w base spare held fuel 26 [.slice none m c] = some x) : m = 0 ∧ c = 0 := by
  rcases open_slice_fields Tryz.underlying26 Tryz.underlying69 (by kernel_rfl) (by kernel_rfl) h with ⟨e, hx⟩ | ⟨a, len, cap, m', D, Pl, e, _⟩
  · simpa using e
  · simp at e
set_option maxRecDepth 100000 in
theorem nil_dests {fuel : Nat} {m c : Nat} {x : DataW H × List MemPlace} (h : DataW.trod enc Tryz.prog w base spare held fuel 22 [.slice none m c] = some x) : m = 0 ∧ c = 0 := by
  rcases open_slice_fields Tryz.underlying22 Tryz.underlying67 (by kernel_rfl) (by kernel_rfl) h with ⟨e, hx⟩ | ⟨a, len, cap, m', D, Pl, e, _⟩
  · simpa using e
  · simp at e
set_option maxRecDepth 100000 in
theorem row_none {id run tm st dn flt : Int} {raw : ByteArray} {m cp : Nat} (hv : Value.okWide Tryz.prog w r b0 28 (.agg #[.int .i64 id, .int .i64 run, .int .i64 tm, .int .i64 st, .int .i64 dn, .string raw, .int .i64 flt, .slice none m cp]))
    (h : DataW.Trod enc Tryz.prog w base spare held 28 (.agg #[.int .i64 id, .int .i64 run, .int .i64 tm, .int .i64 st, .int .i64 dn, .string raw, .int .i64 flt, .slice none m cp]) d p) : m = 0 ∧ cp = 0 := by
  obtain ⟨c0, c1, c2, c3, c4, c5, c6, c7, y0, y1, y2, y3, y4, y5, y6, y7, n, e, _, _, h0, h1, h2, h3, h4, h5, h6, h7⟩ := open_agg8 Tryz.underlying28 (by kernel_rfl) (by kernel_rfl) hv h
  simp only [Value.agg.injEq, Array.mk.injEq, List.cons.injEq, and_true] at e
  obtain ⟨_, _, _, _, _, _, _, e7⟩ := e
  rw [← e7] at h7
  exact nil_legs h7
set_option maxRecDepth 100000 in
theorem chan_none {cn cd cpre cfil ctr : ByteArray} {cf : Bool} {cpt crt : Int} {m cp : Nat} (hv : Value.okWide Tryz.prog w r b0 24 (.agg #[.string cn, .bool cf, .int .i64 cpt, .string cd, .string cpre, .string cfil, .string ctr, .slice none m cp, .int .i64 crt]))
    (h : DataW.Trod enc Tryz.prog w base spare held 24 (.agg #[.string cn, .bool cf, .int .i64 cpt, .string cd, .string cpre, .string cfil, .string ctr, .slice none m cp, .int .i64 crt]) d p) : m = 0 ∧ cp = 0 := by
  obtain ⟨c0, c1, c2, c3, c4, c5, c6, c7, c8, y0, y1, y2, y3, y4, y5, y6, y7, y8, n, e, _, _, h0, h1, h2, h3, h4, h5, h6, h7, h8⟩ := open_agg9 Tryz.underlying24 (by kernel_rfl) (by kernel_rfl) hv h
  simp only [Value.agg.injEq, Array.mk.injEq, List.cons.injEq, and_true] at e
  obtain ⟨_, _, _, _, _, _, _, e7, _⟩ := e
  rw [← e7] at h7
  exact nil_dests h7
set_option maxRecDepth 100000 in
theorem texts_none {m cp : Nat} (h : DataW.Trod enc Tryz.prog w base spare held 29 (.slice none m cp) d p) : m = 0 ∧ cp = 0 := by
  obtain ⟨fuel, hf⟩ := h
  rcases open_strings Tryz.underlying29 Tryz.underlying9 (by kernel_rfl) hf with ⟨e, _⟩ | ⟨a, len, cap, ss, e, _⟩
  · have e := (List.cons.inj e).1
    injection e with _ h1 h2
    exact ⟨h1, h2⟩
  · have e := (List.cons.inj e).1
    injection e with h1
    cases h1
end
section
variable {w w' : World} {B size n : Nat} {xs ys : List Value}
/-- The fore part of a list of the call's own. -/
theorem reads_fore {E : TypeId} {g c k : Nat} (h : w.ownsRow B E size (.slice (some ⟨g, 0, none⟩) k c) k (xs ++ ys)) (hn : xs.length = n * size) (hnk : n ≤ k) : Reads w w.heap.size size (some ⟨g, 0, none⟩) n xs := by
  refine ⟨hn, fun hp => ?_⟩
  have hlt := (World.ownsRow.lt h g rfl).2
  refine ⟨_, rfl, hlt, fun j u hu => ?_⟩
  refine h.cells (g := g) rfl j u ?_
  rw [List.getElem?_append_left (List.getElem?_eq_some_iff.1 hu).1]
  exact hu
theorem cell_behind {E : TypeId} {g c k j : Nat} {u : Value} (h : w.ownsRow B E size (.slice (some ⟨g, 0, none⟩) k c) k (xs ++ ys)) (hj : xs.length = j) (hu : ys[0]? = some u) : w.cell? ⟨g, j, none⟩ = some u := by
  have := h.cells (g := g) rfl j u (by rw [List.getElem?_append_right (by omega), hj, Nat.sub_self]; exact hu)
  rwa [Addr.add_lit, Nat.zero_add] at this
end
/-- The book, behind k rounds. -/
def BookI (gb k : Nat) (w : World) : Prop :=
  ∃ (tx tw lg lw : Value) (tv tu v u : Nat → Value) (ts : Nat → List ByteArray) (l : Nat → List P.Leg), Blk w gb 51 (bookCells tx tw lg lw) ∧ KeptS w gb k tx tv ts ∧ KeptS w gb k tw tu ts ∧ (∀ g, tx.ownBlock = some g → tw.ownBlock ≠ some g) ∧
    KeptL w gb (4 * k) lg v l ∧ KeptL w gb (4 * k) lw u l ∧ (∀ g, lg.ownBlock = some g → lw.ownBlock ≠ some g)
theorem BookI.frame {gb k C : Nat} {w w' : World} {T : List TypeId} (h : BookI gb k w) (hf : Frame w w' C T) (h1 : 51 ∉ T) (h2 : 9 ∉ T) (h3 : 29 ∉ T) (h4 : 69 ∉ T) (h5 : 26 ∉ T) : BookI gb k w' := by
  obtain ⟨tx, tw, lg, lw, tv, tu, v, u, ts, l, b, a1, a2, a3, a4, a5, a6⟩ := h
  exact ⟨tx, tw, lg, lw, tv, tu, v, u, ts, l, b.frame hf h1, a1.frame hf h2 h3, a2.frame hf h2 h3, a3, a4.frame hf h4 h5, a5.frame hf h4 h5, a6⟩
theorem BookI.start (w : World) : BookI w.heap.size 0 (w.alloc (.cells (bookCells (.slice none 0 0) (.slice none 0 0) (.slice none 0 0) (.slice none 0 0)) 51)) :=
  ⟨.slice none 0 0, .slice none 0 0, .slice none 0 0, .slice none 0 0, fun _ => undef, fun _ => undef, fun _ => undef, fun _ => undef, fun _ => [], fun _ => [], Blk.new _ _ _, Kept.nil _ _ _ _, Kept.nil _ _ _ _, (fun g h => by cases h), Kept.nil _ _ _ _, Kept.nil _ _ _ _, (fun g h => by cases h)⟩
/-- The block that a pointer or a row's list names. -/
def rowBlk : Value → Option Nat
  | .pointer (some a) => some a.block
  | .agg cs => match cs[7]? with
    | some v => v.ownBlock
    | none => none
  | _ => none
/-- The operations in F have made what lies in blocks of its own, each another one. -/
structure FreshI (F : List Nat) (φ : Nat → Value → World → Prop) (W0 : World) (L : Nat → Bool) (vs : Nat → Value) (w : World) : Prop where
  st : Stays W0 w
  fact : ∀ j, F.contains j = true → L j = true → φ j (vs j) w ∧ ∀ g, rowBlk (vs j) = some g → W0.heap.size ≤ g ∧ g < w.heap.size
  apart : ∀ i j g, F.contains i = true → F.contains j = true → i ≠ j → L i = true → L j = true → rowBlk (vs i) = some g → rowBlk (vs j) ≠ some g
section
variable {F : List Nat} {φ : Nat → Value → World → Prop} {W0 : World} {L : Nat → Bool} {vs : Nat → Value} {w w' : World}
theorem FreshI.start : FreshI F φ W0 (fun _ => false) vs { W0 with drawn := W0.drawn + 1 } := ⟨Stays.draw _, (fun j _ h => by cases h), (fun i j g _ _ _ h => by cases h)⟩
theorem FreshI.pure (h : FreshI F φ W0 L vs w) {k : Nat} {v : Value} (hk : F.contains k = false) : FreshI F φ W0 (upd L k) (updv vs k v) w := by
  have hne : ∀ {j}, F.contains j = true → j ≠ k := fun hj e => by subst e; rw [hj] at hk; cases hk
  refine ⟨h.st, fun j hj hl => ?_, fun i j g hi hj hij hl1 hl2 hg => ?_⟩
  · rw [updN (hne hj)] at hl
    simp only [updv, hne hj, if_false]
    exact h.fact j hj hl
  · rw [updN (hne hi)] at hl1
    rw [updN (hne hj)] at hl2
    simp only [updv, hne hi, hne hj, if_false] at hg ⊢
    exact h.apart i j g hi hj hij hl1 hl2 hg
theorem FreshI.new (h : FreshI F φ W0 L vs w) {k : Nat} {v : Value} (hs : Stays w w') (hst : ∀ j v x y, φ j v x → Stays x y → φ j v y) (hv : φ k v w') (hb : ∀ g, rowBlk v = some g → w.heap.size ≤ g ∧ g < w'.heap.size) : FreshI F φ W0 (upd L k) (updv vs k v) w' := by
  refine ⟨h.st.trans hs, fun j hj hl => ?_, fun i j g hi hj hij hl1 hl2 hg => ?_⟩
  · by_cases hjk : j = k
    · subst hjk
      simp only [updv, if_true]
      exact ⟨hv, fun g hg => ⟨Nat.le_trans h.st.size (hb g hg).1, (hb g hg).2⟩⟩
    · rw [updN hjk] at hl
      simp only [updv, hjk, if_false]
      obtain ⟨h1, h2⟩ := h.fact j hj hl
      exact ⟨hst j _ _ _ h1 hs, fun g hg => ⟨(h2 g hg).1, Nat.lt_of_lt_of_le (h2 g hg).2 hs.size⟩⟩
  · by_cases hik : i = k
    · subst hik
      have hji : j ≠ i := fun e => hij e.symm
      rw [updN hji] at hl2
      simp only [updv, if_true, hji, if_false] at hg ⊢
      intro e
      have h1 := (hb g hg).1
      have h2 := ((h.fact j hj hl2).2 g e).2
      omega
    · rw [updN hik] at hl1
      simp only [updv, hik, if_false] at hg
      by_cases hjk : j = k
      · subst hjk
        simp only [updv, if_true]
        intro e
        have h1 := (hb g e).1
        have h2 := ((h.fact i hi hl1).2 g hg).2
        omega
      · rw [updN hjk] at hl2
        simp only [updv, hjk, if_false]
        exact h.apart i j g hi hj hij hl1 hl2 hg
end
theorem addAt_own {v : Nat → Value} {N : Nat} {x : Value} {Q : Nat → Prop} (h : ∀ i g, i < N → (v i).ownBlock = some g → Q g) (hx : ∀ g, x.ownBlock = some g → Q g) : ∀ i g, i < N + 1 → (addAt v N x i).ownBlock = some g → Q g := fun i g hi hg => by
  by_cases hiN : i = N
  · subst hiN; rw [addAt_at] at hg; exact hx g hg
  · rw [addAt_lt (by omega)] at hg; exact h i g (by omega) hg
namespace P
theorem failed_len (ds : List Dest) (d : Dest) (ls : List Leg) : (failed ds d ls).length = ls.length := by
  have key : ∀ (ds : List Dest) (s : Bool × List Leg), (ds.foldl (failStep d) s).2.length = s.2.length := by
    intro ds
    induction ds with
    | nil => intro s; rfl
    | cons o ds ih =>
      intro s
      rw [List.foldl_cons, ih]
      unfold failStep
      exact failLegs_len _ _ _
  exact key ds (false, ls)
theorem movedTo_len {F : List Leg → Nat → Leg → Dest → List Leg} (hF : ∀ ls k l d, (F ls k l d).length = ls.length) (state : Int) (ds : List Dest) (ls : List Leg) (dest reply : ByteArray) : (movedTo F state ds ls dest reply).length = ls.length := by
  cases hb : hasS (next state ds ls) dest
  · rw [movedTo_no hb]
  · obtain ⟨_, ⟨k, l, hk, _, hl, _, _⟩, kd, d, hkd, _, hd, _⟩ := turned_key hb
    rw [movedTo_yes hb hk hl hkd hd, hF, List.length_set]
theorem sentTurn_len (ls : List Leg) (k : Nat) (l : Leg) (d : Dest) : (sentTurn ls k l d).length = ls.length := List.length_set
theorem failTurn_len (ds : List Dest) (ls : List Leg) (k : Nat) (l : Leg) (d : Dest) : (failTurn ds ls k l d).length = ls.length := by unfold failTurn; rw [failed_len, List.length_set]
theorem triedTurn_len (now : Int) (ds : List Dest) (ls : List Leg) (k : Nat) (l : Leg) (d : Dest) : (triedTurn now ds ls k l d).length = ls.length := by
  unfold triedTurn
  split
  · rw [failed_len, List.length_set]
  · rw [List.length_set]
theorem legsOf_len (ds : List Dest) (routes : List ByteArray) (payload : ByteArray) : (legsOf ds routes payload).length = ds.length := by simp [legsOf]
end P
/-- What three calls hand back, and three new rows. -/
def ThreeRows (ra rb rf : Value → World → Prop) : Nat → Value → World → Prop := fun j => if j = 5 then ra else if j = 11 then rb else if j = 17 then rf else fun v w => ∃ g, v = .pointer (some ⟨g, 0, none⟩) ∧ Blk w g 28 #[.int .i64 0, .int .i64 0, .int .i64 0, .int .i64 0, .int .i64 0, .string ⟨#[]⟩, .int .i64 0, .slice none 0 0]
theorem ThreeRows.keep {ra rb rf : Value → World → Prop} (ha : ∀ v x y, ra v x → Stays x y → ra v y) (hb : ∀ v x y, rb v x → Stays x y → rb v y) (hf : ∀ v x y, rf v x → Stays x y → rf v y) : ∀ j v x y, ThreeRows ra rb rf j v x → Stays x y → ThreeRows ra rb rf j v y := by
  intro j v x y h hs
  unfold ThreeRows at h ⊢
  by_cases h5 : j = 5
  · simp only [h5, if_true] at h ⊢; exact ha v x y h hs
  · by_cases h11 : j = 11
    · subst h11; exact hb v x y h hs
    · by_cases h17 : j = 17
      · subst h17; exact hf v x y h hs
      · simp only [h5, h11, h17, if_false] at h ⊢
        obtain ⟨g, e, hk⟩ := h
        exact ⟨g, e, hk.stays hs⟩
end Go.Proofs.YtemjipongehjlaaGreat
