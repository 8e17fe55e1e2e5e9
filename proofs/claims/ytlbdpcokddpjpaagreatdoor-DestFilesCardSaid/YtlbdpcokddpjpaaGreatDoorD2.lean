/- Parts, joined. -/
import Derived.Test.YtlbdpcokddpjpaaGreatDoorD1
import Derived.Deep.Cut
import Derived.Deep.DeepCutAuto
import Derived.Laws.BitsAllLaws
/- What disk.Crash returns: the walk. -/
namespace Go.Proofs.YtlbdpcokddpjpaaGreatDoor
set_option linter.unusedVariables false
open Go Go.RowKit Go.BigFrame Go.MapKept Go.ChangeMaps
theorem half_left {cut flip : Int} {L : List (ByteArray × Dk.File × Nat)} {seen : Array Nat} {es : Array MapEntry} (h : Half cut flip L seen es) : (leftOf es seen).size = (L.filter fun q => !seen.contains q.2.2).length := by
  unfold Half at h
  rw [← Array.length_toList]
  unfold leftOf
  rw [Array.toList_filter, h, List.filter_map, List.length_map]
  rfl
theorem left_less {L : List (ByteArray × Dk.File × Nat)} {seen : Array Nat} {q : ByteArray × Dk.File × Nat} (hq : q ∈ L) (hn : seen.contains q.2.2 = false) : (L.filter fun x => !(seen.push q.2.2).contains x.2.2).length < (L.filter fun x => !seen.contains x.2.2).length := by
  have e : (L.filter fun x => !(seen.push q.2.2).contains x.2.2) = (L.filter fun x => !seen.contains x.2.2).filter fun x => !(x.2.2 == q.2.2) := by
    rw [List.filter_filter]
    congr 1
    funext x
    rw [Array.contains_push]
    cases seen.contains x.2.2 <;> cases h : x.2.2 == q.2.2 <;> simp_all
  rw [e]
  have hm : q ∈ L.filter fun x => !seen.contains x.2.2 := List.mem_filter.2 ⟨hq, by rw [hn]; rfl⟩
  rw [← List.countP_eq_length_filter]
  refine Nat.lt_of_le_of_ne List.countP_le_length (fun e => ?_)
  have := List.countP_eq_length.1 e q hm
  simp at this
/-- The disk under way. -/
structure CrashI (w0 : World) (g m r clock : Nat) (fp : Option Addr) (acts : Int) (d : Dk.Disk) (cut flip : Int) (L : List (ByteArray × Dk.File × Nat)) (seen : Array Nat) (es : Array MapEntry) (sn : Array Nat) (w : World) : Prop where
  blk : Blk w g 60 #[.map (some m), .bool false, .int .i64 d.room, .pointer fp, .int .i64 acts]
  fuse : FuseAt w fp d.fuse
  map : w.heap[m]? = some (.map es clock)
  st : Stamped es clock
  half : Half cut flip L seen es
  iter : w.heap[r]? = some (.mapIter (some m) clock sn clock)
  chg : Chg g m w0 w
  lt : g < w0.heap.size ∧ m < w0.heap.size ∧ w0.heap.size ≤ r ∧ ∀ h, fp = some ⟨h, 0, none⟩ → h < w0.heap.size
section
variable {w0 w w' : World} {g m r clock : Nat} {fp : Option Addr} {acts : Int} {d : Dk.Disk} {cut flip : Int} {L : List (ByteArray × Dk.File × Nat)} {seen sn : Array Nat} {es : Array MapEntry}
theorem FuseAt.keep {u : Option Dk.Fuse} (h : FuseAt w fp u) (hk : ∀ k, fp = some ⟨k, 0, none⟩ → w'.heap[k]? = w.heap[k]?) : FuseAt w' fp u := by
  cases u with
  | none => exact h
  | some u =>
    obtain ⟨k, hk', hh⟩ := h
    exact ⟨k, hk', (hk k hk').trans hh⟩
/-- One block that the call has made, but not the iterator, may turn. -/
theorem CrashI.grown (h : CrashI w0 g m r clock fp acts d cut flip L seen es sn w) {row : Option Nat} (hg : w.grownBy w' row) (hr : ∀ k, row = some k → w0.heap.size ≤ k ∧ k ≠ r) : CrashI w0 g m r clock fp acts d cut flip L seen es sn w' := by
  obtain ⟨l1, l2, l3, l4⟩ := h.lt
  have hs := h.chg.size
  have key : ∀ k, k < w0.heap.size → w'.heap[k]? = w.heap[k]? := fun k hk => hg.block k (by omega) (fun e => by have := (hr k e.symm).1; omega)
  exact ⟨(key g l1).trans h.blk, h.fuse.keep (fun k hk => key k (l4 k hk)), (key m l2).trans h.map, h.st, h.half, (hg.block r (Array.getElem?_eq_some_iff.1 h.iter).1 (fun e => (hr r e.symm).2 rfl)).trans h.iter, h.chg.grown hg (fun k hk => .inr (.inr (hr k hk).1)), h.lt⟩
theorem CrashI.below (h : CrashI w0 g m r clock fp acts d cut flip L seen es sn w) (hb : Below w.heap.size w w') : CrashI w0 g m r clock fp acts d cut flip L seen es sn w' :=
  h.grown (row := none) ⟨hb.os, hb.tape, hb.output, hb.size, fun k hk _ => hb.block k hk⟩ (fun k hk => by cases hk)
theorem CrashI.next (h : CrashI w0 g m r clock fp acts d cut flip L seen es sn w) (hw : Drawn w w') (sn' : Array Nat) : CrashI w0 g m r clock fp acts d cut flip L seen es sn' (setBlock w' r (.mapIter (some m) clock sn' clock)) := by
  obtain ⟨l1, l2, l3, l4⟩ := h.lt
  have hrl := (Array.getElem?_eq_some_iff.1 h.iter).1
  have hs := h.chg.size
  have key : ∀ w2 : World, w2.heap = w.heap → w2.os = w.os → w2.tape = w.tape → w2.output = w.output → CrashI w0 g m r clock fp acts d cut flip L seen es sn' (setBlock w2 r (.mapIter (some m) clock sn' clock)) := by
    intro w2 e1 e2 e3 e4
    have kb : ∀ k, k ≠ r → (setBlock w2 r (.mapIter (some m) clock sn' clock)).heap[k]? = w.heap[k]? := fun k hk => by
      simp [setBlock, e1, Ne.symm hk]
    refine ⟨(kb g (by omega)).trans h.blk, h.fuse.keep (fun k hk => kb k (by have := l4 k hk; omega)), (kb m (by omega)).trans h.map, h.st, h.half, by simp [setBlock, e1, hrl], ⟨e2.trans h.chg.os, e3.trans h.chg.tape, e4.trans h.chg.output, by simp [setBlock, e1]; exact hs, fun b hb n1 n2 => (kb b (by omega)).trans (h.chg.block b hb n1 n2)⟩, h.lt⟩
  rcases hw with rfl | rfl
  · exact key w' rfl rfl rfl rfl
  · exact key _ rfl rfl rfl rfl
theorem CrashI.put (h : CrashI w0 g m r clock fp acts d cut flip L seen es sn w) {seen' : Array Nat} {es' : Array MapEntry} (hh : Half cut flip L seen' es') (hs : Stamped es' clock) : CrashI w0 g m r clock fp acts d cut flip L seen' es' sn { w with heap := w.heap.setIfInBounds m (.map es' clock) } := by
  obtain ⟨l1, l2, l3, l4⟩ := h.lt
  have hgm : g ≠ m := by
    rintro rfl
    have h1 := h.blk
    unfold Blk at h1
    rw [h.map] at h1
    cases h1
  have hml := (Array.getElem?_eq_some_iff.1 h.map).1
  have hfm : ∀ k, fp = some ⟨k, 0, none⟩ → d.fuse ≠ none → k ≠ m := by
    rintro k hk hn rfl
    have hf := h.fuse
    cases hu : d.fuse with
    | none => exact hn hu
    | some u =>
      rw [hu] at hf
      obtain ⟨k', hk', hb⟩ := hf
      rw [hk] at hk'
      cases hk'
      unfold Blk at hb
      rw [h.map] at hb
      cases hb
  have kb : ∀ k, k ≠ m → ({ w with heap := w.heap.setIfInBounds m (.map es' clock) } : World).heap[k]? = w.heap[k]? := fun k hk => by simp [Ne.symm hk]
  refine ⟨(kb g hgm).trans h.blk, ?_, by simp [hml], hs, hh, (kb r (by omega)).trans h.iter, ⟨h.chg.os, h.chg.tape, h.chg.output, by simp; exact h.chg.size, fun b hb n1 n2 => (kb b n2).trans (h.chg.block b hb n1 n2)⟩, h.lt⟩
  cases hu : d.fuse with
  | none => have := h.fuse; rw [hu] at this; exact this
  | some u => rw [← hu]; exact h.fuse.keep (fun k hk => kb k (hfm k hk (by rw [hu]; simp)))
end
/-- A text's bytes, as a step of the walk. -/
theorem wpList_bytes_of {w : World} {ops : Array Oper} {rest : List Oper} {o : Oper} {a : Act} {Q : Exit → Act → World → Prop} (hg : o.guard = none) (x : Operand) (ho : o.op = .convert 9 89 x) (s : ByteArray) (hx : a.eval x = .string s)
    (h : ∀ w' c, BytesAt w' w.heap.size s.data.toList → Below w.heap.size w w' → s.size ≤ c → w'.heap.size = w.heap.size + 1 → wpList Tryz.prog ops Q rest (a.put o.dst (.slice (some ⟨w.heap.size, 0, none⟩) s.size c)) w') : wpList Tryz.prog ops Q (o :: rest) a w := by
  refine wpList_plain hg fun K' hK' => ?_
  have hc := Lib.run_convert_string_bytes (P := Tryz.prog) w 9 89 5 s Tryz.underlying9 Tryz.underlying89 Tryz.underlying5
  unfold Oper.wp
  simp [execOp, ho, hx, hc, Result.andThen]
  refine hK' _ _ (h _ _ ?_ ?_ (grownCap_ge _ _ _ _) (Lib.bytesWorld_size _ _ _))
  · refine ⟨_, _, _, Lib.bytesWorld_at_new w _ s, ?_, ?_⟩
    · simp [Lib.bytesCells]
    · intro i hi
      have hi' : i < s.data.size := by simpa using hi
      simp [Lib.bytesCells, Array.getElem?_append, cellsU8]
      intro h
      have : s.data.size = s.size := rfl
      omega
  · exact ⟨rfl, rfl, rfl, by rw [Lib.bytesWorld_size]; omega, fun k hk => Lib.bytesWorld_at_old w _ s k hk⟩
theorem BytesAt.stays {w w' : World} {g : Nat} {l : List UInt8} (h : BytesAt w g l) (hs : Stays w w') : BytesAt w' g l := h.below ((Below.refl _ w).trans hs) h.lt
theorem modify_set (l : List UInt8) (i : Nat) (hi : i < l.length) (f : UInt8 → UInt8) : l.modify i f = l.set i (f l[i]) := by
  apply List.ext_getElem?
  intro j
  rw [List.getElem?_modify, List.getElem?_set]
  by_cases hij : i = j
  · subst hij
    simp [hi]
  · simp [hij]
theorem xor8 (b : UInt8) (x : Int) (h1 : 0 ≤ x) (h2 : x ≤ 255) : bits .xor .u8 (b.toNat : Int) x = ((b ^^^ UInt8.ofNat x.toNat).toNat : Int) := by
  rw [u8_xor _ _ (by omega) (by have := b.toNat_lt; omega) h1 (by omega), UInt8.toNat_xor]
  congr 1
  rw [Int.toNat_natCast]
  congr 1
  rw [UInt8.toNat_ofNat']
  omega
/-- The round's store as an operation of the walk. -/
theorem wpList_half_put {P : Program} {w : World} {ops : Array Oper} {rest : List Oper} {o : Oper} {a : Act} {Q : Exit → Act → World → Prop} {b clock : Nat} {t kt et : TypeId} {cut flip : Int} {L : List (ByteArray × Dk.File × Nat)} {seen : Array Nat} {es : Array MapEntry}
    (hg : o.guard = none) (m x v : Operand) (hop : o.op = Op.mapUpdate t m x v) (h : Half cut flip L seen es) (hs : Stamped es clock) (hb : w.heap[b]? = some (.map es clock)) (hu : P.underlying t = some (.map kt et)) (hd : P.underlying kt = some .string) (q : ByteArray × Dk.File × Nat) (hq : q ∈ L) (hn : seen.contains q.2.2 = false)
    (hm : a.eval m = .map (some b)) (hx : a.eval x = .string q.1) (hv : a.eval v = fileV (Dk.crashF cut flip q.2.1))
    (hK : ∀ es', Half cut flip L (seen.push q.2.2) es' → Stamped es' clock → wpList P ops Q rest (a.put o.dst undef) { w with heap := w.heap.setIfInBounds b (.map es' clock) }) : wpList P ops Q (o :: rest) a w := by
  refine wpList_plain hg fun K' hK' => ?_
  obtain ⟨es', hrun, r1, r2⟩ := half_put h hs hb hu hd q hq hn
  unfold Oper.wp
  simp [execOp, hop, hm, hx, hv, hrun, Result.andThen]
  exact hK' _ _ (hK es' r1 r2)
set_option maxRecDepth 100000 in
set_option maxHeartbeats 1000000 in
theorem crash_any (w : World) (g m : Nat) (d : Dk.Disk) (h : DiskAt w g m d) (hf : Dk.Fine d) (cut flip : Int) (hc : -9223372036854775808 ≤ cut ∧ cut ≤ 9223372036854775807) (hfl : -9223372036854775808 ≤ flip ∧ flip ≤ 9223372036854775807) :
    Calls Tryz.prog 19 #[.pointer (some ⟨g, 0, none⟩), .int .i64 cut, .int .i64 flip] w fun e w' => e = .returned (.tuple #[]) ∧ DiskAt w' g m (Dk.crash d cut flip) ∧ Chg g m w w' := by
  have KO := Lib.hid (on_any w g m d h)
  have HD := Lib.hid h
  obtain ⟨⟨fp, acts, hb, hfu⟩, hm⟩ := h
  obtain ⟨es, clock, hmap, hst, hl⟩ := hm
  obtain ⟨L, hL, hhalf⟩ := half_start hl
  have hgm : g ≠ m := by
    have := blk_ne_map hb (⟨es, clock, hmap, hst, hl⟩ : MapL fileV w m d.files)
    exact this
  have hgl := hb.lt
  have hml : m < w.heap.size := (Array.getElem?_eq_some_iff.1 hmap).1
  have HB := Lib.hid hb
  have HF := Lib.hid hfu
  have HM := Lib.hid hmap
  have HL := Lib.hid hL
  have HH := Lib.hid hhalf
  have HE := Lib.hid hl
  clear hb hfu hmap hL hhalf hl
  cases hon : d.on with
  | false =>
    have HC := Lib.hid (show Dk.crash d cut flip = d by unfold Dk.crash; rw [hon]; rfl)
    rw [hon] at KO
    go_enter Tryz.func19, Tryz.ntmps19
    go_wp2_with fail
    refine KO.out.mono ?_
    rintro x w2 ⟨rfl, rfl⟩
    go_wp2
    refine bodyPost_ret (results_none rfl _ _ _) rfl ?_
    rw [HC.out]
    exact ⟨rfl, HD.out, Chg.refl _ _ _⟩
  | true =>
    rw [hon] at KO
    have c := fun i => HB.out.cell i
    have f := fun i => HB.out.frozen i
    rw [hon] at c
    go_enter Tryz.func19, Tryz.ntmps19
    go_wp2_with fail
    refine KO.out.mono ?_
    rintro x w2 ⟨rfl, rfl⟩
    have hmap1 : (w.setCell ⟨g, 1, none⟩ (.bool false)).heap[m]? = some (.map es clock) := (Below.heap_setCell w ⟨g, 1, none⟩ _ m (fun e => hgm e.symm)).trans HM.out
    go_wp2_with (first
      | (at_range; refine wpList_range_raw _ rfl _ _ _ _ rfl Tryz.underlying57 m clock es rfl hmap1 ?_)
      | fail)
    have hI0 : CrashI w g m (w.setCell ⟨g, 1, none⟩ (.bool false)).heap.size clock fp acts d cut flip L #[] es #[] ((w.setCell ⟨g, 1, none⟩ (.bool false)).alloc (.mapIter (some m) clock #[] clock)) := by
      have b1 := HB.out.set_ 1 (.bool false)
      refine ⟨b1.alloc _, ?_, ?_, hst, HH.out cut flip, heap_alloc_new _ _, ?_, hgl, hml, by simp [World.setCell], fun k hk => ?_⟩
      · have h1 := HF.out.grown (w' := w.setCell ⟨g, 1, none⟩ (.bool false)) (row := some g) ⟨rfl, rfl, rfl, by simp [World.setCell], fun k _ hne => Below.heap_setCell _ _ _ _ (fun e => hne (by rw [e]))⟩ (fun k hk cs hb => by
          cases hk
          exact absurd rfl (blk_ne hb HB.out (by decide)))
        exact h1.below ((Below.refl _ _).alloc (Nat.le_refl _) _) (Nat.le_refl _)
      · exact (Below.heap_alloc _ _ _ (by simp [World.setCell]; exact hml)).trans hmap1
      · exact ((Chg.refl g m w).set_ (.inl rfl) _).alloc _
      · have h1 := HF.out
        cases hu : d.fuse with
        | none => rw [hu] at h1; unfold FuseAt at h1; rw [hk] at h1; cases h1
        | some u =>
          rw [hu] at h1
          obtain ⟨k', hk', hb⟩ := h1
          rw [hk] at hk'
          cases hk'
          exact hb.lt
    have hr0 : (w.setCell ⟨g, 1, none⟩ (.bool false)).heap.size = w.heap.size := by simp [World.setCell]
    rw [hr0] at hI0 ⊢
    generalize (w.setCell ⟨g, 1, none⟩ (.bool false)).alloc (.mapIter (some m) clock #[] clock) = wS at hI0 ⊢
    clear c f hmap1
    have HFINE := Lib.hid hf
    have HON := Lib.hid hon
    have hold : ∀ x ∈ es.toList, x.born < clock := hst.1
    clear hf hon KO HM hst
    go_frame
    go_loopw [] (fun wr => ∃ (seen : Array Nat) (es' : Array MapEntry), CrashI w g m w.heap.size clock fp acts d cut flip L seen es' seen wr) (fun wr => wr.rangeLeft m w.heap.size)
    case atStart => exact ⟨#[], es, hI0⟩
    case round =>
      obtain ⟨seen, es1, hI⟩ := hrel
      have hiter := hI.iter
      have hmap := hI.map
      have hold1 : ∀ x ∈ es1.toList, x.born < clock := hI.st.1
      go_wp2_with (first
        | (at_next; refine wpList_next_raw _ rfl _ rfl m w.heap.size clock seen es1 rfl hiter hmap hold1 ?_ ?_)
        | fail)
      · intro h0
        go_wp2
        refine bodyPost_end (results_none rfl _ _ _) rfl ⟨rfl, ⟨⟨fp, acts, ?_, ?_⟩, ?_⟩, hI.chg⟩
        · have := hI.blk
          unfold Dk.crash
          rw [HON.out]
          exact this
        · have := hI.fuse
          unfold Dk.crash
          rw [HON.out]
          exact this
        · have := half_end hI.half (by rw [h0]; rfl)
          rw [HL.out] at this
          unfold Dk.crash
          rw [HON.out]
          exact ⟨es1, clock, hI.map, hI.st, this⟩
      · intro e he w1 hw1
        obtain ⟨q, hq, rfl, hqn⟩ := half_at hI.half he
        have hem := left_mem he
        have HI2 := Lib.hid (hI.next hw1 (seen.push q.2.2))
        have hen := run_entry_at (P := Tryz.prog) _ w.heap.size m clock seen es1 clock _ HI2.out.iter HI2.out.map hem hI.st.2.1
        simp only at hen
        generalize setBlock w1 w.heap.size (.mapIter (some m) clock (seen.push q.2.2) clock) = w2 at HI2 hen
        have HI := Lib.hid hI
        have HM := Lib.hid hmap
        clear hI hmap hiter hem he hw1
        obtain ⟨hsy, hdl⟩ := HFINE.out.file (q.1, q.2.1) (by rw [← HL.out]; exact List.mem_map.2 ⟨q, hq, rfl⟩)
        simp only at hsy hdl
        unfold fileV at hen
        obtain ⟨nm, ⟨fd, fs⟩, bn⟩ := q
        simp only at *
        obtain ⟨N, hN⟩ : ∃ N : Nat, N = Dk.kept cut ⟨fd, fs⟩ := ⟨_, rfl⟩
        have hNl : fs + N ≤ fd.size := by rw [hN]; exact Dk.kept_le (f := ⟨fd, fs⟩) hsy
        obtain ⟨X, hX⟩ : ∃ X : Int, (if cut < 0 then 0 else cut) = X := ⟨_, rfl⟩
        have hX2 : (if ((fd.size : Int) - (fs : Int)) < X then ((fd.size : Int) - (fs : Int)) else X) = (N : Int) := by
          rw [hN, ← hX]
          unfold Dk.kept
          simp only
          split <;> split <;> omega
        have HN := Lib.hid hN
        clear hN
        have HI3 := Lib.hid (HI2.out.below ((Below.refl _ w2).alloc (Nat.le_refl _) (.cells #[.string fd, .int .i64 (fs : Int)] 76)))
        have hz2 : (w2.alloc (.cells #[.string fd, .int .i64 (fs : Int)] 76)).heap.size = w2.heap.size + 1 := by simp
        have hw2 : w.heap.size < w2.heap.size := (Array.getElem?_eq_some_iff.1 HI2.out.iter).1
        go_wp2_with (first
          | (refine wpList_bytes_of rfl _ rfl (fd.extract 0 (fs + N)) rfl ?_)
          | fail)
        intro w3 c hB hbel hcap hsz3
        have HI4 := Lib.hid (HI3.out.below (hz2.symm ▸ hbel))
        have hes : (fd.extract 0 (fs + N)).size = fs + N := by rw [ByteArray.size_extract]; omega
        clear hbel HI2 HI3 hen
        obtain ⟨bb, hbb⟩ : ∃ bb : Bool, bb = decide (0 < N ∧ 1 ≤ flip ∧ flip ≤ 255) := ⟨_, rfl⟩
        have HBB := Lib.hid hbb
        clear hbb
        go_upto_region 7 with fail
        go_cut [52] (fun x wx => wx = w3 ∧ x = .bool bb)
        case first =>
          rcases Nat.eq_zero_or_pos N with h0 | h0
          · have hb1 : ((N : Int) > 0) = False := by simp; omega
            have hbf := Lib.hid (show bb = false by rw [HBB.out]; simp; omega)
            go_wp2_with fail
            go_meet
            exact ⟨rfl, by rw [hbf.out]⟩
          · have hb1 : ((N : Int) > 0) = True := by simp; omega
            by_cases h1 : 1 ≤ flip
            · by_cases h2 : flip ≤ 255
              · have hbf := Lib.hid (show bb = true by rw [HBB.out]; simp; omega)
                go_wp2_with fail
                go_meet
                exact ⟨rfl, by rw [hbf.out]⟩
              · have hbf := Lib.hid (show bb = false by rw [HBB.out]; simp; omega)
                go_wp2_with fail
                go_meet
                exact ⟨rfl, by rw [hbf.out]⟩
            · have hbf := Lib.hid (show bb = false by rw [HBB.out]; simp; omega)
              go_wp2_with fail
              go_meet
              exact ⟨rfl, by rw [hbf.out]⟩
        case rest =>
          obtain ⟨rfl, rfl⟩ := hcut
          have HT := Lib.hid (show Dk.tornL cut flip ⟨fd, fs⟩ = if bb = true then (fd.data.toList.take (fs + N)).modify (fs + N - 1) (· ^^^ UInt8.ofNat flip.toNat) else fd.data.toList.take (fs + N) from by
            unfold Dk.tornL Dk.headL
            rw [← HN.out, HBB.out]
            simp only [decide_eq_true_eq])
          go_upto_if 52 with fail
          go_cut [] (fun wx => CrashI w g m w.heap.size clock fp acts d cut flip L seen es1 (seen.push bn) wx ∧ BytesAt wx (w2.heap.size + 1) (Dk.tornL cut flip ⟨fd, fs⟩))
          case first =>
            cases hbv : bb with
            | false =>
              go_wp2_with fail
              go_meet
              exact ⟨HI4.out, by rw [HT.out, hbv]; exact hB⟩
            | true =>
              have hcond := HBB.out
              rw [hbv] at hcond
              obtain ⟨n1, n2, n3⟩ := of_decide_eq_true hcond.symm
              have hl0 : fd.data.toList.length = fd.size := by simp
              have hln : (fd.data.toList.take (fs + N)).length = fs + N := by rw [List.length_take]; omega
              have hce := hB.cell (fs + N - 1) (by omega)
              have hfz := hB.frozen (fs + N - 1) (by omega)
              clear hcond
              go_wp2_with fail
              go_meet
              have hidx : fs + N - 1 < (fd.data.toList.take (fs + N)).length := by omega
              refine ⟨HI4.out.grown (row := some (w2.heap.size + 1)) ⟨rfl, rfl, rfl, by simp [World.setCell], fun k _ hne => Below.heap_setCell _ _ _ _ (fun e => hne (by rw [e]))⟩ (fun k hk => by cases hk; omega), ?_⟩
              have h1 := hB.set_ (fs + N - 1) hidx ((fd.data.toList.take (fs + N))[fs + N - 1] ^^^ UInt8.ofNat flip.toNat)
              rw [HT.out, hbv, if_pos rfl, modify_set _ _ hidx]
              rw [← xor8 _ flip (by omega) (by omega)] at h1
              simpa using h1
          case rest =>
            obtain ⟨hC, hTB⟩ := hcut
            have HC := Lib.hid hC
            have hsz : (Dk.tornL cut flip ⟨fd, fs⟩).length = fs + N := by rw [HN.out]; exact Dk.tornL_length (f := ⟨fd, fs⟩) hsy
            have HS := Lib.hid hsz
            have HTB := Lib.hid hTB
            have HV := Lib.hid (show fileV (Dk.crashF cut flip ⟨fd, fs⟩) = .agg #[.string ⟨(Dk.tornL cut flip ⟨fd, fs⟩).toArray⟩, .int .i64 ((fs : Int) + (N : Int))] from by
              unfold fileV Dk.crashF
              rw [Dk.torn_size (f := ⟨fd, fs⟩) hsy, ← HN.out]
              simp only [Dk.torn]
              congr)
            clear hC hTB hsz HT HI4 hB
            generalize Dk.tornL cut flip ⟨fd, fs⟩ = T at *
            go_wp2_with fail
            refine wp_region_free 10 [] Stays (fun _ => none) (by kernel_rfl) (by kernel_rfl) Stays.refl (by simp) (Stays.draw _) Stays.trans (fun j φ v x y hB => by cases hB) ?_
            apply wpFree_pure rfl rfl
            · intro vs wx hk K hK
              go_simp
              exact hK _ (Stays.refl _)
            intro KK hKK
            go_simp
            refine hKK _ ?_
            clear hKK KK
            apply wpFree_pure rfl rfl
            · intro vs wx hk K hK
              go_simp
              exact hK _ (Stays.refl _)
            intro KK hKK
            go_simp
            refine hKK _ ?_
            clear hKK KK
            apply wpFree_pure rfl rfl
            · intro vs wx hk K hK
              go_simp
              exact hK _ (Stays.refl _)
            intro KK hKK
            go_simp
            refine hKK _ ?_
            clear hKK KK
            apply wpFree_pure rfl rfl
            · intro vs wx hk K hK
              have c0 := fun i => (HC.out.blk.stays hk.1).cell i
              go_simp
              exact hK _ (Stays.refl _)
            intro KK hKK
            go_simp
            refine hKK _ ?_
            clear hKK KK
            apply wpFree_pure rfl rfl
            · intro vs wx hk K hK
              go_simp
              exact hK _ (Stays.refl _)
            intro KK hKK
            go_simp
            refine hKK _ ?_
            clear hKK KK
            apply wpFree_pure rfl rfl
            · intro vs wx hk K hK
              go_simp
              exact hK _ (Stays.refl _)
            intro KK hKK
            go_simp
            refine hKK _ ?_
            clear hKK KK
            apply wpFree_pure rfl rfl
            · intro vs wx hk K hK
              have hbs := (HTB.out.stays hk.1).string (c := c)
              rw [HS.out] at hbs
              go_simp
              exact hK _ (Stays.refl _)
            intro KK hKK
            go_simp
            refine hKK _ ?_
            clear hKK KK
            apply wpFree_pure rfl rfl
            · intro vs wx hk K hK
              go_simp
              exact hK _ (Stays.refl _)
            intro KK hKK
            go_simp
            refine hKK _ ?_
            clear hKK KK
            apply wpFree_pure rfl rfl
            · intro vs wx hk K hK
              go_simp
              exact hK _ (Stays.refl _)
            intro KK hKK
            go_simp
            refine hKK _ ?_
            clear hKK KK
            apply wpFree_pure rfl rfl
            · intro vs wx hk K hK
              go_simp
              exact hK _ (Stays.refl _)
            intro KK hKK
            go_simp
            refine hKK _ ?_
            clear hKK KK
            refine wpFree_nil ?_
            intro vs w4 hs4 _
            intro KK hKK
            simp only [List.drop_succ_cons, List.drop_zero]
            have HC4 := Lib.hid (HC.out.below ((Below.refl _ wc).trans hs4))
            have hsy' := hsy
            refine wpList_half_put rfl (.tmp 66) (.tmp 67) (.tmp 72) rfl HC4.out.half HC4.out.st HC4.out.map Tryz.underlying57 Tryz.underlying9 (nm, ⟨fd, fs⟩, bn) hq hqn rfl rfl ?_ ?_
            · rw [HV.out]
              rfl
            intro es2 hh2 hs2
            have HC5 := Lib.hid (HC4.out.put hh2 hs2)
            have hmea : (leftOf es2 (seen.push bn)).size < (leftOf es1 seen).size := by
              rw [half_left hh2, half_left HI.out.half]
              exact left_less (q := (nm, ⟨fd, fs⟩, bn)) hq hqn
            have HME := Lib.hid hmea
            clear hmea hh2 hs2 HC4 hs4
            go_wp2
            go_roundw
            case rel => exact ⟨seen.push bn, es2, HC5.out⟩
            case measure =>
              have h1 := HC5.out.map
              have h2 := HC5.out.iter
              have h3 := HI.out.map
              have h4 := HI.out.iter
              simp only [World.rangeLeft, h1, h2, h3, h4]
              exact HME.out
end Go.Proofs.YtlbdpcokddpjpaaGreatDoor

/- What disk.act returns, whatever it is to do. -/
namespace Go.Proofs.YtlbdpcokddpjpaaGreatDoor
set_option linter.unusedVariables false
open Go Go.RowKit Go.BigFrame Go.MapKept Go.ChangeMaps
def Enters (P : Program) (f : FuncId) : Prop := ∀ args w, (callFunc f args).run P w = .ok (.enter f args) w
namespace Dk
def act (d : Disk) (F : Disk → Disk) : Int × Disk :=
  match d.fuse with
  | none => (0, F d)
  | some u => if u.n = 0 then (20, crash { d with fuse := none } u.cut u.flip) else (0, F { d with fuse := some { u with n := u.n - 1 } })
theorem Fine.act {d : Disk} (h : Fine d) {F : Disk → Disk} (hF : ∀ d', Fine d' → d'.files = d.files → d'.room = d.room → Fine (F d')) : Fine (act d F).2 := by
  unfold Dk.act
  cases hu : d.fuse with
  | none => exact hF d h rfl rfl
  | some u =>
    have hb := h.fuse u hu
    simp only
    split
    · exact Fine.crash (d := { d with fuse := none }) ⟨h.file, h.few, h.room, fun u h => by cases h⟩ _ _
    · exact hF _ ⟨h.file, h.few, h.room, fun v hv => by
        cases hv
        simp only
        omega⟩ rfl rfl
end Dk
section
variable {w w' : World} {g m : Nat} {d d' : Dk.Disk}
/-- The disk behind a store into its block's cell of the fuse. -/
theorem DiskAt.fused (h : DiskAt w g m d) {fp : Option Addr} {u : Option Dk.Fuse} (hu : FuseAt w fp u) (hne : ∀ k, fp = some ⟨k, 0, none⟩ → k ≠ g) : DiskAt (w.setCell ⟨g, 3, none⟩ (.pointer fp)) g m { d with fuse := u } := by
  obtain ⟨⟨fp0, acts, hb, h2⟩, hm⟩ := h
  have hgm := blk_ne_map hb hm
  refine ⟨⟨fp, acts, hb.set_ 3 _, hu.keep (fun k hk => Below.heap_setCell _ _ _ _ (hne k hk))⟩, hm.set_ (fun e => hgm e.symm) _⟩
theorem DiskAt.counted (h : DiskAt w g m d) (x : Int) : DiskAt (w.setCell ⟨g, 4, none⟩ (.int .i64 x)) g m d := by
  obtain ⟨⟨fp0, acts, hb, h2⟩, hm⟩ := h
  have hgm := blk_ne_map hb hm
  refine ⟨⟨fp0, x, hb.set_ 4 _, h2.keep (fun k hk => Below.heap_setCell _ _ _ _ (fun e => ?_))⟩, hm.set_ (fun e => hgm e.symm) _⟩
  simp only at e
  subst e
  cases hu : d.fuse with
  | none => rw [hu] at h2; rw [show fp0 = none from h2] at hk; cases hk
  | some u =>
    rw [hu] at h2
    obtain ⟨k', hk', hb'⟩ := h2
    rw [hk] at hk'
    cases hk'
    exact absurd rfl (blk_ne hb' hb (by decide))
end
/-- What is to be done, to a disk that has the same files: it comes of it what F says. -/
def Does (g m j : Nat) (d : Dk.Disk) (fn : FuncId) (caps : Array Value) (F : Dk.Disk → Dk.Disk) (w : World) : Prop :=
  ∀ W d', DiskAt W g m d' → Chg g m w W → d'.files = d.files → d'.room = d.room → d'.on = d.on → Dk.Fine d' → Calls Tryz.prog fn caps W fun e W' => e = .returned (.tuple #[]) ∧ DiskAt W' g m (F d') ∧ Chj g m j W W'
set_option maxRecDepth 100000 in
set_option maxHeartbeats 1000000 in
theorem act_any (w : World) (g m j : Nat) (d : Dk.Disk) (h : DiskAt w g m d) (hf : Dk.Fine d) (fn : FuncId) (caps : Array Value) (F : Dk.Disk → Dk.Disk) (hen : Enters Tryz.prog fn) (hF : Does g m j d fn caps F w) :
    Calls Tryz.prog 73 #[.pointer (some ⟨g, 0, none⟩), .func (.func fn) #[] caps] w fun e w' => e = .returned (.int .i64 (Dk.act d F).1) ∧ DiskAt w' g m (Dk.act d F).2 ∧ Chj g m j w w' := by
  have HD := Lib.hid h
  have HF := Lib.hid hF
  have HE := Lib.hid hen
  have HFI := Lib.hid hf
  obtain ⟨⟨fp, acts, hb, hfu⟩, hm⟩ := h
  have c := fun i => hb.cell i
  have f := fun i => hb.frozen i
  have hgl := hb.lt
  have HB := Lib.hid hb
  have HU := Lib.hid hfu
  have HM := Lib.hid hm
  have en := fun args w => hen args w
  clear hb hfu hm hF hen
  cases hu : d.fuse with
  | none =>
    have hfp : fp = none := by have := HU.out; rw [hu] at this; exact this
    subst hfp
    have HA := Lib.hid (show Dk.act d F = (0, F d) from by unfold Dk.act; rw [hu])
    clear hu hf
    go_enter Tryz.func73, Tryz.ntmps73
    go_wp2_with fail
    refine (HF.out w d HD.out (Chg.refl _ _ _) rfl rfl rfl HFI.out).mono ?_
    rintro x w2 ⟨rfl, hd2, hc2⟩
    obtain ⟨⟨fp2, acts2, hb2, _⟩, _⟩ := id hd2
    have c2 := fun i => hb2.cell i
    have f2 := fun i => hb2.frozen i
    have HD2 := Lib.hid hd2
    have HC2 := Lib.hid hc2
    clear hd2 hc2 c f hb2
    go_wp2
    go_ret
    rw [HA.out]
    exact ⟨rfl, HD2.out.counted _, HC2.out.set_ (.inl rfl) _⟩
  | some u =>
    obtain ⟨k, rfl, hk⟩ := show ∃ k, fp = some ⟨k, 0, none⟩ ∧ Blk w k 88 #[.int .i64 u.n, .int .i64 u.cut, .int .i64 u.flip] from by have := HU.out; rw [hu] at this; exact this
    have hkg : k ≠ g := blk_ne hk HB.out (by decide)
    have ck := fun i => hk.cell i
    obtain ⟨b1, b2, b3, b4, b5, b6⟩ := hf.fuse u hu
    have HK := Lib.hid hk
    have hkl := hk.lt
    clear hk hf
    cases h0 : (u.n == 0) with
    | true =>
      have hn0 : u.n = 0 := by simpa using h0
      have HA := Lib.hid (show Dk.act d F = (20, Dk.crash { d with fuse := none } u.cut u.flip) from by unfold Dk.act; rw [hu]; simp only; rw [if_pos hn0])
      have HD1 := Lib.hid (HD.out.fused (fp := none) (u := none) rfl (fun k hk => by cases hk))
      have HFI1 := Lib.hid (show Dk.Fine { d with fuse := none } from ⟨HFI.out.file, HFI.out.few, HFI.out.room, fun u h => by cases h⟩)
      have KC := Lib.hid (fun W (hW : Stays (w.setCell ⟨g, 3, none⟩ (.pointer none)) W) => crash_any W g m { d with fuse := none } (HD1.out.stays hW) HFI1.out u.cut u.flip ⟨b3, b4⟩ ⟨b5, b6⟩)
      clear hu hn0
      go_enter Tryz.func73, Tryz.ntmps73
      go_wp2_with fail
      have HK1 := Lib.hid (show Blk (w.setCell ⟨g, 3, none⟩ (.pointer none)) k 88 #[.int .i64 u.n, .int .i64 u.cut, .int .i64 u.flip] from HK.out.far (p := ⟨g, 3, none⟩) hkg _)
      have HC1 := Lib.hid (show Chj g m j w (w.setCell ⟨g, 3, none⟩ (.pointer none)) from (Chj.refl g m j w).set_ (.inl rfl) _)
      clear c f ck
      generalize w.setCell ⟨g, 3, none⟩ (.pointer none) = w1 at *
      refine wp_region_free 9 [] Stays (fun _ => none) (by kernel_rfl) (by kernel_rfl) Stays.refl (by simp) (Stays.draw _) Stays.trans (fun j φ v x y hB => by cases hB) ?_
      apply wpFree_pure rfl rfl
      · intro vs wx hk K hK
        go_simp
        exact hK _ (Stays.refl _)
      intro KK hKK
      go_simp
      refine hKK _ ?_
      clear hKK KK
      apply wpFree_pure rfl rfl
      · intro vs wx hk K hK
        go_simp
        exact hK _ (Stays.refl _)
      intro KK hKK
      go_simp
      refine hKK _ ?_
      clear hKK KK
      apply wpFree_pure rfl rfl
      · intro vs wx hk K hK
        go_simp
        exact hK _ (Stays.refl _)
      intro KK hKK
      go_simp
      refine hKK _ ?_
      clear hKK KK
      apply wpFree_pure rfl rfl
      · intro vs wx hk K hK
        go_simp
        exact hK _ (Stays.refl _)
      intro KK hKK
      go_simp
      refine hKK _ ?_
      clear hKK KK
      apply wpFree_pure rfl rfl
      · intro vs wx hk K hK
        have c0 := fun i => (HK1.out.stays hk.1).cell i
        go_simp
        exact hK _ (Stays.refl _)
      intro KK hKK
      go_simp
      refine hKK _ ?_
      clear hKK KK
      apply wpFree_pure rfl rfl
      · intro vs wx hk K hK
        go_simp
        exact hK _ (Stays.refl _)
      intro KK hKK
      go_simp
      refine hKK _ ?_
      clear hKK KK
      apply wpFree_pure rfl rfl
      · intro vs wx hk K hK
        go_simp
        exact hK _ (Stays.refl _)
      intro KK hKK
      go_simp
      refine hKK _ ?_
      clear hKK KK
      apply wpFree_pure rfl rfl
      · intro vs wx hk K hK
        go_simp
        exact hK _ (Stays.refl _)
      intro KK hKK
      go_simp
      refine hKK _ ?_
      clear hKK KK
      apply wpFree_pure rfl rfl
      · intro vs wx hk K hK
        have c0 := fun i => (HK1.out.stays hk.1).cell i
        go_simp
        exact hK _ (Stays.refl _)
      intro KK hKK
      go_simp
      refine hKK _ ?_
      clear hKK KK
      refine wpFree_nil ?_
      intro vs w2 hs2 _
      intro KK hKK
      simp only [List.drop_succ_cons, List.drop_zero]
      go_wp2_with fail
      refine (KC.out w2 hs2).mono ?_
      rintro x w3 ⟨rfl, hd3, hc3⟩
      have HC3 := Lib.hid ((HC1.out.stays hs2).trans (Chj.of hc3))
      have HD3 := Lib.hid hd3
      clear hs2 hc3 hd3
      go_wp2
      go_ret
      rw [HA.out]
      exact ⟨rfl, HD3.out, HC3.out⟩
    | false =>
      have hn0 : u.n ≠ 0 := by simpa using h0
      have HA := Lib.hid (show Dk.act d F = (0, F { d with fuse := some { u with n := u.n - 1 } }) from by unfold Dk.act; rw [hu]; simp only; rw [if_neg hn0])
      have HFI1 := Lib.hid (show Dk.Fine { d with fuse := some { u with n := u.n - 1 } } from ⟨HFI.out.file, HFI.out.few, HFI.out.room, fun v hv => by
        cases hv
        simp only
        omega⟩)
      have hnn : -9223372036854775808 ≤ u.n - 1 ∧ u.n - 1 ≤ 9223372036854775807 := by omega
      have hwr : IntKind.i64.wrap (u.n - 1) = u.n - 1 := IntWalk.i64_in _ hnn
      clear hu
      go_enter Tryz.func73, Tryz.ntmps73
      go_wp2_with fail
      clear c f ck
      refine wp_region_free 16 [] Stays (fun | 15 => some fun v w' => ∃ k2, v = .pointer (some ⟨k2, 0, none⟩) ∧ w.heap.size ≤ k2 ∧ Blk w' k2 88 #[.int .i64 (u.n - 1), .int .i64 u.cut, .int .i64 u.flip] | _ => none) (by kernel_rfl) (by kernel_rfl) Stays.refl (by simp) (Stays.draw _) Stays.trans ?_ ?_
      · intro i2 φ v x y hB hp hxy
        split at hB <;> cases hB
        obtain ⟨k2, hj, h1, hb⟩ := hp
        exact ⟨k2, hj, h1, hb.stays hxy⟩
      · apply wpFree_pure rfl rfl
        · intro vs wx hk K hK
          go_simp
          exact hK _ (Stays.refl _)
        intro KK hKK
        go_simp
        refine hKK _ ?_
        clear hKK KK
        apply wpFree_pure rfl rfl
        · intro vs wx hk K hK
          go_simp
          exact hK _ (Stays.refl _)
        intro KK hKK
        go_simp
        refine hKK _ ?_
        clear hKK KK
        apply wpFree_pure rfl rfl
        · intro vs wx hk K hK
          go_simp
          exact hK _ (Stays.refl _)
        intro KK hKK
        go_simp
        refine hKK _ ?_
        clear hKK KK
        apply wpFree_pure rfl rfl
        · intro vs wx hk K hK
          go_simp
          exact hK _ (Stays.refl _)
        intro KK hKK
        go_simp
        refine hKK _ ?_
        clear hKK KK
        apply wpFree_pure rfl rfl
        · intro vs wx hk K hK
          have c0 := fun i => (HK.out.stays hk.1).cell i
          go_simp
          exact hK _ (Stays.refl _)
        intro KK hKK
        go_simp
        refine hKK _ ?_
        clear hKK KK
        apply wpFree_pure rfl rfl
        · intro vs wx hk K hK
          go_simp
          exact hK _ (Stays.refl _)
        intro KK hKK
        go_simp
        refine hKK _ ?_
        clear hKK KK
        apply wpFree_pure rfl rfl
        · intro vs wx hk K hK
          go_simp
          exact hK _ (Stays.refl _)
        intro KK hKK
        go_simp
        refine hKK _ ?_
        clear hKK KK
        apply wpFree_pure rfl rfl
        · intro vs wx hk K hK
          go_simp
          exact hK _ (Stays.refl _)
        intro KK hKK
        go_simp
        refine hKK _ ?_
        clear hKK KK
        apply wpFree_pure rfl rfl
        · intro vs wx hk K hK
          go_simp
          exact hK _ (Stays.refl _)
        intro KK hKK
        go_simp
        refine hKK _ ?_
        clear hKK KK
        apply wpFree_pure rfl rfl
        · intro vs wx hk K hK
          have c0 := fun i => (HK.out.stays hk.1).cell i
          go_simp
          exact hK _ (Stays.refl _)
        intro KK hKK
        go_simp
        refine hKK _ ?_
        clear hKK KK
        apply wpFree_pure rfl rfl
        · intro vs wx hk K hK
          go_simp
          exact hK _ (Stays.refl _)
        intro KK hKK
        go_simp
        refine hKK _ ?_
        clear hKK KK
        apply wpFree_pure rfl rfl
        · intro vs wx hk K hK
          go_simp
          exact hK _ (Stays.refl _)
        intro KK hKK
        go_simp
        refine hKK _ ?_
        clear hKK KK
        apply wpFree_pure rfl rfl
        · intro vs wx hk K hK
          go_simp
          exact hK _ (Stays.refl _)
        intro KK hKK
        go_simp
        refine hKK _ ?_
        clear hKK KK
        apply wpFree_pure rfl rfl
        · intro vs wx hk K hK
          have c0 := fun i => (HK.out.stays hk.1).cell i
          go_simp
          exact hK _ (Stays.refl _)
        intro KK hKK
        go_simp
        refine hKK _ ?_
        clear hKK KK
        apply wpFree_pure rfl rfl
        · intro vs wx hk K hK
          go_simp
          exact hK _ (Stays.refl _)
        intro KK hKK
        go_simp
        refine hKK _ ?_
        clear hKK KK
        refine wpFree_fact rfl ?_ ?_
        · intro vs wx hk K hK
          go_simp
          exact hK _ _ (Stays.alloc _ _) ⟨_, rfl, hk.1.size, Blk.new _ _ _⟩
        intro KK hKK
        go_simp
        refine hKK _ ?_
        clear hKK KK
        refine wpFree_nil ?_
        intro vs w2 hs2 hf2
        obtain ⟨k2, hj, hjge, hbj⟩ := hf2 15 _ (by omega) rfl
        intro KK hKK
        rw [hj]
        simp only [List.drop_succ_cons, List.drop_zero]
        have HB2 := Lib.hid (HB.out.stays hs2)
        have HD2 := Lib.hid ((HD.out.stays hs2).fused (fp := some ⟨k2, 0, none⟩) (u := some { u with n := u.n - 1 }) ⟨k2, rfl, hbj⟩ (fun k hk => by cases hk; omega))
        have HC2 := Lib.hid (show Chg g m w (w2.setCell ⟨g, 3, none⟩ (.pointer (some ⟨k2, 0, none⟩))) from ((Chg.refl g m w).stays hs2).set_ (.inl rfl) _)
        have c2 := fun i => HB2.out.cell i
        have f2 := fun i => HB2.out.frozen i
        clear hs2 hf2 hbj
        have en := fun args w => HE.out args w
        go_wp2_with fail
        refine (HF.out _ _ HD2.out HC2.out rfl rfl rfl HFI1.out).mono ?_
        rintro x w3 ⟨rfl, hd3, hc3⟩
        obtain ⟨⟨fp3, acts3, hb3, _⟩, _⟩ := id hd3
        have c3 := fun i => hb3.cell i
        have f3 := fun i => hb3.frozen i
        have HD3 := Lib.hid hd3
        have HC3 := Lib.hid ((Chj.of HC2.out).trans hc3)
        clear hd3 hc3 c2 f2 hb3
        go_wp2
        go_ret
        rw [HA.out]
        exact ⟨rfl, HD3.out.counted _, HC3.out.set_ (.inl rfl) _⟩
end Go.Proofs.YtlbdpcokddpjpaaGreatDoor
