/- Parts, joined. -/
import Derived.Test.YtjikgmbhnknojaaGreatDoorA2
import Derived.Test.YtjikgmbhnknojaaGreatDoorP3
import Derived.Deep.Cut
import Derived.Deep.DeepCutAuto
import Derived.Laws.ResultCell
/- strings.Builder in a block of its own: WriteByte, WriteString. -/
namespace Go.Proofs.YtjikgmbhnknojaaGreatDoor
set_option linter.unusedVariables false
open Go Go.RowKit Go.BigFrame
theorem OwnB.blk {w w' : World} {B : Nat} {v : Value} {l : List UInt8} (h : OwnB w B v l) (hb : ∀ g, v.ownBlock = some g → w'.heap[g]? = w.heap[g]?) : OwnB w' B v l := ownsRow_blk h hb
theorem OwnB.form {w : World} {B : Nat} {v : Value} {l : List UInt8} (h : OwnB w B v l) : ∃ A c, v = .slice A l.length c ∧ (∀ g, v.ownBlock = some g → B ≤ g) := by
  rcases h.2 with ⟨rfl, h2⟩ | ⟨g, cap, cur, rfl, hB, hh, hnc, hcm, hcs, htake⟩
  · exact ⟨none, 0, by rw [h2], fun g hg => by simp [Value.ownBlock] at hg⟩
  · exact ⟨_, cap, rfl, fun g' hg => by simp [Value.ownBlock] at hg; omega⟩
/-- A builder in the block b, with the bytes l; what it has lies from B on. -/
def BAt (w : World) (b B : Nat) (l : List UInt8) : Prop :=
  ∃ p A c, Blk w b 98 #[p, .slice A l.length c] ∧ (p = .pointer none ∨ p = .pointer (some ⟨b, 0, none⟩)) ∧ OwnB w B (.slice A l.length c) l
theorem BAt.below {w w' : World} {b B : Nat} {l : List UInt8} (h : BAt w b B l) (hb : Below w.heap.size w w') : BAt w' b B l := by
  obtain ⟨p, A, c, h1, h2, h3⟩ := h
  exact ⟨p, A, c, h1.below hb h1.lt, h2, h3.below hb (Nat.le_refl _)⟩
theorem bcheck_any (b B : Nat) (l : List UInt8) (w : World) (h : BAt w b B l) (hbB : b < B) :
    Calls Tryz.prog 89 #[.pointer (some ⟨b, 0, none⟩)] w fun e w' => e = .returned (.tuple #[]) ∧ (∃ A c, Blk w' b 98 #[.pointer (some ⟨b, 0, none⟩), .slice A l.length c] ∧ OwnB w' B (.slice A l.length c) l) ∧ Below b w w' ∧ w'.heap.size = w.heap.size := by
  obtain ⟨p, A, c, h1, h2, h3⟩ := h
  rcases h2 with rfl | rfl
  · have hsh : w.shape? b = some (98, 2) := by
      unfold World.shape?
      rw [show w.heap[b]? = _ from h1]
      rfl
    refine (check_fresh 98 2 (by decide) (by kernel_rfl) b w (h1.cell 0) hsh (h1.frozen 0)).mono ?_
    rintro e w' ⟨rfl, rfl⟩
    have hb2 : ∀ j, j ≠ b → (w.setCell ⟨b, 0, none⟩ (.pointer (some ⟨b, 0, none⟩))).heap[j]? = w.heap[j]? := fun j hj => Below.heap_setCell w ⟨b, 0, none⟩ _ j (by simpa using hj)
    refine ⟨rfl, ⟨A, c, h1.set_ 0 _, h3.blk fun g hg => hb2 g ?_⟩, ⟨rfl, rfl, rfl, by simp, fun j hj => hb2 j (by omega)⟩, by simp⟩
    have := (World.ownsRow.lt h3 g hg).1
    omega
  · refine (check_used b w (h1.cell 0)).mono ?_
    rintro e w' ⟨rfl, rfl⟩
    exact ⟨rfl, ⟨A, c, h1, h3⟩, Below.refl _ _, rfl⟩
theorem BAt.wrote {w w4 : World} {b B n cp cp2 : Nat} {A A2 : Option Addr} {l2 : List UInt8} {m : Nat} (h : Blk w4 b 98 #[.pointer (some ⟨b, 0, none⟩), .slice A m cp]) (ho : OwnB w4 B (.slice A2 l2.length cp2) l2) (hb : Below b w w4) (hbB : b < B) (hn : n = l2.length) :
    BAt (w4.setCell ⟨b, 1, none⟩ (.slice A2 n cp2)) b B l2 ∧ Below b w (w4.setCell ⟨b, 1, none⟩ (.slice A2 n cp2)) := by
  subst hn
  have hx := h.set_ 1 (.slice A2 l2.length cp2)
  refine ⟨⟨_, A2, cp2, hx, .inr rfl, ho.blk fun g hg => Below.heap_setCell w4 ⟨b, 1, none⟩ _ g ?_⟩, hb.setCell (Nat.le_refl _) _⟩
  have := (World.ownsRow.lt ho g hg).1
  show g ≠ b
  omega
set_option maxRecDepth 100000 in
set_option maxHeartbeats 400000 in
theorem wbyte_any (b B : Nat) (l : List UInt8) (c : UInt8) (w : World) (h : BAt w b B l) (hbB : b < B) (hB : B ≤ w.heap.size) (hl : l.length ≤ 1000000) :
    Calls Tryz.prog 50 #[.pointer (some ⟨b, 0, none⟩), .int .u8 (c.toNat : Int)] w fun e w' => e = .returned .nilIface ∧ BAt w' b B (l ++ [c]) ∧ Below b w w' := by
  have K := Lib.hid (bcheck_any b B l w h hbB)
  clear h
  go_enter Tryz.func50, Tryz.ntmps50
  go_wp2_with fail
  refine K.out.mono ?_
  rintro e w1 ⟨rfl, ⟨A, cp, hblk, hown⟩, hb1, hsz⟩
  have c1 : w1.cell? ⟨b, 1, none⟩ = some (.slice A l.length cp) := hblk.cell 1
  have f1 := hblk.frozen 1
  have HSZ := Lib.hid hsz
  clear K hsz
  go_wp2_with (at_builtin; refine wpList_append_bytes rfl (.tmp 11) (.tmp 13) rfl B (.slice A l.length cp) l rfl (hown.alloc _) ⟨w1.heap.size, 0, none⟩ 1 1 [c] rfl rfl (newsU8 w1 5 [c]) (by simp; omega) (by have := HSZ.out; simp; omega) ?_; intro o4 w4 hown4 hb4; obtain ⟨A2, cp2, rfl, hge⟩ := hown4.form; have hblk4 := (hblk.alloc (.cells #[.int .u8 (c.toNat : Int)] 5)).below hb4 hbB; have c4 : w4.cell? ⟨b, 1, none⟩ = some (.slice A l.length cp) := hblk4.cell 1; have f4 := hblk4.frozen 1)
  go_ret
  obtain ⟨h1, h2⟩ := BAt.wrote (w := w) (n := l.length + 1) hblk4 hown4 (hb1.trans (((Below.refl b w1).alloc (by have := HSZ.out; omega) _).trans (hb4.mono (Nat.le_of_lt hbB)))) hbB (by simp)
  exact ⟨rfl, h1, h2⟩
set_option maxRecDepth 100000 in
set_option maxHeartbeats 400000 in
theorem wstr_any (b B : Nat) (l : List UInt8) (t : ByteArray) (w : World) (h : BAt w b B l) (hbB : b < B) (hB : B ≤ w.heap.size) (hl : l.length ≤ 1000000) (ht : t.size ≤ 1000000) :
    Calls Tryz.prog 51 #[.pointer (some ⟨b, 0, none⟩), .string t] w fun e w' => (∃ v, e = .returned v) ∧ BAt w' b B (l ++ t.data.toList) ∧ Below b w w' := by
  have K := Lib.hid (bcheck_any b B l w h hbB)
  clear h
  go_enter Tryz.func51, Tryz.ntmps51
  go_wp2_with fail
  refine K.out.mono ?_
  rintro e w1 ⟨rfl, ⟨A, cp, hblk, hown⟩, hb1, hsz⟩
  have c1 : w1.cell? ⟨b, 1, none⟩ = some (.slice A l.length cp) := hblk.cell 1
  have f1 := hblk.frozen 1
  have HSZ := Lib.hid hsz
  clear K hsz
  go_wp2_with (at_builtin; refine wpList_append_str rfl (.tmp 12) (.tmp 13) rfl B (.slice A l.length cp) l rfl hown t rfl (by omega) (by have := HSZ.out; omega) ?_; intro o4 w4 hown4 hb4; obtain ⟨A2, cp2, rfl, hge⟩ := hown4.form; have hblk4 := hblk.below hb4 hbB; have c4 : w4.cell? ⟨b, 1, none⟩ = some (.slice A l.length cp) := hblk4.cell 1; have f4 := hblk4.frozen 1)
  go_ret2
  obtain ⟨h1, h2⟩ := BAt.wrote (w := w) (n := l.length + t.size) hblk4 hown4 (hb1.trans (hb4.mono (Nat.le_of_lt hbB))) hbB (by simp)
  exact ⟨⟨_, rfl⟩, h1, h2⟩
end Go.Proofs.YtjikgmbhnknojaaGreatDoor

/- What lex.Quote returns: the text between signs. -/
namespace Go.Proofs.YtjikgmbhnknojaaGreatDoor
set_option linter.unusedVariables false
open Go Go.RowKit Go.BigFrame
theorem bstring_any (b B : Nat) (l : List UInt8) (w : World) (h : BAt w b B l) (hbB : b < B) :
    Calls Tryz.prog 53 #[.pointer (some ⟨b, 0, none⟩)] w fun e w' => e = .returned (.string ⟨l.toArray⟩) ∧ Below b w w' := by
  obtain ⟨p, A, c, h1, h2, h3⟩ := h
  have hlt := h1.lt
  refine Tryz.Builder_String_any b b l w ?_ (Nat.le_of_lt hlt)
  have hx : ∀ q, p = q → Lib.BuilderAt 98 5 b b q (Lib.byteCells l) w := fun q e => by
    subst e
    refine ⟨Nat.le_refl _, _, h1, ?_, fun e => ?_⟩
    · have := h3.less (Nat.le_of_lt hbB)
      unfold OwnB at this
      rw [Lib.byteCells_length]
      exact this
    · have := (World.ownsRow.lt h3 b e).1
      omega
  rcases h2 with h | h
  · exact .inl (hx _ h)
  · exact .inr (hx _ h)
theorem take_snoc' (s : ByteArray) (k : Nat) (h : k < s.size) : s.data.toList.take (k + 1) = s.data.toList.take k ++ [s[k]] := take_snoc s k h
theorem ext_one (s : ByteArray) (k : Nat) (h : k < s.size) : (s.extract k (k + 1)).data.toList = [s[k]] := by
  rw [ext_mid s k 1, List.drop_eq_getElem_cons (by simpa using h)]
  rfl
set_option maxRecDepth 100000 in
set_option maxHeartbeats 1600000 in
theorem quote_any (s : ByteArray) (w : World) (hs : s.size ≤ 100000) :
    Calls Tryz.prog 14 #[.string s] w fun e w' => e = .returned (.string ⟨(Ad.quote s.data.toList).toArray⟩) ∧ Below w.heap.size w w' := by
  obtain ⟨L, hL⟩ : ∃ L, L = s.data.toList := ⟨_, rfl⟩
  have HLen := Lib.hid (show L.length = s.size by rw [hL]; simp)
  have HL := Lib.hid hL
  rw [← hL]
  clear hL
  have K1 := Lib.hid (wbyte_any w.heap.size (w.heap.size + 1) [] 34 (w.alloc (.cells #[.pointer none, .slice none 0 0] 98)) ⟨_, none, 0, Blk.new w _ _, .inl rfl, OwnB.nil _ _⟩ (by omega) (by simp) (by simp))
  go_enter Tryz.func14, Tryz.ntmps14
  go_wp2_with fail
  refine K1.out.mono ?_
  rintro e w1 ⟨rfl, hbat, hb1⟩
  have HB1 := Lib.hid ((((Below.refl _ w).alloc (Nat.le_refl _) (.cells #[.pointer none, .slice none 0 0] 98))).trans hb1)
  clear hb1 K1
  go_wp2_with fail
  go_loopw [9] (fun x wr => ∃ k : Nat, x = .int .i64 k ∧ k ≤ s.size ∧ BAt wr w.heap.size (w.heap.size + 1) (34 :: Ad.quoteL (L.take k)) ∧ Below w.heap.size w wr ∧ w.heap.size + 1 ≤ wr.heap.size) (fun x _ => s.size - (intOf x).toNat)
  case atStart => exact ⟨0, rfl, by omega, by simpa [Ad.quoteL] using hbat, HB1.out, by obtain ⟨_, _, _, h, _⟩ := hbat; exact h.lt⟩
  case round =>
    obtain ⟨k, rfl, hk, hbat, hbel, hsz⟩ := hrel
    by_cases hlt : k < s.size
    · have hll := Ad.quoteL_len (L.take k)
      rw [List.length_take] at hll
      have HQL := Lib.hid (show (34 :: Ad.quoteL (L.take k)).length ≤ 1000000 by simp; omega)
      have HS := Lib.hid (show 34 :: Ad.quoteL (L.take (k + 1)) = (34 :: Ad.quoteL (L.take k)) ++ Ad.quoteB s[k] by rw [HL.out, take_snoc s k hlt, Ad.quoteL_snoc]; rfl)
      have HX := Lib.hid (ext_one s k hlt)
      have hxs : (s.extract k (k + 1)).size = 1 := by rw [ByteArray.size_extract]; omega
      have hi1 : ∀ W : World, (Instr.index 9 (.string s) (.int .i64 (k : Int))).run Tryz.prog W = .ok (.int .u8 (s[k].toNat : Int)) W := fun W => idx_atu s k hlt rfl W
      have hc := s[k].toNat_lt
      clear hll
      generalize s[k] = c at *
      by_cases hq : c.toNat = 34 ∨ c.toNat = 92
      · have HB := Lib.hid (show Ad.quoteB c = [92, c] by unfold Ad.quoteB; rw [if_pos hq])
        have K2 := Lib.hid (wstr_any w.heap.size (w.heap.size + 1) _ (⟨#[92]⟩ ++ s.extract k (k + 1)) wr hbat (by omega) hsz HQL.out (by rw [ByteArray.size_append, hxs]; exact (by decide : (⟨#[92]⟩ : ByteArray).size + 1 ≤ 1000000)))
        obtain ⟨x1, hx1⟩ : ∃ x, ((c.toNat : Int) == 34) = x := ⟨_, rfl⟩
        obtain ⟨x2, hx2⟩ : ∃ x, ((c.toNat : Int) == 92) = x := ⟨_, rfl⟩
        have hxx : x1 = true ∨ (x1 = false ∧ x2 = true) := by
          rcases hq with h | h
          · left; rw [← hx1, h]; rfl
          · right; exact ⟨by rw [← hx1, h]; rfl, by rw [← hx2, h]; rfl⟩
        clear hq hbat
        rcases hxx with rfl | ⟨rfl, rfl⟩
        all_goals
          go_wp2_with fail
          refine K2.out.mono ?_
          rintro e w2 ⟨⟨v, rfl⟩, hbat2, hb2⟩
          have e2 : (34 :: Ad.quoteL (L.take k)) ++ (⟨#[92]⟩ ++ s.extract k (k + 1) : ByteArray).data.toList = 34 :: Ad.quoteL (L.take (k + 1)) := by
            rw [HS.out, HB.out, ByteArray.data_append, Array.toList_append, HX.out]
            rfl
          rw [e2] at hbat2
          have HB2 := Lib.hid (hbel.trans hb2)
          have HZ := Lib.hid (show w.heap.size + 1 ≤ w2.heap.size by obtain ⟨_, _, _, h, _⟩ := hbat2; exact h.lt)
          clear e2 hb2 hbel hsz hi1
          go_wp2_with fail
          go_roundw
          case rel => exact ⟨k + 1, by go_num, by omega, hbat2, HB2.out, HZ.out⟩
          case measure => simp [intOf]; omega
      · have y1 : ((c.toNat : Int) == 34) = false := by rw [beq_eq_false_iff_ne]; omega
        have y2 : ((c.toNat : Int) == 92) = false := by rw [beq_eq_false_iff_ne]; omega
        by_cases hp : 32 ≤ c.toNat ∧ c.toNat ≤ 126
        · have HB := Lib.hid (show Ad.quoteB c = [c] by unfold Ad.quoteB; rw [if_neg hq, if_pos hp])
          have K2 := Lib.hid (wbyte_any w.heap.size (w.heap.size + 1) _ c wr hbat (by omega) hsz HQL.out)
          obtain ⟨p1, p2⟩ := hp
          clear hq hbat
          go_wp2_with fail
          refine K2.out.mono ?_
          rintro e w2 ⟨rfl, hbat2, hb2⟩
          rw [← HB.out, ← HS.out] at hbat2
          have HB2 := Lib.hid (hbel.trans hb2)
          have HZ := Lib.hid (show w.heap.size + 1 ≤ w2.heap.size by obtain ⟨_, _, _, h, _⟩ := hbat2; exact h.lt)
          clear hb2 hbel hsz hi1
          go_wp2_with fail
          go_roundw
          case rel => exact ⟨k + 1, by go_num, by omega, hbat2, HB2.out, HZ.out⟩
          case measure => simp [intOf]; omega
        · have HB := Lib.hid (show Ad.quoteB c = [92, 120] ++ P.hexB c by unfold Ad.quoteB; rw [if_neg hq, if_neg hp])
          have KH := hex_any (s.extract k (k + 1)) wr (by omega)
          rw [HX.out] at KH
          obtain ⟨t, ht⟩ : ∃ t : ByteArray, t = ⟨(P.hex [c]).toArray⟩ := ⟨_, rfl⟩
          have hts : t.size = 2 := by rw [ht]; simp [P.hex, P.hexB, ByteArray.size]
          have HTD := Lib.hid (show t.data.toList = P.hexB c by rw [ht]; simp [P.hex])
          rw [← ht] at KH
          clear ht
          have KK := Lib.hid KH
          have BA := Lib.hid hbat
          have hpp : c.toNat < 32 ∨ (¬ c.toNat < 32 ∧ 126 < c.toNat) := by omega
          clear hq hp KH hbat
          rcases hpp with p1 | ⟨p1, p2⟩
          all_goals
            go_wp2_with fail
            refine KK.out.mono ?_
            rintro e w2 ⟨rfl, hb2⟩
            have K2 := Lib.hid (wstr_any w.heap.size (w.heap.size + 1) _ (⟨#[92, 120]⟩ ++ t) w2 (BA.out.below hb2) (by omega) (by have := hb2.size; omega) HQL.out (by rw [ByteArray.size_append, hts]; exact (by decide : (⟨#[92, 120]⟩ : ByteArray).size + 2 ≤ 1000000)))
            have HB2 := Lib.hid (hbel.trans (hb2.mono (by omega)))
            clear hb2 hbel
            go_wp2_with fail
            refine K2.out.mono ?_
            rintro e w3 ⟨⟨v, rfl⟩, hbat2, hb3⟩
            have e2 : (34 :: Ad.quoteL (L.take k)) ++ (⟨#[92, 120]⟩ ++ t : ByteArray).data.toList = 34 :: Ad.quoteL (L.take (k + 1)) := by
              rw [HS.out, HB.out, ByteArray.data_append, Array.toList_append, HTD.out]
            rw [e2] at hbat2
            have HB3 := Lib.hid (HB2.out.trans hb3)
            have HZ := Lib.hid (show w.heap.size + 1 ≤ w3.heap.size by obtain ⟨_, _, _, h, _⟩ := hbat2; exact h.lt)
            clear e2 hb3 hsz hi1
            go_wp2_with fail
            go_roundw
            case rel => exact ⟨k + 1, by go_num, by omega, hbat2, HB3.out, HZ.out⟩
            case measure => simp [intOf]; omega
    · obtain rfl : k = s.size := by omega
      have hll := Ad.quoteL_len (L.take s.size)
      rw [List.length_take] at hll
      have HQL := Lib.hid (show (34 :: Ad.quoteL (L.take s.size)).length ≤ 1000000 by simp; omega)
      have hfull : L.take s.size = L := List.take_of_length_le (Nat.le_of_eq HLen.out)
      have HF := Lib.hid hfull
      clear hll hfull
      have K2 := Lib.hid (wbyte_any w.heap.size (w.heap.size + 1) _ 34 wr hbat (by omega) hsz HQL.out)
      clear hbat
      go_wp2_with fail
      refine K2.out.mono ?_
      rintro e w2 ⟨rfl, hbat2, hb2⟩
      have K3 := Lib.hid (bstring_any w.heap.size (w.heap.size + 1) _ w2 hbat2 (by omega))
      have HB2 := Lib.hid (hbel.trans hb2)
      clear hbat2 hb2 hbel
      go_wp2_with fail
      refine K3.out.mono ?_
      rintro e w3 ⟨rfl, hb3⟩
      go_wp2_with fail
      go_ret
      refine ⟨?_, HB2.out.trans hb3⟩
      rw [HF.out]
      rfl
end Go.Proofs.YtjikgmbhnknojaaGreatDoor

/- What path.Parse returns: some path, or an error; nothing that was there turns. -/
namespace Go.Proofs.YtjikgmbhnknojaaGreatDoor
set_option linter.unusedVariables false
open Go Go.RowKit Go.BigFrame
/-- Nothing but the block b turns. -/
structure Only (b : Nat) (w w' : World) : Prop where
  os : w'.os = w.os
  tape : w'.tape = w.tape
  output : w'.output = w.output
  size : w'.heap.size = w.heap.size
  block : ∀ j, j ≠ b → w'.heap[j]? = w.heap[j]?
theorem Only.refl (b : Nat) (w : World) : Only b w w := ⟨rfl, rfl, rfl, rfl, fun _ _ => rfl⟩
theorem Only.set {b : Nat} {w w' : World} (h : Only b w w') (i : Nat) (v : Value) : Only b w (w'.setCell ⟨b, i, none⟩ v) :=
  ⟨h.os, h.tape, h.output, by simpa using h.size, fun j hj => (Below.heap_setCell w' ⟨b, i, none⟩ v j (by simpa using hj)).trans (h.block j hj)⟩
theorem Only.trans {b : Nat} {w w' w'' : World} (h : Only b w w') (k : Only b w' w'') : Only b w w'' :=
  ⟨k.os.trans h.os, k.tape.trans h.tape, k.output.trans h.output, k.size.trans h.size, fun j hj => (k.block j hj).trans (h.block j hj)⟩
theorem Only.below {b B : Nat} {w w' : World} (h : Only b w w') (hb : B ≤ b) : Below B w w' :=
  ⟨h.os, h.tape, h.output, Nat.le_of_eq h.size.symm, fun j hj => h.block j (by omega)⟩
theorem Only.blk {b g : Nat} {w w' : World} {t : TypeId} {cs : Array Value} (h : Only b w w') (hk : Blk w g t cs) (hg : g ≠ b) : Blk w' g t cs := (h.block g hg).trans hk
theorem trimPrefix_len (a b : List UInt8) : (Lib.trimPrefix a b).length ≤ a.length := by
  unfold Lib.trimPrefix
  split <;> simp
/-- A reader of at most n bytes. -/
def RdAt (w : World) (b n : Nat) : Prop := ∃ s bad, s.size ≤ n ∧ Blk w b 232 #[.string s, .bool bad]
theorem len_size (s : ByteArray) : s.data.toList.length = s.size := by simp
theorem mk_size (l : List UInt8) : (⟨l.toArray⟩ : ByteArray).size = l.length := by
  show l.toArray.size = l.length
  simp
set_option maxRecDepth 100000 in
set_option maxHeartbeats 1600000 in
theorem pnum_any (b : Nat) (s o e : ByteArray) (bad : Bool) (w : World) (h : Blk w b 232 #[.string s, .bool bad]) (hs : s.size ≤ 1000000) :
    Calls Tryz.prog 146 #[.pointer (some ⟨b, 0, none⟩), .string o, .string e] w fun x w' => (∃ v, x = .returned (.int .i64 v)) ∧ RdAt w' b s.size ∧ Only b w w' := by
  have c0 : w.cell? ⟨b, 0, none⟩ = some (.string s) := h.cell 0
  have f0 := h.frozen 0
  have c1 : w.cell? ⟨b, 1, none⟩ = some (.bool bad) := h.cell 1
  have f1 := h.frozen 1
  have K1 := Tryz.strings_CutPrefix s o w
  have hr := trimPrefix_len s.data.toList o.data.toList
  obtain ⟨r, hr2⟩ : ∃ r : ByteArray, r = ⟨(Lib.trimPrefix s.data.toList o.data.toList).toArray⟩ := ⟨_, rfl⟩
  have hrs : r.size ≤ s.size := by rw [hr2, mk_size, ← len_size s]; exact hr
  rw [← hr2] at K1
  generalize Lib.hasPrefix s.data.toList o.data.toList = is at *
  have KK := Lib.hid K1
  have HB := Lib.hid h
  clear hr hr2 K1 h
  cases is with
  | false =>
    go_enter Tryz.func146, Tryz.ntmps146
    go_wp2_with (refine KK.out.mono ?_; rintro e w' ⟨rfl, rfl⟩)
    go_ret
    exact ⟨⟨_, rfl⟩, ⟨s, bad, Nat.le_refl _, HB.out⟩, Only.refl _ _⟩
  | true =>
    go_enter Tryz.func146, Tryz.ntmps146
    go_wp2_with (refine KK.out.mono ?_; rintro e w' ⟨rfl, rfl⟩)
    go_loopw [9] (fun x wr => ∃ k : Nat, x = .int .i64 k ∧ k ≤ r.size ∧ wr = w') (fun x _ => r.size - (intOf x).toNat)
    case atStart => exact ⟨0, rfl, by omega, by trivial⟩
    case round =>
      obtain ⟨k, rfl, hk, rfl⟩ := hrel
      have KN := number_any (r.extract 0 k) wr (by rw [ByteArray.size_extract]; unfold maxLen; omega)
      have K2 := Tryz.strings_CutPrefix (r.extract k r.size) e wr
      have ht := trimPrefix_len (r.extract k r.size).data.toList e.data.toList
      obtain ⟨t, ht2⟩ : ∃ t : ByteArray, t = ⟨(Lib.trimPrefix (r.extract k r.size).data.toList e.data.toList).toArray⟩ := ⟨_, rfl⟩
      have hts : t.size ≤ s.size := by
        rw [ht2, mk_size]
        rw [len_size, ByteArray.size_extract] at ht
        omega
      rw [← ht2] at K2
      generalize Lib.hasPrefix (r.extract k r.size).data.toList e.data.toList = closed at *
      generalize P.numV (r.extract 0 k).data.toList = v at *
      generalize P.numE (r.extract 0 k).data.toList = er at *
      have KN := Lib.hid KN
      have K2 := Lib.hid K2
      have HTS := Lib.hid hts
      clear ht ht2 hts
      by_cases hlt : k < r.size
      · have hi1 : ∀ W : World, (Instr.index 9 (.string r) (.int .i64 (k : Int))).run Tryz.prog W = .ok (.int .u8 (r[k].toNat : Int)) W := fun W => idx_atu r k hlt rfl W
        have hc := r[k].toNat_lt
        generalize r[k].toNat = c at *
        by_cases hd : 48 ≤ c ∧ c ≤ 57
        · obtain ⟨d1, d2⟩ := hd
          go_wp2_with fail
          go_roundw
          case rel => exact ⟨k + 1, by go_num, by omega, by trivial⟩
          case measure => simp [intOf]; omega
        · rcases (by omega : c < 48 ∨ (¬ c < 48 ∧ 57 < c)) with d1 | ⟨d1, d2⟩
          all_goals
            clear hd
            go_wp2_with (first | (go_at_call 92; refine KN.out.mono ?_; rintro e w' ⟨rfl, rfl⟩) | (go_at_call 215; refine K2.out.mono ?_; rintro e w' ⟨rfl, rfl⟩))
            all_goals (go_ret; exact ⟨⟨_, rfl⟩, ⟨t, _, HTS.out, (HB.out.set_ 1 _).set_ 0 _⟩, ((Only.refl _ _).set 1 _).set 0 _⟩)
      · go_wp2_with (first | (go_at_call 92; refine KN.out.mono ?_; rintro e w' ⟨rfl, rfl⟩) | (go_at_call 215; refine K2.out.mono ?_; rintro e w' ⟨rfl, rfl⟩))
        all_goals (go_ret; exact ⟨⟨_, rfl⟩, ⟨t, _, HTS.out, (HB.out.set_ 1 _).set_ 0 _⟩, ((Only.refl _ _).set 1 _).set 0 _⟩)
/-- A bool is returned. -/
def IsBool (e : Ending) : Prop := ∃ v : Bool, e = .returned (.bool v)
set_option maxRecDepth 100000 in
set_option maxHeartbeats 800000 in
theorem tokName_any (s : ByteArray) (w : World) :
    Calls Tryz.prog 148 #[.string s] w fun e w' => IsBool e ∧ Below w.heap.size w w' := by
  by_cases h3 : s.size = 3
  · have K := Lib.hid (Tryz.strings_Trim (by kernel_rfl) s ⟨#[65, 66, 67, 68, 69, 70, 71, 72, 73, 74, 75, 76, 77, 78, 79, 80, 81, 82, 83, 84, 85, 86, 87, 88, 89, 90, 48, 49, 50, 51, 52, 53, 54, 55, 56, 57]⟩ w (by omega) (by decide) (ascii_of_all (by decide)))
    have hi1 : ∀ W : World, (Instr.index 9 (.string s) (.int .i64 0)).run Tryz.prog W = .ok (.int .u8 (s[0].toNat : Int)) W := fun W => idx_atu s 0 (by omega) rfl W
    have hc := s[0].toNat_lt
    generalize s[0].toNat = c at *
    have hq : ((s.size : Int) != 3) = false := by rw [h3]; rfl
    go_enter Tryz.func148, Tryz.ntmps148
    go_wp2_with (go_at_call 149; refine K.out.mono ?_; rintro e w' ⟨rfl, hb⟩)
    all_goals first | (go_ret; exact ⟨⟨_, rfl⟩, hb⟩) | (go_ret; exact ⟨⟨_, rfl⟩, Below.refl _ _⟩)
  · have hq : ((s.size : Int) != 3) = true := by rw [bne_iff_ne]; omega
    go_enter Tryz.func148, Tryz.ntmps148
    go_wp2
    go_ret
    exact ⟨⟨_, rfl⟩, Below.refl _ _⟩
end Go.Proofs.YtjikgmbhnknojaaGreatDoor

/- What path.Parse returns: some path, or an error; nothing that was there turns. The whole call. -/
namespace Go.Proofs.YtjikgmbhnknojaaGreatDoor
set_option linter.unusedVariables false
open Go Go.RowKit Go.BigFrame
set_option maxRecDepth 100000 in
theorem clone_any (s : ByteArray) (w : World) (hs : s.size ≤ 281474976710656) :
    Calls Tryz.prog 74 #[.string s] w fun e w' => e = .returned (.string s) ∧ Below w.heap.size w w' := by
  have K := Lib.hid (Tryz.stringslite_Clone s w hs)
  go_enter Tryz.func74, Tryz.ntmps74
  go_wp2_with fail
  refine K.out.mono ?_
  rintro e w' ⟨rfl, hb⟩
  go_wp2_with fail
  go_ret
  exact ⟨rfl, hb⟩
/-- A path's cells, and those of a path that is none of those that were there. -/
def PathC (cs : List Value) : Prop := ∃ (s : ByteArray) (a b c d e : Int), cs = [.string s, .int .i64 a, .int .i64 b, .int .i64 c, .int .i64 d, .int .i64 e]
/-- While a path is read: the result's block, the path's, the reader's. -/
structure PSt (w wx : World) (g0 g1 g2 : Nat) : Prop where
  res : Blk wx g0 53 #[.string ⟨#[]⟩, .int .i64 0, .int .i64 0, .int .i64 0, .int .i64 0, .int .i64 0]
  path : ∃ cs, PathC cs ∧ Blk wx g1 53 cs.toArray
  rd : RdAt wx g2 1000000
  bel : Below w.heap.size w wx
theorem RdAt.le {w : World} {b n m : Nat} (h : RdAt w b n) (hn : n ≤ m) : RdAt w b m := by
  obtain ⟨s, bad, h1, h2⟩ := h
  exact ⟨s, bad, by omega, h2⟩
section
variable {w wx wy : World} {g0 g1 g2 : Nat}
theorem PSt.num {n : Nat} (h : PSt w wx g0 g1 g2) (ho : Only g2 wx wy) (hr : RdAt wy g2 n) (hn : n ≤ 1000000) (h0 : g0 ≠ g2) (h1 : g1 ≠ g2) (hB : w.heap.size ≤ g2) : PSt w wy g0 g1 g2 := by
  obtain ⟨r, ⟨cs, hc, hp⟩, _, hb⟩ := h
  exact ⟨ho.blk r h0, ⟨cs, hc, ho.blk hp h1⟩, hr.le hn, hb.trans (ho.below hB)⟩
theorem PSt.cell (h : PSt w wx g0 g1 g2) : ∃ (s : ByteArray) (a b c d e : Int), Blk wx g1 53 #[.string s, .int .i64 a, .int .i64 b, .int .i64 c, .int .i64 d, .int .i64 e] := by
  obtain ⟨_, ⟨cs, ⟨s, a, b, c, d, e, rfl⟩, hp⟩, _, _⟩ := h
  exact ⟨s, a, b, c, d, e, hp⟩
theorem PSt.put (h : PSt w wx g0 g1 g2) (i : Nat) (v : Int) (hi : 1 ≤ i ∧ i ≤ 5) (h0 : g0 ≠ g1) (h1 : g2 ≠ g1) (hB : w.heap.size ≤ g1) : PSt w (wx.setCell ⟨g1, i, none⟩ (.int .i64 v)) g0 g1 g2 := by
  obtain ⟨r, ⟨cs, ⟨s, a, b, c, d, e, rfl⟩, hp⟩, ⟨s2, bad, hs, hr⟩, hb⟩ := h
  refine ⟨r.far (by simpa using h0) _, ?_, ⟨s2, bad, hs, hr.far (by simpa using h1) _⟩, hb.setCell hB _⟩
  have hx := hp.set_ i (.int .i64 v)
  rcases (by omega : i = 1 ∨ i = 2 ∨ i = 3 ∨ i = 4 ∨ i = 5) with rfl | rfl | rfl | rfl | rfl
  · exact ⟨_, ⟨s, v, b, c, d, e, rfl⟩, hx⟩
  · exact ⟨_, ⟨s, a, v, c, d, e, rfl⟩, hx⟩
  · exact ⟨_, ⟨s, a, b, v, d, e, rfl⟩, hx⟩
  · exact ⟨_, ⟨s, a, b, c, v, e, rfl⟩, hx⟩
  · exact ⟨_, ⟨s, a, b, c, d, v, rfl⟩, hx⟩
end
set_option maxRecDepth 100000 in
theorem path_res {W : World} {tmps : Array Value} {g er : _} {s : ByteArray} {a b c d e : Int} (hW : Blk W g 53 #[.string s, .int .i64 a, .int .i64 b, .int .i64 c, .int .i64 d, .int .i64 e]) (h2 : tmps.getD 2 undef = .pointer (some ⟨g, 0, none⟩)) (h3 : tmps.getD 3 undef = er) :
    (results Tryz.f95 tmps).run Tryz.prog W = .ok (.tuple #[.agg #[.string s, .int .i64 a, .int .i64 b, .int .i64 c, .int .i64 d, .int .i64 e], er]) W := by
  rw [results_cell_tmp rfl, h2, h3]
  have c0 := hW.cell
  simp [go_sem, c0]
set_option maxRecDepth 100000 in
set_option maxHeartbeats 1600000 in
theorem pathParse_any (s : ByteArray) (w : World) (hs : s.size ≤ 1000000) :
    Calls Tryz.prog 95 #[.string s] w fun e w' => (∃ cs er, PathC cs ∧ e = .returned (.tuple #[.agg cs.toArray, .int .i64 er])) ∧ Below w.heap.size w w' := by
  have K1 := Lib.hid (clone_any (s.extract 0 (min 3 (s.size : Int)).toNat) (w.alloc (.cells #[.string ⟨#[]⟩, .int .i64 0, .int .i64 0, .int .i64 0, .int .i64 0, .int .i64 0] 53)) (by rw [ByteArray.size_extract]; omega))
  go_enter Tryz.func95, Tryz.ntmps95
  go_wp2_with fail
  refine K1.out.mono ?_
  rintro e w1 ⟨rfl, hb1⟩
  have HB1 := Lib.hid hb1
  have HR := Lib.hid ((Blk.new w 53 #[.string ⟨#[]⟩, .int .i64 0, .int .i64 0, .int .i64 0, .int .i64 0, .int .i64 0]).below hb1 (by simp))
  have K2 := Lib.hid (pnum_any (w1.heap.size + 1) (s.extract (min 3 (s.size : Int)).toNat s.size) ⟨#[91]⟩ ⟨#[93]⟩ false ((w1.alloc (.cells #[.string (s.extract 0 (min 3 (s.size : Int)).toNat), .int .i64 0, .int .i64 0, .int .i64 0, .int .i64 0, .int .i64 0] 53)).alloc (.cells #[.string (s.extract (min 3 (s.size : Int)).toNat s.size), .bool false] 232)) (by simpa using Blk.new (w1.alloc (.cells #[.string (s.extract 0 (min 3 (s.size : Int)).toNat), .int .i64 0, .int .i64 0, .int .i64 0, .int .i64 0, .int .i64 0] 53)) 232 #[.string (s.extract (min 3 (s.size : Int)).toNat s.size), .bool false]) (by rw [ByteArray.size_extract]; omega))
  have hw1 : w.heap.size + 1 ≤ w1.heap.size := by have := hb1.size; simpa using this
  have HP0 := Lib.hid (show PSt w ((w1.alloc (.cells #[.string (s.extract 0 (min 3 (s.size : Int)).toNat), .int .i64 0, .int .i64 0, .int .i64 0, .int .i64 0, .int .i64 0] 53)).alloc (.cells #[.string (s.extract (min 3 (s.size : Int)).toNat s.size), .bool false] 232)) w.heap.size w1.heap.size (w1.heap.size + 1) from
    ⟨(HR.out.alloc _).alloc _, ⟨_, ⟨_, _, _, _, _, _, rfl⟩, (Blk.new w1 _ _).alloc _⟩, ⟨s.extract (min 3 (s.size : Int)).toNat s.size, false, by rw [ByteArray.size_extract]; omega, by simpa using Blk.new (w1.alloc (.cells #[.string (s.extract 0 (min 3 (s.size : Int)).toNat), .int .i64 0, .int .i64 0, .int .i64 0, .int .i64 0, .int .i64 0] 53)) 232 #[.string (s.extract (min 3 (s.size : Int)).toNat s.size), .bool false]⟩,
      ((((Below.refl _ w).alloc (Nat.le_refl _) _).trans (hb1.mono (by simp))).alloc (by omega) _).alloc (by simp; omega) _⟩)
  clear hb1 K1 HB1 HR
  go_upto_region 4 with fail
  go_cut [] (fun wx => PSt w wx w.heap.size w1.heap.size (w1.heap.size + 1))
  case first =>
    go_wp2_with fail
    refine K2.out.mono ?_
    rintro x w2 ⟨⟨v, rfl⟩, hrd, honly⟩
    have hP := HP0.out.num honly hrd (by rw [ByteArray.size_extract]; omega) (by omega) (by omega) (by omega)
    have HP := Lib.hid hP
    obtain ⟨t, a, b, c, d, e, hb⟩ := hP.cell
    have c1 : w2.cell? ⟨w1.heap.size, 1, none⟩ = some (.int .i64 a) := hb.cell 1
    have f1 := hb.frozen 1
    clear hb hP hrd honly K2
    go_wp2_with fail
    go_meet
    exact HP.out.put 1 v (by omega) (by omega) (by omega) (by omega)
  case rest =>
    generalize w1.heap.size = g1 at *
    have HP := Lib.hid hcut
    clear hcut HP0 K2
    obtain ⟨s2, bad2, hs2, hr2⟩ := HP.out.rd
    have c0 : wc.cell? ⟨g1 + 1, 0, none⟩ = some (.string s2) := hr2.cell 0
    clear hr2
    go_upto_if 27 with (go_at_call 147; refine (Tryz.strings_HasPrefix s2 ⟨#[45]⟩ wc).mono ?_; rintro e wc ⟨rfl, rfl⟩)
    generalize Lib.hasPrefix s2.data.toList (⟨#[45]⟩ : ByteArray).data.toList = q at *
    go_cut [] (fun wx => PSt w wx w.heap.size g1 (g1 + 1))
    case first =>
      cases q with
      | false =>
        go_wp2_with fail
        go_meet
        exact HP.out
      | true =>
        go_upto_region 6 with fail
        go_cut [] (fun wx => PSt w wx w.heap.size g1 (g1 + 1))
        case first =>
          obtain ⟨s2, bad2, hs2, hr2⟩ := HP.out.rd
          have KN := Lib.hid (pnum_any (g1 + 1) s2 ⟨#[45]⟩ ⟨#[]⟩ bad2 wc hr2 hs2)
          clear hr2
          go_wp2_with fail
          refine KN.out.mono ?_
          rintro x w3 ⟨⟨v, rfl⟩, hrd, honly⟩
          have hP := HP.out.num honly hrd hs2 (by omega) (by omega) (by omega)
          have HP3 := Lib.hid hP
          obtain ⟨t, a, b, c, d, e, hb⟩ := hP.cell
          have cf : w3.cell? ⟨g1, 2, none⟩ = some (.int .i64 b) := hb.cell 2
          have ff := hb.frozen 2
          clear hb hP hrd honly KN
          go_wp2_with fail
          go_meet
          exact HP3.out.put 2 v (by omega) (by omega) (by omega) (by omega)
        case rest =>
          have HP := Lib.hid hcut
          clear hcut
          go_upto_region 7 with fail
          go_cut [] (fun wx => PSt w wx w.heap.size g1 (g1 + 1))
          case first =>
            obtain ⟨s2, bad2, hs2, hr2⟩ := HP.out.rd
            have KN := Lib.hid (pnum_any (g1 + 1) s2 ⟨#[91]⟩ ⟨#[93]⟩ bad2 wc hr2 hs2)
            clear hr2
            go_wp2_with fail
            refine KN.out.mono ?_
            rintro x w3 ⟨⟨v, rfl⟩, hrd, honly⟩
            have hP := HP.out.num honly hrd hs2 (by omega) (by omega) (by omega)
            have HP3 := Lib.hid hP
            obtain ⟨t, a, b, c, d, e, hb⟩ := hP.cell
            have cf : w3.cell? ⟨g1, 3, none⟩ = some (.int .i64 c) := hb.cell 3
            have ff := hb.frozen 3
            clear hb hP hrd honly KN
            go_wp2_with fail
            go_meet
            exact HP3.out.put 3 v (by omega) (by omega) (by omega) (by omega)
          case rest =>
            have HP := Lib.hid hcut
            clear hcut
            go_upto_region 8 with fail
            go_cut [] (fun wx => PSt w wx w.heap.size g1 (g1 + 1))
            case first =>
              obtain ⟨t, a, b, c, d, e, hb⟩ := HP.out.cell
              have c4 : wc.cell? ⟨g1, 4, none⟩ = some (.int .i64 d) := hb.cell 4
              have f4 := hb.frozen 4
              have c5 : wc.cell? ⟨g1, 5, none⟩ = some (.int .i64 e) := hb.cell 5
              have f5 := hb.frozen 5
              clear hb
              go_wp2_with fail
              go_meet
              exact (HP.out.put 4 1 (by omega) (by omega) (by omega) (by omega)).put 5 1 (by omega) (by omega) (by omega) (by omega)
            case rest =>
              have HP := Lib.hid hcut
              clear hcut
              obtain ⟨s2, bad2, hs2, hr2⟩ := HP.out.rd
              have c0 : wc.cell? ⟨g1 + 1, 0, none⟩ = some (.string s2) := hr2.cell 0
              clear hr2
              go_upto_if 40 with (go_at_call 147; refine (Tryz.strings_HasPrefix s2 ⟨#[46]⟩ wc).mono ?_; rintro e wc ⟨rfl, rfl⟩)
              generalize Lib.hasPrefix s2.data.toList (⟨#[46]⟩ : ByteArray).data.toList = q at *
              cases q with
              | false =>
                go_wp2_with fail
                go_meet
                exact HP.out
              | true =>
                go_upto_region 10 with fail
                go_cut [] (fun wx => PSt w wx w.heap.size g1 (g1 + 1))
                case first =>
                  obtain ⟨s2, bad2, hs2, hr2⟩ := HP.out.rd
                  have KN := Lib.hid (pnum_any (g1 + 1) s2 ⟨#[46]⟩ ⟨#[]⟩ bad2 wc hr2 hs2)
                  clear hr2
                  go_wp2_with fail
                  refine KN.out.mono ?_
                  rintro x w3 ⟨⟨v, rfl⟩, hrd, honly⟩
                  have hP := HP.out.num honly hrd hs2 (by omega) (by omega) (by omega)
                  have HP3 := Lib.hid hP
                  obtain ⟨t, a, b, c, d, e, hb⟩ := hP.cell
                  have cf : w3.cell? ⟨g1, 4, none⟩ = some (.int .i64 d) := hb.cell 4
                  have ff := hb.frozen 4
                  clear hb hP hrd honly KN
                  go_wp2_with fail
                  go_meet
                  exact HP3.out.put 4 v (by omega) (by omega) (by omega) (by omega)
                case rest =>
                  have HP := Lib.hid hcut
                  clear hcut
                  obtain ⟨s2, bad2, hs2, hr2⟩ := HP.out.rd
                  have KN := Lib.hid (pnum_any (g1 + 1) s2 ⟨#[46]⟩ ⟨#[]⟩ bad2 wc hr2 hs2)
                  clear hr2
                  go_wp2_with fail
                  refine KN.out.mono ?_
                  rintro x w3 ⟨⟨v, rfl⟩, hrd, honly⟩
                  have hP := HP.out.num honly hrd hs2 (by omega) (by omega) (by omega)
                  have HP3 := Lib.hid hP
                  obtain ⟨t, a, b, c, d, e, hb⟩ := hP.cell
                  have cf : w3.cell? ⟨g1, 5, none⟩ = some (.int .i64 e) := hb.cell 5
                  have ff := hb.frozen 5
                  clear hb hP hrd honly KN
                  go_wp2_with fail
                  go_meet
                  exact HP3.out.put 5 v (by omega) (by omega) (by omega) (by omega)
    case rest =>
      have HP := Lib.hid hcut
      clear hcut
      obtain ⟨t, a, b, c, d, e, hb⟩ := HP.out.cell
      obtain ⟨s2, bad2, hs2, hr2⟩ := HP.out.rd
      have hres := HP.out.res
      have hbel := HP.out.bel
      have ht : t.size ≤ 1000000 ∨ 1000000 < t.size := by omega
      have b0 : wc.cell? ⟨g1 + 1, 0, none⟩ = some (.string s2) := hr2.cell 0
      have b1 : wc.cell? ⟨g1 + 1, 1, none⟩ = some (.bool bad2) := hr2.cell 1
      have p0 : wc.cell? ⟨g1, 0, none⟩ = some (.string t) := hb.cell 0
      have r0 := hres.cell
      have q0 := hres.frozen
      clear hr2
      have hW := (((((hres.set_ 0 (.string ⟨#[]⟩)).set_ 1 (.int .i64 0)).set_ 2 (.int .i64 0)).set_ 3 (.int .i64 0)).set_ 4 (.int .i64 0)).set_ 5 (.int .i64 0)
      have hBW := (((((hbel.setCell (p := ⟨w.heap.size, 0, none⟩) (Nat.le_refl _) (.string ⟨#[]⟩)).setCell (p := ⟨w.heap.size, 1, none⟩) (Nat.le_refl _) (.int .i64 0)).setCell (p := ⟨w.heap.size, 2, none⟩) (Nat.le_refl _) (.int .i64 0)).setCell (p := ⟨w.heap.size, 3, none⟩) (Nat.le_refl _) (.int .i64 0)).setCell (p := ⟨w.heap.size, 4, none⟩) (Nat.le_refl _) (.int .i64 0)).setCell (p := ⟨w.heap.size, 5, none⟩) (Nat.le_refl _) (.int .i64 0)
      have HW := Lib.hid hW
      have HBW := Lib.hid hBW
      clear hW hBW
      cases bad2 with
      | true =>
        go_wp2_with fail
        refine bodyPost_ret (path_res HW.out rfl rfl) rfl ⟨⟨_, _, ⟨_, _, _, _, _, _, rfl⟩, rfl⟩, HBW.out⟩
      | false =>
        cases he : s2.toList.isEmpty with
        | false =>
          go_wp2_with fail
          refine bodyPost_ret (path_res HW.out rfl rfl) rfl ⟨⟨_, _, ⟨_, _, _, _, _, _, rfl⟩, rfl⟩, HBW.out⟩
        | true =>
          have KT := Lib.hid (tokName_any t wc)
          have HB := Lib.hid hb
          go_wp2_with fail
          refine KT.out.mono ?_
          rintro x w4 ⟨⟨v, rfl⟩, hb4⟩
          have hres4 := hres.below hb4 hres.lt
          have hbel4 := hbel.trans (hb4.mono hbel.size)
          have hp4 := HB.out.below hb4 HB.out.lt
          have r0 := hres4.cell
          have q0 := hres4.frozen
          have p0 : w4.cell? ⟨g1, 0, none⟩ = some (.string t) := hp4.cell 0
          have p1 : w4.cell? ⟨g1, 1, none⟩ = some (.int .i64 a) := hp4.cell 1
          have p2 : w4.cell? ⟨g1, 2, none⟩ = some (.int .i64 b) := hp4.cell 2
          have p3 : w4.cell? ⟨g1, 3, none⟩ = some (.int .i64 c) := hp4.cell 3
          have p4 : w4.cell? ⟨g1, 4, none⟩ = some (.int .i64 d) := hp4.cell 4
          have p5 : w4.cell? ⟨g1, 5, none⟩ = some (.int .i64 e) := hp4.cell 5
          clear hb4 hb HW HBW
          cases v with
          | false =>
            have hW := (((((hres4.set_ 0 (.string ⟨#[]⟩)).set_ 1 (.int .i64 0)).set_ 2 (.int .i64 0)).set_ 3 (.int .i64 0)).set_ 4 (.int .i64 0)).set_ 5 (.int .i64 0)
            have hBW := (((((hbel4.setCell (p := ⟨w.heap.size, 0, none⟩) (Nat.le_refl _) (.string ⟨#[]⟩)).setCell (p := ⟨w.heap.size, 1, none⟩) (Nat.le_refl _) (.int .i64 0)).setCell (p := ⟨w.heap.size, 2, none⟩) (Nat.le_refl _) (.int .i64 0)).setCell (p := ⟨w.heap.size, 3, none⟩) (Nat.le_refl _) (.int .i64 0)).setCell (p := ⟨w.heap.size, 4, none⟩) (Nat.le_refl _) (.int .i64 0)).setCell (p := ⟨w.heap.size, 5, none⟩) (Nat.le_refl _) (.int .i64 0)
            have HW := Lib.hid hW
            have HBW := Lib.hid hBW
            clear hW hBW
            go_wp2_with fail
            refine bodyPost_ret (path_res HW.out rfl rfl) rfl ⟨⟨_, _, ⟨_, _, _, _, _, _, rfl⟩, rfl⟩, HBW.out⟩
          | true =>
            have hW := (((((hres4.set_ 0 (.string t)).set_ 1 (.int .i64 a)).set_ 2 (.int .i64 b)).set_ 3 (.int .i64 c)).set_ 4 (.int .i64 d)).set_ 5 (.int .i64 e)
            have hBW := (((((hbel4.setCell (p := ⟨w.heap.size, 0, none⟩) (Nat.le_refl _) (.string t)).setCell (p := ⟨w.heap.size, 1, none⟩) (Nat.le_refl _) (.int .i64 a)).setCell (p := ⟨w.heap.size, 2, none⟩) (Nat.le_refl _) (.int .i64 b)).setCell (p := ⟨w.heap.size, 3, none⟩) (Nat.le_refl _) (.int .i64 c)).setCell (p := ⟨w.heap.size, 4, none⟩) (Nat.le_refl _) (.int .i64 d)).setCell (p := ⟨w.heap.size, 5, none⟩) (Nat.le_refl _) (.int .i64 e)
            have HW := Lib.hid hW
            have HBW := Lib.hid hBW
            clear hW hBW
            go_wp2_with fail
            refine bodyPost_ret (path_res HW.out rfl rfl) rfl ⟨⟨_, _, ⟨_, _, _, _, _, _, rfl⟩, rfl⟩, HBW.out⟩
end Go.Proofs.YtjikgmbhnknojaaGreatDoor
