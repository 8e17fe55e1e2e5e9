/- What prune.Legs, bits.Add, slices.Clone of legs, prune.copied return. -/
import Derived.Test.YtjbhlojfmcldjabPr4
namespace Go.Proofs.Ytjbhlojfmcldjab
set_option linter.unusedVariables false
open Go.RowKit Go.BigFrame
namespace P
/-- Counts added. -/
def add (a b : Int) : Int := if max a 0 > 9223372036854775807 - max b 0 then 9223372036854775807 else max a 0 + max b 0
def meant (routes : List ByteArray) (d : Dest) : Bool := routes.isEmpty || hasS routes d.name
def legOf (routes : List ByteArray) (payload : ByteArray) (d : Dest) : Leg := if meant routes d = true then ⟨d.name, 1, 0, 0, payload, ⟨#[]⟩⟩ else ⟨d.name, 0, 0, 0, ⟨#[]⟩, ⟨#[]⟩⟩
def legsOf (ds : List Dest) (routes : List ByteArray) (payload : ByteArray) : List Leg := ds.map (legOf routes payload)
end P
set_option maxHeartbeats 400000 in
set_option maxRecDepth 20000 in
theorem add_any (a b : Int) (w : World) (ha : -9223372036854775808 ≤ a) (ha' : a ≤ 9223372036854775807) (hb : -9223372036854775808 ≤ b) (hb' : b ≤ 9223372036854775807) :
    Calls Try.prog 43 #[.int .i64 a, .int .i64 b] w fun e w' => e = .returned (.int .i64 (P.add a b)) ∧ w = w' := by
  have ea : max a 0 = if a < 0 then 0 else a := by omega
  have eb : max b 0 = if b < 0 then 0 else b := by omega
  have hp : P.add a b = if (if a < 0 then 0 else a) > 9223372036854775807 - (if b < 0 then 0 else b) then 9223372036854775807 else (if a < 0 then 0 else a) + (if b < 0 then 0 else b) := by rw [P.add, ea, eb]
  clear ea eb
  have HP := Lib.hid hp
  clear hp
  by_cases h1 : a < 0 <;> by_cases h2 : b < 0 <;>
  (by_cases h3 : (if a < 0 then 0 else a) > 9223372036854775807 - (if b < 0 then 0 else b)) <;>
  (simp only [h1, h2, if_true, if_false] at h3) <;>
  (go_enter Try.func43, Try.ntmps43
   go_wp2
   all_goals (go_ret; rw [HP.out]; first | (simp [h1, h2]; done) | (simp [h1, h2]; omega)))
/-- The call hands back legs of its own; what was there stands. -/
def GivesL (w : World) (l : List P.Leg) (x : Ending) (w' : World) : Prop := ∃ v, x = .returned v ∧ OwnL w' w.heap.size v l ∧ Below w.heap.size w w'
theorem newsL1 (w : World) (l : P.Leg) (t : TypeId) (o : Obj) : ∀ j u, l.cells[j]? = some u → ((w.alloc o).alloc (.cells #[.string l.name, .int .i64 l.status, .int .i64 l.tries, .int .i64 l.due, .string l.payload, .string l.reply] t)).cell? ((⟨w.heap.size + 1, 0, none⟩ : Addr).add j) = some u := by
  have := newsL (w.alloc o) t l
  rw [show (w.alloc o).heap.size = w.heap.size + 1 from by simp] at this
  exact this
theorem newsL2 (w : World) (l : P.Leg) (t : TypeId) (o o' : Obj) : ∀ j u, l.cells[j]? = some u → (((w.alloc o).alloc o').alloc (.cells #[.string l.name, .int .i64 l.status, .int .i64 l.tries, .int .i64 l.due, .string l.payload, .string l.reply] t)).cell? ((⟨w.heap.size + 2, 0, none⟩ : Addr).add j) = some u := by
  have := newsL ((w.alloc o).alloc o') t l
  rw [show ((w.alloc o).alloc o').heap.size = w.heap.size + 2 from by simp] at this
  exact this
set_option maxRecDepth 100000 in
set_option maxHeartbeats 4000000 in
theorem legs_any (cn cd cpre cfil ctr : ByteArray) (cf : Bool) (cpt crt : Int) (D : Option Addr) (n dc : Nat) (ds : List P.Dest) (RA : Option Addr) (rn rc : Nat) (routes : List ByteArray) (payload : ByteArray) (B : Nat) (w : World)
    (hd : DestsAt w B D n ds) (hr : StrsAt w B RA rn routes) (hB : B ≤ w.heap.size) (hn : n ≤ 1099511627776) (hrn : rn ≤ maxLen) :
    Calls Try.prog 8 #[.agg #[.string cn, .bool cf, .int .i64 cpt, .string cd, .string cpre, .string cfil, .string ctr, .slice D n dc, .int .i64 crt], .slice RA rn rc, .string payload] w (GivesL w (P.legsOf ds routes payload)) := by
  have HD := Lib.hid hd
  have HR := Lib.hid hr
  have HW := Lib.hid ((Below.refl w.heap.size w).alloc (Nat.le_refl _) (.cells #[.string cn, .bool cf, .int .i64 cpt, .string cd, .string cpre, .string cfil, .string ctr, .slice D n dc, .int .i64 crt] 24))
  clear hd hr
  go_enter Try.func8, Try.ntmps8
  go_wp2_with fail
  go_loopw [7, 14] (fun o x wr => ∃ (k : Nat), k ≤ n ∧ x = .int .i64 k ∧ OwnL wr (w.heap.size + 1) o (P.legsOf (ds.take k) routes payload) ∧ w.heap.size + 1 ≤ wr.heap.size ∧ Below w.heap.size w wr) (fun _ x _ => n - (intOf x).toNat)
  case atStart => exact ⟨0, by omega, rfl, OwnL.nil _ _, by simp, HW.out⟩
  case round =>
    obtain ⟨k, hk, rfl, hown, hsz, hbel⟩ := hrel
    by_cases hlt : k < n
    · obtain ⟨ad, d, rfl, hdb, hdk, hdc⟩ := (HD.out.below (hbel.mono hB)).in_ hlt
      have HS := Lib.hid (show P.legsOf (ds.take (k + 1)) routes payload = P.legsOf (ds.take k) routes payload ++ [P.legOf routes payload d] from by
        unfold P.legsOf
        rw [List.take_add_one, hdk, List.map_append]
        rfl)
      have hlen : (P.legsOf (ds.take k) routes payload).length = k := by unfold P.legsOf; rw [List.length_map, List.length_take, Nat.min_eq_left (by have := HD.out.len; omega)]
      have HLN := Lib.hid hlen
      obtain ⟨c0, c1, c2, c3, c4, c5, c6, c7, c8⟩ := hdc
      have DB := Lib.hid (Blk.new wr 43 #[.string d.name, .int .i64 d.chain, .bool d.file, .int .i64 d.port, .string d.dir, .int .i64 d.retry, .int .i64 d.backoff, .int .i64 d.timeout, .string d.response])
      have RR := Lib.hid (fun W (hW : Below w.heap.size w W) => contains_any RA rn rc routes d.name B W (HR.out.below (hW.mono hB)) hrn)
      clear hdk hlen
      generalize P.legsOf (ds.take k) routes payload = acc at *
      have key : (P.legOf routes payload d = ⟨d.name, 1, 0, 0, payload, ⟨#[]⟩⟩ ∧ ((rn == 0) = true ∨ ((rn == 0) = false ∧ P.hasS routes d.name = true))) ∨ (P.legOf routes payload d = ⟨d.name, 0, 0, 0, ⟨#[]⟩, ⟨#[]⟩⟩ ∧ (rn == 0) = false ∧ P.hasS routes d.name = false) := by
        have hl := HR.out.len
        unfold P.legOf P.meant
        cases hh : P.hasS routes d.name <;> rcases routes with _ | ⟨r0, rs⟩ <;> simp at hl <;> simp [← hl]
      rcases key with ⟨he, t1 | ⟨t1, t2⟩⟩ | ⟨he, t1, t2⟩
      · have HE := Lib.hid he
        have t1' : ((rn : Int) == 0) = true := by have : rn = 0 := by simpa using t1
                                                  rw [this]; rfl
        clear he
        go_wp2_with (at_builtin; refine wpList_append_leg1 rfl (.tmp 33) (.tmp 35) rfl (w.heap.size + 1) u7 acc rfl (((hown.alloc (.cells #[.string d.name, .int .i64 d.chain, .bool d.file, .int .i64 d.port, .string d.dir, .int .i64 d.retry, .int .i64 d.backoff, .int .i64 d.timeout, .string d.response] 43)).alloc (.cells #[.string d.name, .int .i64 1, .int .i64 0, .int .i64 0, .string payload, .string ⟨#[]⟩] 40)).alloc (.cells #[.string d.name, .int .i64 1, .int .i64 0, .int .i64 0, .string payload, .string ⟨#[]⟩] 40)) ⟨wr.heap.size + 2, 0, none⟩ ⟨d.name, 1, 0, 0, payload, ⟨#[]⟩⟩ rfl (newsL2 wr ⟨d.name, 1, 0, 0, payload, ⟨#[]⟩⟩ 40 (.cells #[.string d.name, .int .i64 d.chain, .bool d.file, .int .i64 d.port, .string d.dir, .int .i64 d.retry, .int .i64 d.backoff, .int .i64 d.timeout, .string d.response] 43) (.cells #[.string d.name, .int .i64 1, .int .i64 0, .int .i64 0, .string payload, .string ⟨#[]⟩] 40)) (by have := HLN.out; omega) (by simp; omega) ?_; intro o4 w4 hown4 hb4 hg4)
        have W4 := Lib.hid ((((hbel.alloc hbel.size (.cells #[.string d.name, .int .i64 d.chain, .bool d.file, .int .i64 d.port, .string d.dir, .int .i64 d.retry, .int .i64 d.backoff, .int .i64 d.timeout, .string d.response] 43)).alloc (by have := hbel.size; simp; omega) (.cells #[.string d.name, .int .i64 1, .int .i64 0, .int .i64 0, .string payload, .string ⟨#[]⟩] 40)).alloc (by have := hbel.size; simp; omega) (.cells #[.string d.name, .int .i64 1, .int .i64 0, .int .i64 0, .string payload, .string ⟨#[]⟩] 40)).trans (hb4.mono (by omega)))
        have Z4 := Lib.hid (show w.heap.size + 1 ≤ w4.heap.size from by have := hb4.size; simp at this; omega)
        clear hb4 hg4
        go_wp2
        go_roundw
        case rel => exact ⟨k + 1, by omega, by go_num, by rw [HS.out, HE.out]; exact hown4, Z4.out, W4.out⟩
        case measure => simp [intOf]; omega
      · have HE := Lib.hid he
        have t1' : ((rn : Int) == 0) = false := by rw [beq_eq_false_iff_ne] at t1 ⊢; omega
        rw [t2] at RR
        clear he t2
        go_wp2_with fail
        refine (RR.out _ ((hbel.alloc hbel.size (.cells #[.string d.name, .int .i64 d.chain, .bool d.file, .int .i64 d.port, .string d.dir, .int .i64 d.retry, .int .i64 d.backoff, .int .i64 d.timeout, .string d.response] 43)).alloc (by have := hbel.size; simp; omega) (.cells #[.string d.name, .int .i64 0, .int .i64 0, .int .i64 0, .string ⟨#[]⟩, .string ⟨#[]⟩] 40))).mono ?_
        rintro x w2 ⟨rfl, rfl⟩
        go_wp2_with (at_builtin; refine wpList_append_leg1 rfl (.tmp 33) (.tmp 35) rfl (w.heap.size + 1) u7 acc rfl (((hown.alloc (.cells #[.string d.name, .int .i64 d.chain, .bool d.file, .int .i64 d.port, .string d.dir, .int .i64 d.retry, .int .i64 d.backoff, .int .i64 d.timeout, .string d.response] 43)).alloc (.cells #[.string d.name, .int .i64 1, .int .i64 0, .int .i64 0, .string payload, .string ⟨#[]⟩] 40)).alloc (.cells #[.string d.name, .int .i64 1, .int .i64 0, .int .i64 0, .string payload, .string ⟨#[]⟩] 40)) ⟨wr.heap.size + 2, 0, none⟩ ⟨d.name, 1, 0, 0, payload, ⟨#[]⟩⟩ rfl (newsL2 wr ⟨d.name, 1, 0, 0, payload, ⟨#[]⟩⟩ 40 (.cells #[.string d.name, .int .i64 d.chain, .bool d.file, .int .i64 d.port, .string d.dir, .int .i64 d.retry, .int .i64 d.backoff, .int .i64 d.timeout, .string d.response] 43) (.cells #[.string d.name, .int .i64 1, .int .i64 0, .int .i64 0, .string payload, .string ⟨#[]⟩] 40)) (by have := HLN.out; omega) (by simp; omega) ?_; intro o4 w4 hown4 hb4 hg4)
        have W4 := Lib.hid ((((hbel.alloc hbel.size (.cells #[.string d.name, .int .i64 d.chain, .bool d.file, .int .i64 d.port, .string d.dir, .int .i64 d.retry, .int .i64 d.backoff, .int .i64 d.timeout, .string d.response] 43)).alloc (by have := hbel.size; simp; omega) (.cells #[.string d.name, .int .i64 1, .int .i64 0, .int .i64 0, .string payload, .string ⟨#[]⟩] 40)).alloc (by have := hbel.size; simp; omega) (.cells #[.string d.name, .int .i64 1, .int .i64 0, .int .i64 0, .string payload, .string ⟨#[]⟩] 40)).trans (hb4.mono (by omega)))
        have Z4 := Lib.hid (show w.heap.size + 1 ≤ w4.heap.size from by have := hb4.size; simp at this; omega)
        clear hb4 hg4
        go_wp2
        go_roundw
        case rel => exact ⟨k + 1, by omega, by go_num, by rw [HS.out, HE.out]; exact hown4, Z4.out, W4.out⟩
        case measure => simp [intOf]; omega
      · have HE := Lib.hid he
        have t1' : ((rn : Int) == 0) = false := by rw [beq_eq_false_iff_ne] at t1 ⊢; omega
        rw [t2] at RR
        clear he t2
        go_wp2_with fail
        refine (RR.out _ ((hbel.alloc hbel.size (.cells #[.string d.name, .int .i64 d.chain, .bool d.file, .int .i64 d.port, .string d.dir, .int .i64 d.retry, .int .i64 d.backoff, .int .i64 d.timeout, .string d.response] 43)).alloc (by have := hbel.size; simp; omega) (.cells #[.string d.name, .int .i64 0, .int .i64 0, .int .i64 0, .string ⟨#[]⟩, .string ⟨#[]⟩] 40))).mono ?_
        rintro x w2 ⟨rfl, rfl⟩
        go_wp2_with (at_builtin; refine wpList_append_leg1 rfl (.tmp 33) (.tmp 35) rfl (w.heap.size + 1) u7 acc rfl (((hown.alloc (.cells #[.string d.name, .int .i64 d.chain, .bool d.file, .int .i64 d.port, .string d.dir, .int .i64 d.retry, .int .i64 d.backoff, .int .i64 d.timeout, .string d.response] 43)).alloc (.cells #[.string d.name, .int .i64 0, .int .i64 0, .int .i64 0, .string ⟨#[]⟩, .string ⟨#[]⟩] 40)).alloc (.cells #[.string d.name, .int .i64 0, .int .i64 0, .int .i64 0, .string ⟨#[]⟩, .string ⟨#[]⟩] 40)) ⟨wr.heap.size + 2, 0, none⟩ ⟨d.name, 0, 0, 0, ⟨#[]⟩, ⟨#[]⟩⟩ rfl (newsL2 wr ⟨d.name, 0, 0, 0, ⟨#[]⟩, ⟨#[]⟩⟩ 40 (.cells #[.string d.name, .int .i64 d.chain, .bool d.file, .int .i64 d.port, .string d.dir, .int .i64 d.retry, .int .i64 d.backoff, .int .i64 d.timeout, .string d.response] 43) (.cells #[.string d.name, .int .i64 0, .int .i64 0, .int .i64 0, .string ⟨#[]⟩, .string ⟨#[]⟩] 40)) (by have := HLN.out; omega) (by simp; omega) ?_; intro o4 w4 hown4 hb4 hg4)
        have W4 := Lib.hid ((((hbel.alloc hbel.size (.cells #[.string d.name, .int .i64 d.chain, .bool d.file, .int .i64 d.port, .string d.dir, .int .i64 d.retry, .int .i64 d.backoff, .int .i64 d.timeout, .string d.response] 43)).alloc (by have := hbel.size; simp; omega) (.cells #[.string d.name, .int .i64 0, .int .i64 0, .int .i64 0, .string ⟨#[]⟩, .string ⟨#[]⟩] 40)).alloc (by have := hbel.size; simp; omega) (.cells #[.string d.name, .int .i64 0, .int .i64 0, .int .i64 0, .string ⟨#[]⟩, .string ⟨#[]⟩] 40)).trans (hb4.mono (by omega)))
        have Z4 := Lib.hid (show w.heap.size + 1 ≤ w4.heap.size from by have := hb4.size; simp at this; omega)
        clear hb4 hg4
        go_wp2
        go_roundw
        case rel => exact ⟨k + 1, by omega, by go_num, by rw [HS.out, HE.out]; exact hown4, Z4.out, W4.out⟩
        case measure => simp [intOf]; omega
    · have hkn : k = n := by omega
      have HN := Lib.hid (show P.legsOf (ds.take k) routes payload = P.legsOf ds routes payload from by rw [List.take_of_length_le (by have := HD.out.len; omega)])
      have OW := Lib.hid (hown.less (B' := w.heap.size) (by omega))
      have BW := Lib.hid hbel
      clear hkn hown hbel
      go_wp2
      go_ret
      rw [← HN.out]
      exact ⟨_, rfl, OW.out, BW.out⟩
end Go.Proofs.Ytjbhlojfmcldjab
