/- Parts, joined. -/
import Derived.Test.YtlbdpcokddpjpaaGreatDoorD6
/- dest.File: what it returns and does. -/
namespace Go.Proofs.YtlbdpcokddpjpaaGreatDoor
set_option linter.unusedVariables false
open Go Go.RowKit Go.BigFrame
section
variable {g m : Nat} {d : Dk.Disk}
namespace Dk
def fname (dir ch : ByteArray) (id : Int) : ByteArray := ⟨#[111, 117, 116, 47]⟩ ++ dir ++ ⟨#[47]⟩ ++ ch ++ ⟨#[45]⟩ ++ ⟨(P.hex (P.putS id 4)).toArray⟩
def fileV (d : Disk) (dir ch : ByteArray) (id : Int) (y : ByteArray) : ByteArray × Int × Disk :=
  if P.putOk id 4 = true then (if (file d (fname dir ch id) y).1 = 0 then fname dir ch id else ByteArray.empty, (file d (fname dir ch id) y).1, (file d (fname dir ch id) y).2) else (ByteArray.empty, 1, d)
end Dk
set_option maxRecDepth 100000 in
set_option maxHeartbeats 2000000 in
theorem file_any (w : World) (h : DiskAt w g m d) (hf : Dk.Fine d) (dir ch y : ByteArray) (id : Int) (h1 : -9223372036854775808 ≤ id) (h2 : id ≤ 9223372036854775807) (hd : dir.size + ch.size ≤ 10000) (hy : y.size ≤ 1000000) :
    Calls Tryz.prog 10 #[.pointer (some ⟨g, 0, none⟩), .string dir, .string ch, .int .i64 id, .string y] w fun e w' => e = .returned (.tuple #[.string (Dk.fileV d dir ch id y).1, .int .i64 (Dk.fileV d dir ch id y).2.1]) ∧ DiskAt w' g m (Dk.fileV d dir ch id y).2.2 ∧ Chg g m w w' := by
  have hz1 : (w.alloc (.cells #[.pointer (some ⟨g, 0, none⟩)] 24)).heap.size = w.heap.size + 1 := by simp
  have k0 := (Blk.new w 24 #[.pointer (some ⟨g, 0, none⟩)]).alloc (.cells #[.string y] 9)
  have k1 := Blk.new (w.alloc (.cells #[.pointer (some ⟨g, 0, none⟩)] 24)) 9 #[.string y]
  rw [hz1] at k1
  have hb : Below w.heap.size w ((w.alloc (.cells #[.pointer (some ⟨g, 0, none⟩)] 24)).alloc (.cells #[.string y] 9)) := ((Below.refl _ w).alloc (Nat.le_refl _) _).alloc (by simp) _
  have KP := Lib.hid (put_any id 4 ((w.alloc (.cells #[.pointer (some ⟨g, 0, none⟩)] 24)).alloc (.cells #[.string y] 9)) h1 h2 (by omega) (by omega))
  have K0 := Lib.hid k0
  have K1 := Lib.hid k1
  have HB := Lib.hid hb
  have HD := Lib.hid (h.below hb)
  have HFI := Lib.hid hf
  have HV := Lib.hid (show Dk.fileV d dir ch id y = if P.putOk id 4 = true then (if (Dk.file d (Dk.fname dir ch id) y).1 = 0 then Dk.fname dir ch id else ByteArray.empty, (Dk.file d (Dk.fname dir ch id) y).1, (Dk.file d (Dk.fname dir ch id) y).2) else (ByteArray.empty, 1, d) from rfl)
  have HPE := Lib.hid (show P.putE id 4 = if P.putOk id 4 = true then 0 else 1 from rfl)
  have HPS := Lib.hid (show (P.putOk id 4 = false → P.putS id 4 = []) ∧ (P.putS id 4).length ≤ 4 from by
    unfold P.putS
    refine ⟨fun h => by rw [h]; rfl, ?_⟩
    split
    · rw [P.low_length]; decide
    · simp)
  have HN := Lib.hid (show Dk.fname dir ch id = ⟨#[111, 117, 116, 47]⟩ ++ dir ++ ⟨#[47]⟩ ++ ch ++ ⟨#[45]⟩ ++ ⟨(P.hex (P.putS id 4)).toArray⟩ from rfl)
  clear k0 k1 hb h hf h1 h2
  generalize Dk.fileV d dir ch id y = r at *
  generalize Dk.fname dir ch id = x at *
  generalize P.putE id 4 = pe at *
  generalize P.putS id 4 = ps at *
  generalize P.putOk id 4 = po at *
  go_enter Tryz.func10, Tryz.ntmps10
  go_wp2_with fail
  refine KP.out.mono ?_
  rintro e w2 ⟨rfl, hb2⟩
  have B2 := Lib.hid (bt'' HB.out hb2)
  have HD2 := Lib.hid (HD.out.below hb2)
  have X0 := Lib.hid (K0.out.below hb2 K0.out.lt)
  have X1 := Lib.hid (K1.out.below hb2 K1.out.lt)
  clear hb2 KP
  cases po with
  | false =>
    have hpe := HPE.out
    simp only [Bool.false_eq_true, if_false] at hpe
    have HV2 := HV.out
    simp only [Bool.false_eq_true, if_false] at HV2
    rw [hpe]
    clear hpe
    go_wp2_with fail
    refine bodyPost_ret (results_tmp2 rfl _ _ _) rfl ?_
    rw [HV2]
    exact ⟨rfl, HD2.out, Chg.of_below B2.out⟩
  | true =>
    have hpe := HPE.out
    simp only [if_true] at hpe
    have HV2 := Lib.hid (HV.out.trans (if_pos rfl))
    rw [hpe]
    clear hpe
    have KH := Lib.hid (hex_any ⟨ps.toArray⟩ w2 (by have := HPS.out.2; show ps.toArray.size ≤ _; rw [List.size_toArray]; omega))
    have hxs : x.size ≤ 100000 := by
      rw [HN.out]
      have := HPS.out.2
      have h3 : (P.hex ps).length ≤ 8 := by rw [P.hex_length]; omega
      have h4 : (⟨(P.hex ps).toArray⟩ : ByteArray).size = (P.hex ps).length := by show (P.hex ps).toArray.size = _; simp
      simp only [ByteArray.size_append, h4]
      show 4 + dir.size + 1 + ch.size + 1 + _ ≤ _
      omega
    have HX := Lib.hid (show ∀ s : ByteArray, s = ⟨(P.hex ps).toArray⟩ → ⟨#[111, 117, 116, 47]⟩ ++ dir ++ ⟨#[47]⟩ ++ ch ++ ⟨#[45]⟩ ++ s = x from fun s hs => by rw [hs]; exact HN.out.symm)
    go_wp2_with fail
    refine KH.out.mono ?_
    rintro e w3 ⟨rfl, hb3⟩
    have hx3 := HX.out _ rfl
    have B3 := Lib.hid (bt'' B2.out hb3)
    have HD3 := Lib.hid (HD2.out.below hb3)
    have Y0 := Lib.hid (X0.out.below hb3 X0.out.lt)
    have Y1 := Lib.hid (X1.out.below hb3 X1.out.lt)
    have HD4 := Lib.hid (HD3.out.alloc (.cells #[.string x] 9))
    have B4 := Lib.hid (B3.out.alloc B3.out.size (.cells #[.string x] 9))
    have Z0 := Lib.hid (Y0.out.alloc (.cells #[.string x] 9))
    have Z1 := Lib.hid (Y1.out.alloc (.cells #[.string x] 9))
    have Z2 := Lib.hid (Blk.new w3 9 #[.string x])
    have KR := Lib.hid (remove_any isName_any _ g m d HD4.out HFI.out (Dk.bes x) (by rw [Dk.bes_size]; omega))
    have hh5 : (P.hex ps).length ≤ 8 := by rw [P.hex_length]; have := HPS.out.2; omega
    have hh4 : (⟨(P.hex ps).toArray⟩ : ByteArray).size ≤ 8 := by show (P.hex ps).toArray.size ≤ 8; simpa using hh5
    have c0 := fun i => Z0.out.cell i
    have c2 := fun i => Z2.out.cell i
    clear hb3 KH
    go_wp2_with fail
    refine KR.out.mono ?_
    rintro e w5 ⟨rfl, hd5, hc5⟩
    obtain ⟨⟨fp, acts, hbk, _⟩, hm4⟩ := HD4.out
    have U0 := Lib.hid (Z0.out.chg hc5 (blk_ne Z0.out hbk (by decide)) (blk_ne_map Z0.out hm4))
    have U1 := Lib.hid (Z1.out.chg hc5 (blk_ne Z1.out hbk (by decide)) (blk_ne_map Z1.out hm4))
    have U2 := Lib.hid (Z2.out.chg hc5 (blk_ne Z2.out hbk (by decide)) (blk_ne_map Z2.out hm4))
    have HD5 := Lib.hid hd5
    have C5 := Lib.hid (show Chg g m w w5 from (Chg.of_below B4.out).trans hc5)
    have HF5 := Lib.hid (HFI.out.remove (Dk.bes x))
    have HFL := Lib.hid (show Dk.file d x y = if (Dk.remove d (Dk.bes x)).1 ≠ 0 ∧ (Dk.remove d (Dk.bes x)).1 ≠ 22 then Dk.remove d (Dk.bes x) else Dk.frun x y 4 0 (Dk.remove d (Dk.bes x)).2 from rfl)
    clear hbk hm4 hd5 hc5 KR c0 c2 hx3 HX HN HPS HD4 HD3 HD2 HD Z0 Z1 Z2 Y0 Y1 X0 X1 K0 K1 B4 B3 B2 HB HV HPE
    generalize Dk.file d x y = fr at *
    generalize Dk.remove d (Dk.bes x) = rr at *
    obtain ⟨e1, d1⟩ := rr
    by_cases hbad : e1 ≠ 0 ∧ e1 ≠ 22
    · have h0 : (e1 != 0) = true := by simpa using hbad.1
      have h22 : (e1 != 22) = true := by simpa using hbad.2
      have HR := Lib.hid (show fr = (e1, d1) from HFL.out.trans (if_pos hbad))
      have hne := Lib.hid hbad.1
      clear hbad HFL
      go_wp2_with fail
      refine bodyPost_ret (results_tmp2 rfl _ _ _) rfl ?_
      rw [HV2.out, HR.out]
      refine ⟨?_, HD5.out, C5.out⟩
      rw [if_neg hne.out]
      rfl
    · have HR := Lib.hid (show fr = Dk.frun x y 4 0 d1 from HFL.out.trans (if_neg hbad))
      have HA := Lib.hid (show (e1 != 0 && e1 != 22) = false from by
        rcases Decidable.em (e1 = 0) with h | h
        · rw [h]; rfl
        · have : e1 = 22 := Decidable.byContradiction fun h2 => hbad ⟨h, h2⟩
          rw [this]; rfl)
      have h0 : e1 = 0 ∨ e1 = 22 := by omega
      have S5 := Lib.hid (Blk.new w5 67 #[.func (.func 28) #[] #[.pointer (some ⟨w.heap.size, 0, none⟩), .pointer (some ⟨w3.heap.size, 0, none⟩)], .func (.func 30) #[] #[.pointer (some ⟨w.heap.size, 0, none⟩), .pointer (some ⟨w3.heap.size, 0, none⟩), .pointer (some ⟨w.heap.size + 1, 0, none⟩)], .func (.func 32) #[] #[.pointer (some ⟨w.heap.size, 0, none⟩), .pointer (some ⟨w3.heap.size, 0, none⟩)], .func (.func 34) #[] #[.pointer (some ⟨w.heap.size, 0, none⟩), .pointer (some ⟨w3.heap.size, 0, none⟩)]])
      have c5 := fun i => S5.out.cell i
      clear hbad HA
      have HD6 := Lib.hid (HD5.out.alloc (.cells #[.func (.func 28) #[] #[.pointer (some ⟨w.heap.size, 0, none⟩), .pointer (some ⟨w3.heap.size, 0, none⟩)], .func (.func 30) #[] #[.pointer (some ⟨w.heap.size, 0, none⟩), .pointer (some ⟨w3.heap.size, 0, none⟩), .pointer (some ⟨w.heap.size + 1, 0, none⟩)], .func (.func 32) #[] #[.pointer (some ⟨w.heap.size, 0, none⟩), .pointer (some ⟨w3.heap.size, 0, none⟩)], .func (.func 34) #[] #[.pointer (some ⟨w.heap.size, 0, none⟩), .pointer (some ⟨w3.heap.size, 0, none⟩)]] 67))
      have V0 := Lib.hid (U0.out.alloc (.cells #[.func (.func 28) #[] #[.pointer (some ⟨w.heap.size, 0, none⟩), .pointer (some ⟨w3.heap.size, 0, none⟩)], .func (.func 30) #[] #[.pointer (some ⟨w.heap.size, 0, none⟩), .pointer (some ⟨w3.heap.size, 0, none⟩), .pointer (some ⟨w.heap.size + 1, 0, none⟩)], .func (.func 32) #[] #[.pointer (some ⟨w.heap.size, 0, none⟩), .pointer (some ⟨w3.heap.size, 0, none⟩)], .func (.func 34) #[] #[.pointer (some ⟨w.heap.size, 0, none⟩), .pointer (some ⟨w3.heap.size, 0, none⟩)]] 67))
      have V1 := Lib.hid (U1.out.alloc (.cells #[.func (.func 28) #[] #[.pointer (some ⟨w.heap.size, 0, none⟩), .pointer (some ⟨w3.heap.size, 0, none⟩)], .func (.func 30) #[] #[.pointer (some ⟨w.heap.size, 0, none⟩), .pointer (some ⟨w3.heap.size, 0, none⟩), .pointer (some ⟨w.heap.size + 1, 0, none⟩)], .func (.func 32) #[] #[.pointer (some ⟨w.heap.size, 0, none⟩), .pointer (some ⟨w3.heap.size, 0, none⟩)], .func (.func 34) #[] #[.pointer (some ⟨w.heap.size, 0, none⟩), .pointer (some ⟨w3.heap.size, 0, none⟩)]] 67))
      have V2 := Lib.hid (U2.out.alloc (.cells #[.func (.func 28) #[] #[.pointer (some ⟨w.heap.size, 0, none⟩), .pointer (some ⟨w3.heap.size, 0, none⟩)], .func (.func 30) #[] #[.pointer (some ⟨w.heap.size, 0, none⟩), .pointer (some ⟨w3.heap.size, 0, none⟩), .pointer (some ⟨w.heap.size + 1, 0, none⟩)], .func (.func 32) #[] #[.pointer (some ⟨w.heap.size, 0, none⟩), .pointer (some ⟨w3.heap.size, 0, none⟩)], .func (.func 34) #[] #[.pointer (some ⟨w.heap.size, 0, none⟩), .pointer (some ⟨w3.heap.size, 0, none⟩)]] 67))
      have C6 := Lib.hid (show Chg g m w (w5.alloc (.cells #[.func (.func 28) #[] #[.pointer (some ⟨w.heap.size, 0, none⟩), .pointer (some ⟨w3.heap.size, 0, none⟩)], .func (.func 30) #[] #[.pointer (some ⟨w.heap.size, 0, none⟩), .pointer (some ⟨w3.heap.size, 0, none⟩), .pointer (some ⟨w.heap.size + 1, 0, none⟩)], .func (.func 32) #[] #[.pointer (some ⟨w.heap.size, 0, none⟩), .pointer (some ⟨w3.heap.size, 0, none⟩)], .func (.func 34) #[] #[.pointer (some ⟨w.heap.size, 0, none⟩), .pointer (some ⟨w3.heap.size, 0, none⟩)]] 67)) from C5.out.below ((Below.refl _ _).alloc (Nat.le_refl _) _))
      obtain ⟨w6, hw6⟩ : ∃ w6, w6 = w5.alloc (.cells #[.func (.func 28) #[] #[.pointer (some ⟨w.heap.size, 0, none⟩), .pointer (some ⟨w3.heap.size, 0, none⟩)], .func (.func 30) #[] #[.pointer (some ⟨w.heap.size, 0, none⟩), .pointer (some ⟨w3.heap.size, 0, none⟩), .pointer (some ⟨w.heap.size + 1, 0, none⟩)], .func (.func 32) #[] #[.pointer (some ⟨w.heap.size, 0, none⟩), .pointer (some ⟨w3.heap.size, 0, none⟩)], .func (.func 34) #[] #[.pointer (some ⟨w.heap.size, 0, none⟩), .pointer (some ⟨w3.heap.size, 0, none⟩)]] 67) := ⟨_, rfl⟩
      rw [← hw6] at HD6 V0 V1 V2 C6 S5
      have HW6 := Lib.hid hw6
      clear hw6
      rcases h0 with rfl | rfl
      · skip
        go_wp2_with fail
        go_loopw [52] (fun v wr => ∃ (k : Nat) (dk : Dk.Disk), k ≤ 4 ∧ v = .int .i64 k ∧ DiskAt wr g m dk ∧ Dk.Fine dk ∧ Chg g m w6 wr ∧ fr = Dk.frun x y (4 - k) k dk) (fun v _ => 4 - (intOf v).toNat)
        case atStart =>
          rw [← HW6.out]
          exact ⟨0, d1, by omega, rfl, HD6.out, HF5.out, Chg.refl _ _ _, HR.out⟩
        case round =>
          obtain ⟨k, dk, hk, rfl, hdk, hfk, hck, hfr⟩ := hrel
          have HDK := Lib.hid hdk
          have HFK := Lib.hid hfk
          have HCK := Lib.hid hck
          obtain ⟨⟨fp, acts, hbk, _⟩, hmk⟩ := HD6.out
          have T0 := Lib.hid (V0.out.chg hck (blk_ne V0.out hbk (by decide)) (blk_ne_map V0.out hmk))
          have T1 := Lib.hid (V1.out.chg hck (blk_ne V1.out hbk (by decide)) (blk_ne_map V1.out hmk))
          have T2 := Lib.hid (V2.out.chg hck (blk_ne V2.out hbk (by decide)) (blk_ne_map V2.out hmk))
          have TS := Lib.hid (S5.out.chg hck (blk_ne S5.out hbk (by decide)) (blk_ne_map S5.out hmk))
          have ts := fun i => TS.out.cell i
          have HFR := Lib.hid hfr
          clear hdk hfk hck hbk hmk hfr
          rcases Nat.lt_or_ge k 4 with hlt | hge
          · have HST := Lib.hid (show fr = if (Dk.fstep x y k dk).1 ≠ 0 then Dk.fstep x y k dk else Dk.frun x y (4 - (k + 1)) (k + 1) (Dk.fstep x y k dk).2 from by
              rw [HFR.out, show 4 - k = (4 - (k + 1)) + 1 by omega]
              rfl)
            have HS := Lib.hid (show Dk.fstep x y k dk = if k = 0 then Dk.create dk (Dk.bes x) else if k = 1 then Dk.append dk (Dk.bes x) y else if k = 2 then Dk.sync dk (Dk.bes x) else Dk.rename dk (Dk.bes x) x from rfl)
            have HFS := Lib.hid (HFK.out.fstep x y k)
            generalize Dk.fstep x y k dk = st at *
            obtain ⟨es, ds⟩ := st
            rcases (show k = 0 ∨ k = 1 ∨ k = 2 ∨ k = 3 by omega) with rfl | rfl | rfl | rfl
            · have hst : Dk.create dk (Dk.bes x) = (es, ds) := HS.out.symm
              have K := file1_any wr HDK.out HFK.out x (by omega) w.heap.size w3.heap.size (T0.out.cell 0) (T2.out.cell 0)
              rw [hst] at K
              have HK := Lib.hid K
              clear K hst HS
              go_wp2_with fail
              refine HK.out.mono ?_
              rintro e w7 ⟨rfl, hd7, hc7⟩
              have HD7 := Lib.hid hd7
              have C7 := Lib.hid (HCK.out.trans hc7)
              clear hd7 hc7 HK
              by_cases hes : es = 0
              · have HR7 := Lib.hid (show fr = Dk.frun x y (4 - (0 + 1)) (0 + 1) ds from HST.out.trans (if_neg (by rw [hes]; simp)))
                subst hes
                go_wp2_with fail
                go_roundw
                case rel => exact ⟨1, ds, by omega, by go_num, HD7.out, HFS.out, C7.out, HR7.out⟩
                case measure => simp [intOf]
              · have HR7 := Lib.hid (show fr = (es, ds) from HST.out.trans (if_pos hes))
                have hes' : (es != 0) = true := by simpa using hes
                have HNE := Lib.hid hes
                clear hes
                go_wp2_with fail
                refine bodyPost_ret (results_tmp2 rfl _ _ _) rfl ?_
                rw [HV2.out, HR7.out]
                refine ⟨?_, HD7.out, C6.out.trans C7.out⟩
                rw [if_neg HNE.out]
                rfl
            · have hst : Dk.append dk (Dk.bes x) y = (es, ds) := HS.out.symm
              have K := file2_any wr HDK.out HFK.out x y (by omega) hy w.heap.size w3.heap.size (w.heap.size + 1) (T0.out.cell 0) (T2.out.cell 0) (T1.out.cell 0)
              rw [hst] at K
              have HK := Lib.hid K
              clear K hst HS
              go_wp2_with fail
              refine HK.out.mono ?_
              rintro e w7 ⟨rfl, hd7, hc7⟩
              have HD7 := Lib.hid hd7
              have C7 := Lib.hid (HCK.out.trans hc7)
              clear hd7 hc7 HK
              by_cases hes : es = 0
              · have HR7 := Lib.hid (show fr = Dk.frun x y (4 - (1 + 1)) (1 + 1) ds from HST.out.trans (if_neg (by rw [hes]; simp)))
                subst hes
                go_wp2_with fail
                go_roundw
                case rel => exact ⟨2, ds, by omega, by go_num, HD7.out, HFS.out, C7.out, HR7.out⟩
                case measure => simp [intOf]
              · have HR7 := Lib.hid (show fr = (es, ds) from HST.out.trans (if_pos hes))
                have hes' : (es != 0) = true := by simpa using hes
                have HNE := Lib.hid hes
                clear hes
                go_wp2_with fail
                refine bodyPost_ret (results_tmp2 rfl _ _ _) rfl ?_
                rw [HV2.out, HR7.out]
                refine ⟨?_, HD7.out, C6.out.trans C7.out⟩
                rw [if_neg HNE.out]
                rfl
            · have hst : Dk.sync dk (Dk.bes x) = (es, ds) := HS.out.symm
              have K := file3_any wr HDK.out HFK.out x (by omega) w.heap.size w3.heap.size (T0.out.cell 0) (T2.out.cell 0)
              rw [hst] at K
              have HK := Lib.hid K
              clear K hst HS
              go_wp2_with fail
              refine HK.out.mono ?_
              rintro e w7 ⟨rfl, hd7, hc7⟩
              have HD7 := Lib.hid hd7
              have C7 := Lib.hid (HCK.out.trans hc7)
              clear hd7 hc7 HK
              by_cases hes : es = 0
              · have HR7 := Lib.hid (show fr = Dk.frun x y (4 - (2 + 1)) (2 + 1) ds from HST.out.trans (if_neg (by rw [hes]; simp)))
                subst hes
                go_wp2_with fail
                go_roundw
                case rel => exact ⟨3, ds, by omega, by go_num, HD7.out, HFS.out, C7.out, HR7.out⟩
                case measure => simp [intOf]
              · have HR7 := Lib.hid (show fr = (es, ds) from HST.out.trans (if_pos hes))
                have hes' : (es != 0) = true := by simpa using hes
                have HNE := Lib.hid hes
                clear hes
                go_wp2_with fail
                refine bodyPost_ret (results_tmp2 rfl _ _ _) rfl ?_
                rw [HV2.out, HR7.out]
                refine ⟨?_, HD7.out, C6.out.trans C7.out⟩
                rw [if_neg HNE.out]
                rfl
            · have hst : Dk.rename dk (Dk.bes x) x = (es, ds) := HS.out.symm
              have K := file4_any wr HDK.out HFK.out x (by omega) w.heap.size w3.heap.size (T0.out.cell 0) (T2.out.cell 0)
              rw [hst] at K
              have HK := Lib.hid K
              clear K hst HS
              go_wp2_with fail
              refine HK.out.mono ?_
              rintro e w7 ⟨rfl, hd7, hc7⟩
              have HD7 := Lib.hid hd7
              have C7 := Lib.hid (HCK.out.trans hc7)
              clear hd7 hc7 HK
              by_cases hes : es = 0
              · have HR7 := Lib.hid (show fr = Dk.frun x y (4 - (3 + 1)) (3 + 1) ds from HST.out.trans (if_neg (by rw [hes]; simp)))
                subst hes
                go_wp2_with fail
                go_roundw
                case rel => exact ⟨4, ds, by omega, by go_num, HD7.out, HFS.out, C7.out, HR7.out⟩
                case measure => simp [intOf]
              · have HR7 := Lib.hid (show fr = (es, ds) from HST.out.trans (if_pos hes))
                have hes' : (es != 0) = true := by simpa using hes
                have HNE := Lib.hid hes
                clear hes
                go_wp2_with fail
                refine bodyPost_ret (results_tmp2 rfl _ _ _) rfl ?_
                rw [HV2.out, HR7.out]
                refine ⟨?_, HD7.out, C6.out.trans C7.out⟩
                rw [if_neg HNE.out]
                rfl
          · obtain rfl : k = 4 := by omega
            have hx4 : fr = (0, dk) := HFR.out
            have c2 := fun i => T2.out.cell i
            have HX4 := Lib.hid hx4
            clear hx4
            go_wp2_with fail
            refine bodyPost_ret (results_tmp2 rfl _ _ _) rfl ?_
            rw [HV2.out, HX4.out]
            exact ⟨rfl, HDK.out, C6.out.trans HCK.out⟩
      · skip
        go_wp2_with fail
        go_loopw [52] (fun v wr => ∃ (k : Nat) (dk : Dk.Disk), k ≤ 4 ∧ v = .int .i64 k ∧ DiskAt wr g m dk ∧ Dk.Fine dk ∧ Chg g m w6 wr ∧ fr = Dk.frun x y (4 - k) k dk) (fun v _ => 4 - (intOf v).toNat)
        case atStart =>
          rw [← HW6.out]
          exact ⟨0, d1, by omega, rfl, HD6.out, HF5.out, Chg.refl _ _ _, HR.out⟩
        case round =>
          obtain ⟨k, dk, hk, rfl, hdk, hfk, hck, hfr⟩ := hrel
          have HDK := Lib.hid hdk
          have HFK := Lib.hid hfk
          have HCK := Lib.hid hck
          obtain ⟨⟨fp, acts, hbk, _⟩, hmk⟩ := HD6.out
          have T0 := Lib.hid (V0.out.chg hck (blk_ne V0.out hbk (by decide)) (blk_ne_map V0.out hmk))
          have T1 := Lib.hid (V1.out.chg hck (blk_ne V1.out hbk (by decide)) (blk_ne_map V1.out hmk))
          have T2 := Lib.hid (V2.out.chg hck (blk_ne V2.out hbk (by decide)) (blk_ne_map V2.out hmk))
          have TS := Lib.hid (S5.out.chg hck (blk_ne S5.out hbk (by decide)) (blk_ne_map S5.out hmk))
          have ts := fun i => TS.out.cell i
          have HFR := Lib.hid hfr
          clear hdk hfk hck hbk hmk hfr
          rcases Nat.lt_or_ge k 4 with hlt | hge
          · have HST := Lib.hid (show fr = if (Dk.fstep x y k dk).1 ≠ 0 then Dk.fstep x y k dk else Dk.frun x y (4 - (k + 1)) (k + 1) (Dk.fstep x y k dk).2 from by
              rw [HFR.out, show 4 - k = (4 - (k + 1)) + 1 by omega]
              rfl)
            have HS := Lib.hid (show Dk.fstep x y k dk = if k = 0 then Dk.create dk (Dk.bes x) else if k = 1 then Dk.append dk (Dk.bes x) y else if k = 2 then Dk.sync dk (Dk.bes x) else Dk.rename dk (Dk.bes x) x from rfl)
            have HFS := Lib.hid (HFK.out.fstep x y k)
            generalize Dk.fstep x y k dk = st at *
            obtain ⟨es, ds⟩ := st
            rcases (show k = 0 ∨ k = 1 ∨ k = 2 ∨ k = 3 by omega) with rfl | rfl | rfl | rfl
            · have hst : Dk.create dk (Dk.bes x) = (es, ds) := HS.out.symm
              have K := file1_any wr HDK.out HFK.out x (by omega) w.heap.size w3.heap.size (T0.out.cell 0) (T2.out.cell 0)
              rw [hst] at K
              have HK := Lib.hid K
              clear K hst HS
              go_wp2_with fail
              refine HK.out.mono ?_
              rintro e w7 ⟨rfl, hd7, hc7⟩
              have HD7 := Lib.hid hd7
              have C7 := Lib.hid (HCK.out.trans hc7)
              clear hd7 hc7 HK
              by_cases hes : es = 0
              · have HR7 := Lib.hid (show fr = Dk.frun x y (4 - (0 + 1)) (0 + 1) ds from HST.out.trans (if_neg (by rw [hes]; simp)))
                subst hes
                go_wp2_with fail
                go_roundw
                case rel => exact ⟨1, ds, by omega, by go_num, HD7.out, HFS.out, C7.out, HR7.out⟩
                case measure => simp [intOf]
              · have HR7 := Lib.hid (show fr = (es, ds) from HST.out.trans (if_pos hes))
                have hes' : (es != 0) = true := by simpa using hes
                have HNE := Lib.hid hes
                clear hes
                go_wp2_with fail
                refine bodyPost_ret (results_tmp2 rfl _ _ _) rfl ?_
                rw [HV2.out, HR7.out]
                refine ⟨?_, HD7.out, C6.out.trans C7.out⟩
                rw [if_neg HNE.out]
                rfl
            · have hst : Dk.append dk (Dk.bes x) y = (es, ds) := HS.out.symm
              have K := file2_any wr HDK.out HFK.out x y (by omega) hy w.heap.size w3.heap.size (w.heap.size + 1) (T0.out.cell 0) (T2.out.cell 0) (T1.out.cell 0)
              rw [hst] at K
              have HK := Lib.hid K
              clear K hst HS
              go_wp2_with fail
              refine HK.out.mono ?_
              rintro e w7 ⟨rfl, hd7, hc7⟩
              have HD7 := Lib.hid hd7
              have C7 := Lib.hid (HCK.out.trans hc7)
              clear hd7 hc7 HK
              by_cases hes : es = 0
              · have HR7 := Lib.hid (show fr = Dk.frun x y (4 - (1 + 1)) (1 + 1) ds from HST.out.trans (if_neg (by rw [hes]; simp)))
                subst hes
                go_wp2_with fail
                go_roundw
                case rel => exact ⟨2, ds, by omega, by go_num, HD7.out, HFS.out, C7.out, HR7.out⟩
                case measure => simp [intOf]
              · have HR7 := Lib.hid (show fr = (es, ds) from HST.out.trans (if_pos hes))
                have hes' : (es != 0) = true := by simpa using hes
                have HNE := Lib.hid hes
                clear hes
                go_wp2_with fail
                refine bodyPost_ret (results_tmp2 rfl _ _ _) rfl ?_
                rw [HV2.out, HR7.out]
                refine ⟨?_, HD7.out, C6.out.trans C7.out⟩
                rw [if_neg HNE.out]
                rfl
            · have hst : Dk.sync dk (Dk.bes x) = (es, ds) := HS.out.symm
              have K := file3_any wr HDK.out HFK.out x (by omega) w.heap.size w3.heap.size (T0.out.cell 0) (T2.out.cell 0)
              rw [hst] at K
              have HK := Lib.hid K
              clear K hst HS
              go_wp2_with fail
              refine HK.out.mono ?_
              rintro e w7 ⟨rfl, hd7, hc7⟩
              have HD7 := Lib.hid hd7
              have C7 := Lib.hid (HCK.out.trans hc7)
              clear hd7 hc7 HK
              by_cases hes : es = 0
              · have HR7 := Lib.hid (show fr = Dk.frun x y (4 - (2 + 1)) (2 + 1) ds from HST.out.trans (if_neg (by rw [hes]; simp)))
                subst hes
                go_wp2_with fail
                go_roundw
                case rel => exact ⟨3, ds, by omega, by go_num, HD7.out, HFS.out, C7.out, HR7.out⟩
                case measure => simp [intOf]
              · have HR7 := Lib.hid (show fr = (es, ds) from HST.out.trans (if_pos hes))
                have hes' : (es != 0) = true := by simpa using hes
                have HNE := Lib.hid hes
                clear hes
                go_wp2_with fail
                refine bodyPost_ret (results_tmp2 rfl _ _ _) rfl ?_
                rw [HV2.out, HR7.out]
                refine ⟨?_, HD7.out, C6.out.trans C7.out⟩
                rw [if_neg HNE.out]
                rfl
            · have hst : Dk.rename dk (Dk.bes x) x = (es, ds) := HS.out.symm
              have K := file4_any wr HDK.out HFK.out x (by omega) w.heap.size w3.heap.size (T0.out.cell 0) (T2.out.cell 0)
              rw [hst] at K
              have HK := Lib.hid K
              clear K hst HS
              go_wp2_with fail
              refine HK.out.mono ?_
              rintro e w7 ⟨rfl, hd7, hc7⟩
              have HD7 := Lib.hid hd7
              have C7 := Lib.hid (HCK.out.trans hc7)
              clear hd7 hc7 HK
              by_cases hes : es = 0
              · have HR7 := Lib.hid (show fr = Dk.frun x y (4 - (3 + 1)) (3 + 1) ds from HST.out.trans (if_neg (by rw [hes]; simp)))
                subst hes
                go_wp2_with fail
                go_roundw
                case rel => exact ⟨4, ds, by omega, by go_num, HD7.out, HFS.out, C7.out, HR7.out⟩
                case measure => simp [intOf]
              · have HR7 := Lib.hid (show fr = (es, ds) from HST.out.trans (if_pos hes))
                have hes' : (es != 0) = true := by simpa using hes
                have HNE := Lib.hid hes
                clear hes
                go_wp2_with fail
                refine bodyPost_ret (results_tmp2 rfl _ _ _) rfl ?_
                rw [HV2.out, HR7.out]
                refine ⟨?_, HD7.out, C6.out.trans C7.out⟩
                rw [if_neg HNE.out]
                rfl
          · obtain rfl : k = 4 := by omega
            have hx4 : fr = (0, dk) := HFR.out
            have c2 := fun i => T2.out.cell i
            have HX4 := Lib.hid hx4
            clear hx4
            go_wp2_with fail
            refine bodyPost_ret (results_tmp2 rfl _ _ _) rfl ?_
            rw [HV2.out, HX4.out]
            exact ⟨rfl, HDK.out, C6.out.trans HCK.out⟩
end
end Go.Proofs.YtlbdpcokddpjpaaGreatDoor
