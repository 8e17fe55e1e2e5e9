/- The row's last step for a call that leaves what was there. Plain; no conditions. -/
import Derived.Test.YtemjipongehjlaaGreatRows
import Derived.WalkKit
import Derived.ProofKit
import Derived.OpenShut
import Derived.ShutString
import Derived.Below
import Derived.ChangeSame
import Derived.WalkSpells
import Derived.WalkLawsBesides
import Derived.Lib.Hide
import Derived.Deep.DeepMust
import Derived.Deep.DeepFit
import Derived.Deep.LoopGhost
import Derived.Deep.Draws
import Derived.Laws.Rows
import Derived.Laws.MakeOwn
import Derived.Laws.BytesArg
import Derived.Deep.QuietTactic
import Derived.Deep.OwnRows
import Derived.Laws.OwnMore
import Derived.Deep.AppendLies
import Derived.OwnWalk
import Derived.Lib.SmallJoins
import Derived.Deep.Slices
import Derived.Deep.Fields
import Derived.WideKeyArgs
import Derived.SizedLaws
namespace Go.Proofs.YtemjipongehjlaaGreat
set_option linter.unusedVariables false
open Go.RowKit Go.WideShapes Go.ChangeShapes Go.ChangeAt
section
variable {H : Type} {enc : TypeId × Value → H} {P : Program}
theorem post_of_below {f : Func} {s : ChangeSpec} {apart fresh handsOn again : Bool} {W W' : World} {args : Array Value} {v : Value} {ds gs : List (DataW H)} {before pa pv : List MemPlace}
    (hW : DataW.Whole enc P f.params.toList s.vars apart W args.toList ds gs before)
    (hres : ∀ (b : Nat) (sp : Nat → Bool) (hd : Bool), DataW.TrodAll enc P W' b sp hd f.resultTypes.toList (v.resultList f.resultTypes.size) (s.fn H (ds ++ gs)).results [])
    (hargs : ∀ sp : Nat → Bool, (∀ p ∈ before, sp p.block = true) → DataW.TrodAll enc P W' 0 sp true f.params.toList args.toList (s.fn H (ds ++ gs)).args pa)
    (hvars : ∀ sp : Nat → Bool, (∀ p ∈ before, sp p.block = true) → DataW.TrodVars enc P W' sp s.vars (s.fn H (ds ++ gs)).vars pv)
    (hps : before = pa ++ pv) (hb : Below W.heap.size W W')
    (hok : ∀ (j : Nat) (t : TypeId) (r : Value), f.resultTypes[j]? = some t → (v.resultList f.resultTypes.size)[j]? = some r → Value.okWide P W' .any 0 t r) :
    s.post enc P f apart fresh handsOn again W args v W' := by
  have hlt : ∀ p ∈ before, p.block < W.heap.size := fun p hp => hW.lt p hp
  have hold : ∀ p ∈ before, (fun b => decide (b < W.heap.size)) p.block = true := fun p hp => by simpa using hlt p hp
  refine ⟨ds, gs, before, [], pa, pv, hW, hres _ _ _, hargs _ hold, hvars _ hold, World.keptBut_mono (fun p hp => ⟨hp, ?_⟩) (hb.frame (· ∈ before)), fun _ => ?_⟩
  · rw [hps, List.mem_append] at hp
    exact Or.inr hp
  · obtain ⟨_, _, _, _, _, hz, hn⟩ := hW
    refine ⟨hok, _, _, ([] ++ pa) ++ pv, ⟨[] ++ pa, pv, trodAll_append (hargs _ (fun _ _ => rfl)) (hres _ _ _), hvars _ (fun _ _ => rfl), rfl, ?_, ?_⟩, ?_⟩
    · intro b off hp
      have hin : MemPlace.cell b off ∈ before := by rw [hps]; simpa using hp
      rw [hb.frozen (hlt _ hin)]
      exact hz b off hin
    · intro ha
      have := hn ha
      rw [hps] at this
      simpa using this
    · intro p hp _
      rw [hps]
      simpa using hp
end
theorem own : ownKnob Tryz.prog.godebug = none := by kernel_rfl
theorem laidOut : laidOutB Tryz.prog = true := by kernel_rfl
theorem i64_bounds {n : Int} (h : (Lit.int .i64 n).wf = true) : -9223372036854775808 ≤ n ∧ n ≤ 9223372036854775807 := by
  have := bounds_i64 h
  omega
end Go.Proofs.YtemjipongehjlaaGreat
/- Small words shared by all walks of this seat: what the walk imports, and a few plain lemmas on worlds. No conditions. -/
namespace Go.Proofs.YtemjipongehjlaaGreat
set_option linter.unusedVariables false
open Go.RowKit
end Go.Proofs.YtemjipongehjlaaGreat
/- Words for memory: a block that is known whole; make of bytes; a string of a block of bytes. Plain lemmas, no conditions beyond their own. -/
namespace Go.Proofs.YtemjipongehjlaaGreat
set_option linter.unusedVariables false
open Go.RowKit

def Blk (w : World) (g : Nat) (t : TypeId) (cs : Array Value) : Prop := w.heap[g]? = some (.cells cs t (0, 0))
section
variable {w w' : World} {g : Nat} {t : TypeId} {cs : Array Value}
theorem Blk.lt (h : Blk w g t cs) : g < w.heap.size := by
  rcases Nat.lt_or_ge g w.heap.size with hlt | hge
  · exact hlt
  · unfold Blk at h; rw [Array.getElem?_eq_none hge] at h; cases h
theorem Blk.cell (h : Blk w g t cs) (i : Nat) : w.cell? ⟨g, i, none⟩ = cs[i]? := cell_of_row w g i cs t (0, 0) h
theorem Blk.frozen (h : Blk w g t cs) (i : Nat) : w.frozen? ⟨g, i, none⟩ = false := by
  unfold Blk at h
  simp [World.frozen?, h]
theorem Blk.new (w : World) (t : TypeId) (cs : Array Value) : Blk (w.alloc (.cells cs t)) w.heap.size t cs := heap_alloc_new w _
theorem Blk.drew (h : Blk w g t cs) : Blk w.drew g t cs := h
theorem Blk.drewN (h : Blk w g t cs) (n : Nat) : Blk (w.drewN n) g t cs := h
theorem Blk.alloc (h : Blk w g t cs) (o : Obj) : Blk (w.alloc o) g t cs := (Below.heap_alloc w o g h.lt).trans h
theorem Blk.set_ (h : Blk w g t cs) (i : Nat) (u : Value) : Blk (w.setCell ⟨g, i, none⟩ u) g t (cs.setIfInBounds i u) := by
  unfold Blk at h ⊢
  simp [World.setCell, Array.getElem?_modify, h]
theorem Blk.far (h : Blk w g t cs) {p : Addr} (hp : g ≠ p.block) (u : Value) : Blk (w.setCell p u) g t cs := (Below.heap_setCell w p u g hp).trans h
theorem Blk.below {B : Nat} (h : Blk w g t cs) (hb : Below B w w') (hg : g < B) : Blk w' g t cs := (hb.block g hg).trans h
theorem Blk.grown {row : Option Nat} (h : Blk w g t cs) (hb : w.grownBy w' row) (hg : some g ≠ row) : Blk w' g t cs := (hb.block g h.lt hg).trans h
end
theorem below_drewN {B : Nat} {a w : World} (h : Below B a w) (n : Nat) : Below B a (w.drewN n) := ⟨h.os, h.tape, h.output, h.size, h.block⟩
theorem below_undrew {B : Nat} {w w' : World} (h : Below B w.drew w') : Below B w w' := ⟨h.os, h.tape, h.output, h.size, h.block⟩
theorem below_undrewN {B : Nat} {w w' : World} {n : Nat} (h : Below B (w.drewN n) w') : Below B w w' := ⟨h.os, h.tape, h.output, h.size, h.block⟩
theorem bcell {W w1 : World} (hb : Below W.heap.size W w1) : (∀ b o, b < W.heap.size → w1.cell? ⟨b, o, none⟩ = W.cell? ⟨b, o, none⟩) ∧ (∀ b o, b < W.heap.size → w1.frozen? ⟨b, o, none⟩ = W.frozen? ⟨b, o, none⟩) :=
  ⟨fun b o h => hb.cell (p := ⟨b, o, none⟩) h, fun b o h => hb.frozen (p := ⟨b, o, none⟩) h⟩

theorem run_make_rowN {P : Program} (t e : TypeId) (i : TypeInfo) (z : Value) (ht : P.underlying t = some (.slice e)) (hi : P.info? e = some i) (hz : i.zero = some z)
    (kl kc : IntKind) (n c : Nat) (hnc : n ≤ c) (hbytes : i.bytes * c ≤ 281474976710656) (h63 : c ≤ 9223372036854775807) (w : World) :
    (Instr.makeSlice t (.int kl (n : Int)) (.int kc (c : Int))).run P w = .ok (.slice (some ⟨w.heap.size, 0, none⟩) n c) (w.alloc (.cells (madeCells z.cells (c * i.size)) e)) := by
  have hb : (i.bytes : Int) * (c : Int) ≤ 281474976710656 := by
    have h : ((i.bytes * c : Nat) : Int) ≤ 281474976710656 := by omega
    rwa [Int.natCast_mul] at h
  have hr := run_make (P := P) w t e i z ht hi hz kl kc n c (by omega) (by omega) hb (by omega)
  simp only [Int.toNat_natCast] at hr
  exact hr

/-- The cells of a list of bytes. -/
def cellsU8 (l : List UInt8) : Array Value := (l.map fun b => Value.int .u8 (b.toNat : Int)).toArray
theorem cellsU8_get (l : List UInt8) (i : Nat) : (cellsU8 l)[i]? = l[i]?.map fun b => Value.int .u8 (b.toNat : Int) := by simp [cellsU8]
theorem cellsU8_size (l : List UInt8) : (cellsU8 l).size = l.length := by simp [cellsU8]
theorem cellsU8_set (l : List UInt8) (i : Nat) (b : UInt8) : (cellsU8 l).setIfInBounds i (.int .u8 (b.toNat : Int)) = cellsU8 (l.set i b) := by
  simp [cellsU8, List.map_set]

theorem infoU8 : (Tryz.prog.info? 5).map (fun i => (i.zero, i.size, i.bytes)) = some (some (.int .u8 0), 1, 1) := by kernel_rfl
theorem madeU8 (n : Nat) : madeCells (Value.int .u8 0).cells n = cellsU8 (List.replicate n 0) := by
  apply Array.ext_getElem?
  intro i
  simp [madeCells, cellsU8, Value.cells]
  rcases Nat.lt_or_ge i n with h | h
  · simp [h, Nat.mod_one]
  · simp [Nat.not_lt.2 h]
theorem make_bytes (kl kc : IntKind) (n c : Nat) (hnc : n ≤ c) (hc : c ≤ 281474976710656) (w : World) :
    (Instr.makeSlice 199 (.int kl (n : Int)) (.int kc (c : Int))).run Tryz.prog w = .ok (.slice (some ⟨w.heap.size, 0, none⟩) n c) (w.alloc (.cells (cellsU8 (List.replicate c 0)) 5)) := by
  obtain ⟨i, hi, hz, hs, hb⟩ := info_parts infoU8
  have h := run_make_rowN 199 5 i _ Tryz.underlying199 hi hz kl kc n c hnc (by rw [hb]; omega) (by omega) w
  rw [hs, Nat.mul_one, madeU8] at h
  exact h
/-- A block of bytes as a string. -/
theorem bytes_string {w : World} {g n c : Nat} {t : TypeId} {l : List UInt8} (h : Blk w g t (cellsU8 l)) (hn : n ≤ l.length) :
    (convert 199 9 (.slice (some ⟨g, 0, none⟩) n c)).run Tryz.prog w = .ok (.string ⟨(l.take n).toArray⟩) w := by
  have h1 := run_convert_bytes_arg (P := Tryz.prog) w 199 5 Tryz.underlying199 Tryz.underlying5 g 0 n c ((l.take n).map fun b => (b.toNat : Int)) (by simp [hn]) (fun i hi => by
    rw [Nat.zero_add, h.cell, cellsU8_get]
    have hil : i < l.length := by omega
    simp [hi, hil]) 9 Tryz.underlying9
  rw [h1]
  have he : ((fun n : Int => UInt8.ofNat n.toNat) ∘ fun b : UInt8 => (b.toNat : Int)) = id := by funext b; simp
  simp [strOfNums, he]
theorem bytes_string_off {w : World} {g off n c : Nat} {t : TypeId} {l : List UInt8} (h : Blk w g t (cellsU8 l)) (hn : off + n ≤ l.length) :
    (convert 199 9 (.slice (some ⟨g, off, none⟩) n c)).run Tryz.prog w = .ok (.string ⟨((l.drop off).take n).toArray⟩) w := by
  have h1 := run_convert_bytes_arg (P := Tryz.prog) w 199 5 Tryz.underlying199 Tryz.underlying5 g off n c (((l.drop off).take n).map fun b => (b.toNat : Int)) (by simp; omega) (fun i hi => by
    rw [h.cell, cellsU8_get]
    have hil : off + i < l.length := by omega
    simp [hi, hil, List.getElem?_drop]) 9 Tryz.underlying9
  rw [h1]
  have he : ((fun n : Int => UInt8.ofNat n.toNat) ∘ fun b : UInt8 => (b.toNat : Int)) = id := by funext b; simp
  simp [strOfNums, he]
/-- The worlds that a world may have grown to: what was there stands. -/
structure Ext (w : World) where
  wd : World
  hb : Below w.heap.size w wd
instance (w : World) : Nonempty (Ext w) := ⟨⟨w, Below.refl _ _⟩⟩
theorem Ext.cell {w : World} (x : Ext w) {p : Addr} (h : p.block < w.heap.size) : x.wd.cell? p = w.cell? p := x.hb.cell h
theorem Ext.calls {P : Program} {f : FuncId} {args : Array Value} {w : World} (x : Ext w) {v : Value} (h : Calls P f args x.wd fun e w' => e = .returned v ∧ Below x.wd.heap.size x.wd w') :
    Calls P f args x.wd fun e w'' => e = .returned v ∧ ∃ y : Ext w, w'' = y.wd :=
  h.mono fun _ w'' ⟨he, hb⟩ => ⟨he, ⟨w'', x.hb.trans (hb.mono x.hb.size)⟩, rfl⟩
theorem Ext.calls_same {P : Program} {f : FuncId} {args : Array Value} {w : World} (x : Ext w) {v : Value} (h : Calls P f args x.wd fun e w' => e = .returned v ∧ x.wd = w') :
    Calls P f args x.wd fun e w'' => e = .returned v ∧ ∃ y : Ext w, w'' = y.wd :=
  h.mono fun _ _ ⟨he, hw⟩ => ⟨he, x, hw.symm⟩
/-- A region that draws its order, whose operations read what was there, reckon, and call what leaves what was there: one walk in the order of the text serves every order. -/
theorem wp_region_ext {P : Program} {id : Nat} {Q : Exit → Act → World → Prop} {a : Act} {w : World} {l : List Oper} (hm : P.follows .mixedOrders = true) (hB : Region.lexB .any l.toArray = true)
    (h : wpQuiet P l.toArray (fun w' => ∃ x : Ext w, w' = x.wd) (fun a' => ∀ w', Below w.heap.size w w' → Q .normal a' w') l a) : (Code.region id l.toArray true).wp P Q a w := by
  refine wp_region_quiet (C := fun w' => ∃ x : Ext w, w' = x.wd) hm hB ⟨⟨{ w with drawn := w.drawn + 1 }, ⟨rfl, rfl, rfl, Nat.le_refl _, fun _ _ => rfl⟩⟩, rfl⟩ ?_
  have e : (fun a' => ∀ w', (∃ x : Ext w, w' = x.wd) → Q .normal a' w') = fun a' => ∀ w', Below w.heap.size w w' → Q .normal a' w' := by
    funext a'
    exact propext ⟨fun h w' hb => h w' ⟨⟨w', hb⟩, rfl⟩, fun h w' ⟨x, hx⟩ => hx ▸ h _ x.hb⟩
  rw [e]
  simpa using h
end Go.Proofs.YtemjipongehjlaaGreat
/- Plain functions of rows and their legs: no Go in sight. -/
namespace Go.Proofs.YtemjipongehjlaaGreat.P
set_option linter.unusedVariables false
structure Leg where
  name : ByteArray
  status : Int
  tries : Int
  due : Int
  payload : ByteArray
  reply : ByteArray
structure Dest where
  name : ByteArray
  chain : Int
  file : Bool
  port : Int
  dir : ByteArray
  retry : Int
  backoff : Int
  timeout : Int
  response : ByteArray
/-- A row but for its legs. -/
structure Head where
  id : Int
  run : Int
  time : Int
  state : Int
  done : Int
  raw : ByteArray
  fault : Int
def Leg.cells (l : Leg) : List Value := [.string l.name, .int .i64 l.status, .int .i64 l.tries, .int .i64 l.due, .string l.payload, .string l.reply]
def Dest.cells (d : Dest) : List Value := [.string d.name, .int .i64 d.chain, .bool d.file, .int .i64 d.port, .string d.dir, .int .i64 d.retry, .int .i64 d.backoff, .int .i64 d.timeout, .string d.response]
def Leg.isOpen (l : Leg) : Bool := l.status == 1 || l.status == 2
/-- The place of a destination's leg. -/
def legAt (ls : List Leg) (name : ByteArray) : Option Nat := ls.findIdx? fun l => l.name.data.toList == name.data.toList
def nextGo (ls : List Leg) : List Dest → List Int → List ByteArray
  | [], _ => []
  | d :: ds, busy => match legAt ls d.name with
    | none => nextGo ls ds busy
    | some k => match ls[k]? with
      | none => nextGo ls ds busy
      | some l => if l.isOpen then (if busy.contains d.chain then nextGo ls ds (d.chain :: busy) else d.name :: nextGo ls ds (d.chain :: busy)) else nextGo ls ds busy
def next (state : Int) (ds : List Dest) (ls : List Leg) : List ByteArray := if state = 3 then nextGo ls ds [] else []
def terminal (state : Int) (ls : List Leg) : Bool := state == 1 || (state == 2 || (state == 3 && ls.all fun l => !l.isOpen))
def mayLeg (x y : Leg) : Bool := x.name.data.toList == y.name.data.toList && (x.status == y.status || ((x.status == 1 || x.status == 2) && ((y.status == 2 || y.status == 3 || y.status == 4 || y.status == 0) && decide (x.tries ≤ y.tries))))
def mayLegs : List Leg → List Leg → Bool
  | [], [] => true
  | x :: xs, y :: ys => mayLeg x y && mayLegs xs ys
  | _, _ => false
def forward (a b : Head) (la lb : List Leg) : Bool :=
  a.id == b.id && (a.run == b.run && (a.time == b.time && (a.raw.data.toList == b.raw.data.toList && (a.state == 0 || (a.state == b.state && (a.state != 3 || mayLegs la lb))))))
end Go.Proofs.YtemjipongehjlaaGreat.P
/- A slice that reads as a list of cells, nil let in; rows of structs. Plain lemmas. -/
namespace Go.Proofs.YtemjipongehjlaaGreat
set_option linter.unusedVariables false
open Go.RowKit
theorem block_of_add (a : Addr) (n : Nat) : (a.add n).block = a.block := by unfold Addr.add; split <;> rfl
theorem add_of_add (a : Addr) (i j : Nat) : (a.add i).add j = a.add (i + j) := by
  unfold Addr.add
  by_cases hi : i = 0 <;> by_cases hj : j = 0 <;> simp [hi, hj, Nat.add_assoc]
/-- The slice value '.slice A n c' reads as the cells xs, 'size' cells an element, below block B. -/
def Reads (w : World) (B size : Nat) (A : Option Addr) (n : Nat) (xs : List Value) : Prop :=
  xs.length = n * size ∧ (0 < n → ∃ ad, A = some ad ∧ ad.block < B ∧ ∀ j u, xs[j]? = some u → w.cell? (ad.add j) = some u)
section
variable {w w' : World} {B B' size n : Nat} {A : Option Addr} {xs : List Value}
theorem Reads.nil : Reads w B size A 0 [] := ⟨by simp, fun h => absurd h (by omega)⟩
theorem Reads.keep (h : Reads w B size A n xs) (hk : ∀ p : Addr, p.block < B → w'.cell? p = w.cell? p) : Reads w' B size A n xs :=
  ⟨h.1, fun hn => by
    obtain ⟨ad, e, hb, hc⟩ := h.2 hn
    exact ⟨ad, e, hb, fun j u hu => (hk _ (by rw [block_of_add]; exact hb)).trans (hc j u hu)⟩⟩
theorem Reads.more (h : Reads w B size A n xs) (hB : B ≤ B') : Reads w B' size A n xs :=
  ⟨h.1, fun hn => by
    obtain ⟨ad, e, hb, hc⟩ := h.2 hn
    exact ⟨ad, e, by omega, hc⟩⟩
theorem Reads.below (h : Reads w B size A n xs) (hb : Below B w w') : Reads w' B size A n xs := h.keep fun _ hp => hb.cell hp
theorem Reads.alloc (h : Reads w B size A n xs) (hB : B ≤ w.heap.size) (o : Obj) : Reads (w.alloc o) B size A n xs := h.keep fun p hp => World.cell?_alloc_lt w o p (by omega)
theorem Reads.of_own {base : Nat} {e : TypeId} {c : Nat} (h : w.ownsRow base e size (.slice A n c) n xs) : Reads w w.heap.size size A n xs := by
  refine ⟨h.1, fun hn => ?_⟩
  obtain ⟨g, cap, hv, _, hlt⟩ := h.form hn
  have hA : A = some ⟨g, 0, none⟩ := by injection hv
  subst hA
  exact ⟨_, rfl, hlt, h.cells (g := g) rfl⟩
end
theorem flat_len {α : Type} (f : α → List Value) (k : Nat) (hf : ∀ x, (f x).length = k) : ∀ l : List α, (l.flatMap f).length = l.length * k
  | [] => by simp
  | x :: l => by rw [List.flatMap_cons, List.length_append, hf, flat_len f k hf l, List.length_cons, Nat.add_mul]; omega
theorem flat_get {α : Type} (f : α → List Value) (k : Nat) (hf : ∀ x, (f x).length = k) : ∀ (l : List α) (i j : Nat) (hi : i < l.length), j < k → (l.flatMap f)[i * k + j]? = (f l[i])[j]?
  | x :: l, 0, j, _, hj => by
    rw [List.flatMap_cons, Nat.zero_mul, Nat.zero_add, List.getElem?_append_left (by rw [hf]; exact hj)]
    rfl
  | x :: l, i + 1, j, hi, hj => by
    rw [List.flatMap_cons, List.getElem?_append_right (by rw [hf, Nat.add_mul]; omega), hf]
    have := flat_get f k hf l i j (by simpa using hi) hj
    rw [show (i + 1) * k + j - k = i * k + j from by rw [Nat.add_mul]; omega, this]
    rfl
theorem leg_len (l : P.Leg) : l.cells.length = 6 := rfl
theorem dest_len (d : P.Dest) : d.cells.length = 9 := rfl
def LegsAt (w : World) (B : Nat) (A : Option Addr) (m : Nat) (ls : List P.Leg) : Prop := Reads w B 6 A m (ls.flatMap P.Leg.cells)
def DestsAt (w : World) (B : Nat) (A : Option Addr) (n : Nat) (ds : List P.Dest) : Prop := Reads w B 9 A n (ds.flatMap P.Dest.cells)
section
variable {w w' : World} {B B' n : Nat} {A : Option Addr} {ls : List P.Leg} {ds : List P.Dest}
theorem LegsAt.len (h : LegsAt w B A n ls) : ls.length = n := by
  have := h.1
  rw [flat_len _ 6 leg_len] at this
  omega
theorem DestsAt.len (h : DestsAt w B A n ds) : ds.length = n := by
  have := h.1
  rw [flat_len _ 9 dest_len] at this
  omega
theorem LegsAt.below (h : LegsAt w B A n ls) (hb : Below B w w') : LegsAt w' B A n ls := Reads.below h hb
theorem DestsAt.below (h : DestsAt w B A n ds) (hb : Below B w w') : DestsAt w' B A n ds := Reads.below h hb
theorem LegsAt.more (h : LegsAt w B A n ls) (hB : B ≤ B') : LegsAt w B' A n ls := Reads.more h hB
theorem DestsAt.more (h : DestsAt w B A n ds) (hB : B ≤ B') : DestsAt w B' A n ds := Reads.more h hB
theorem cell_add {w : World} {ad : Addr} {i : Nat} (j : Nat) (hj : 0 < j) : w.cell? (ad.add (i + j)) = w.cell? ⟨(ad.add i).block, (ad.add i).off + j, none⟩ := by
  rw [← add_of_add]
  conv => lhs; rw [show (ad.add i).add j = { (ad.add i) with off := (ad.add i).off + j, spot := none } from by rw [Addr.add, if_neg (by omega)]]
/-- A leg's cells. -/
theorem LegsAt.at_ {k : Nat} (h : LegsAt w B A n ls) (hk : k < n) : ∃ ad l, A = some ad ∧ ad.block < B ∧ ls[k]? = some l ∧ ∀ j u, l.cells[j]? = some u → w.cell? (ad.add (k * 6 + j)) = some u := by
  obtain ⟨ad, e, hb, hc⟩ := h.2 (by omega)
  have hl := h.len
  refine ⟨ad, ls[k]'(by omega), e, hb, List.getElem?_eq_getElem (by omega), fun j u hu => ?_⟩
  have hj : j < 6 := by
    rcases Nat.lt_or_ge j 6 with h | h
    · exact h
    · rw [List.getElem?_eq_none (by rw [leg_len]; exact h)] at hu; cases hu
  exact hc _ _ (by rw [flat_get _ 6 leg_len ls k j (by omega) hj]; exact hu)
theorem DestsAt.at_ {k : Nat} (h : DestsAt w B A n ds) (hk : k < n) : ∃ ad d, A = some ad ∧ ad.block < B ∧ ds[k]? = some d ∧ ∀ j u, d.cells[j]? = some u → w.cell? (ad.add (k * 9 + j)) = some u := by
  obtain ⟨ad, e, hb, hc⟩ := h.2 (by omega)
  have hl := h.len
  refine ⟨ad, ds[k]'(by omega), e, hb, List.getElem?_eq_getElem (by omega), fun j u hu => ?_⟩
  have hj : j < 9 := by
    rcases Nat.lt_or_ge j 9 with h | h
    · exact h
    · rw [List.getElem?_eq_none (by rw [dest_len]; exact h)] at hu; cases hu
  exact hc _ _ (by rw [flat_get _ 9 dest_len ds k j (by omega) hj]; exact hu)
/-- A leg's cells as a load spells them. -/
structure LegIn (w : World) (a : Addr) (l : P.Leg) : Prop where
  c0 : w.cell? a = some (.string l.name)
  c1 : w.cell? ⟨a.block, a.off + 1, none⟩ = some (.int .i64 l.status)
  c2 : w.cell? ⟨a.block, a.off + 2, none⟩ = some (.int .i64 l.tries)
  c3 : w.cell? ⟨a.block, a.off + 3, none⟩ = some (.int .i64 l.due)
  c4 : w.cell? ⟨a.block, a.off + 4, none⟩ = some (.string l.payload)
  c5 : w.cell? ⟨a.block, a.off + 5, none⟩ = some (.string l.reply)
structure DestIn (w : World) (a : Addr) (d : P.Dest) : Prop where
  c0 : w.cell? a = some (.string d.name)
  c1 : w.cell? ⟨a.block, a.off + 1, none⟩ = some (.int .i64 d.chain)
  c2 : w.cell? ⟨a.block, a.off + 2, none⟩ = some (.bool d.file)
  c3 : w.cell? ⟨a.block, a.off + 3, none⟩ = some (.int .i64 d.port)
  c4 : w.cell? ⟨a.block, a.off + 4, none⟩ = some (.string d.dir)
  c5 : w.cell? ⟨a.block, a.off + 5, none⟩ = some (.int .i64 d.retry)
  c6 : w.cell? ⟨a.block, a.off + 6, none⟩ = some (.int .i64 d.backoff)
  c7 : w.cell? ⟨a.block, a.off + 7, none⟩ = some (.int .i64 d.timeout)
  c8 : w.cell? ⟨a.block, a.off + 8, none⟩ = some (.string d.response)
theorem LegIn.keep {a : Addr} {l : P.Leg} (h : LegIn w a l) (hb : Below B w w') (ha : a.block < B) : LegIn w' a l :=
  ⟨(hb.cell ha).trans h.c0, (hb.cell (p := ⟨a.block, a.off + 1, none⟩) ha).trans h.c1, (hb.cell (p := ⟨a.block, a.off + 2, none⟩) ha).trans h.c2, (hb.cell (p := ⟨a.block, a.off + 3, none⟩) ha).trans h.c3, (hb.cell (p := ⟨a.block, a.off + 4, none⟩) ha).trans h.c4, (hb.cell (p := ⟨a.block, a.off + 5, none⟩) ha).trans h.c5⟩
theorem DestIn.keep {a : Addr} {d : P.Dest} (h : DestIn w a d) (hb : Below B w w') (ha : a.block < B) : DestIn w' a d :=
  ⟨(hb.cell ha).trans h.c0, (hb.cell (p := ⟨a.block, a.off + 1, none⟩) ha).trans h.c1, (hb.cell (p := ⟨a.block, a.off + 2, none⟩) ha).trans h.c2, (hb.cell (p := ⟨a.block, a.off + 3, none⟩) ha).trans h.c3, (hb.cell (p := ⟨a.block, a.off + 4, none⟩) ha).trans h.c4, (hb.cell (p := ⟨a.block, a.off + 5, none⟩) ha).trans h.c5, (hb.cell (p := ⟨a.block, a.off + 6, none⟩) ha).trans h.c6, (hb.cell (p := ⟨a.block, a.off + 7, none⟩) ha).trans h.c7, (hb.cell (p := ⟨a.block, a.off + 8, none⟩) ha).trans h.c8⟩
theorem LegsAt.in_ {k : Nat} (h : LegsAt w B A n ls) (hk : k < n) : ∃ ad l, A = some ad ∧ (ad.add (k * 6)).block < B ∧ ls[k]? = some l ∧ LegIn w (ad.add (k * 6)) l := by
  obtain ⟨ad, l, rfl, hb, hl, hc⟩ := h.at_ hk
  exact ⟨ad, l, rfl, by rw [block_of_add]; exact hb, hl, hc 0 _ rfl, (cell_add 1 (by omega)).symm.trans (hc 1 _ rfl), (cell_add 2 (by omega)).symm.trans (hc 2 _ rfl), (cell_add 3 (by omega)).symm.trans (hc 3 _ rfl), (cell_add 4 (by omega)).symm.trans (hc 4 _ rfl), (cell_add 5 (by omega)).symm.trans (hc 5 _ rfl)⟩
theorem DestsAt.in_ {k : Nat} (h : DestsAt w B A n ds) (hk : k < n) : ∃ ad d, A = some ad ∧ (ad.add (k * 9)).block < B ∧ ds[k]? = some d ∧ DestIn w (ad.add (k * 9)) d := by
  obtain ⟨ad, d, rfl, hb, hl, hc⟩ := h.at_ hk
  exact ⟨ad, d, rfl, by rw [block_of_add]; exact hb, hl, hc 0 _ rfl, (cell_add 1 (by omega)).symm.trans (hc 1 _ rfl), (cell_add 2 (by omega)).symm.trans (hc 2 _ rfl), (cell_add 3 (by omega)).symm.trans (hc 3 _ rfl), (cell_add 4 (by omega)).symm.trans (hc 4 _ rfl), (cell_add 5 (by omega)).symm.trans (hc 5 _ rfl), (cell_add 6 (by omega)).symm.trans (hc 6 _ rfl), (cell_add 7 (by omega)).symm.trans (hc 7 _ rfl), (cell_add 8 (by omega)).symm.trans (hc 8 _ rfl)⟩
end
end Go.Proofs.YtemjipongehjlaaGreat
/- Arguments that are rows and channels: opened. Plain; no conditions. -/
namespace Go.Proofs.YtemjipongehjlaaGreat
set_option linter.unusedVariables false
open Go.Joins Go.ChangeShapes Go.WideShapes Go.RowKit Go.Deep
theorem list_of {α : Type} {Q : Nat → α → Prop} : ∀ n, (∀ i, i < n → ∃ x, Q i x) → ∃ l : List α, l.length = n ∧ ∀ i x, l[i]? = some x → Q i x
  | 0, _ => ⟨[], rfl, fun i x h => by simp at h⟩
  | n + 1, h => by
    obtain ⟨l, hl, hq⟩ := list_of n fun i hi => h i (by omega)
    obtain ⟨x, hx⟩ := h n (by omega)
    refine ⟨l ++ [x], by simp [hl], fun i y hy => ?_⟩
    rcases Nat.lt_or_ge i n with hi | hi
    · rw [List.getElem?_append_left (by omega)] at hy
      exact hq i y hy
    · rw [List.getElem?_append_right (by omega)] at hy
      have hi0 : i - l.length = 0 := by
        rcases Nat.eq_zero_or_pos (i - l.length) with h0 | h0
        · exact h0
        · rw [List.getElem?_eq_none (by simp; omega)] at hy; cases hy
      rw [hi0] at hy
      simp at hy
      subst hy
      rw [show i = n by omega]
      exact hx
theorem reads_of {α : Type} {f : α → List Value} {k : Nat} (hk : 0 < k) (hf : ∀ x, (f x).length = k) {w : World} {a : Addr} {n B : Nat} {l : List α} (hl : l.length = n) (hB : 0 < n → a.block < B)
    (h : ∀ i x, l[i]? = some x → ∀ j u, (f x)[j]? = some u → w.cell? (a.add (i * k + j)) = some u) : Reads w B k (some a) n (l.flatMap f) := by
  refine ⟨by rw [flat_len f k hf, hl], fun hn => ⟨a, rfl, hB hn, fun j u hu => ?_⟩⟩
  have hj : j < l.length * k := by
    rcases Nat.lt_or_ge j (l.length * k) with h1 | h1
    · exact h1
    · rw [List.getElem?_eq_none (by rw [flat_len f k hf]; exact h1)] at hu; cases hu
  have hi : j / k < l.length := Nat.div_lt_of_lt_mul (by rw [Nat.mul_comm]; exact hj)
  have hm : j % k < k := Nat.mod_lt _ hk
  have e : j / k * k + j % k = j := by rw [Nat.mul_comm]; exact Nat.div_add_mod j k
  rw [← e, flat_get f k hf l _ _ hi hm] at hu
  have := h (j / k) _ (List.getElem?_eq_getElem hi) (j % k) u hu
  rwa [e] at this
theorem below_sameAt {B : Nat} {w w' : World} (h : Below B w w') {p : MemPlace} (hp : p.block < B) : w.sameAt w' p := by
  cases p with
  | cell b off => exact h.cell (p := ⟨b, off, none⟩) hp
  | map b => exact h.block b hp
section
variable {H : Type} {enc : TypeId × Value → H} {P : Program} {w : World} {base : Nat} {spare : Nat → Bool} {held : Bool}
theorem open_slice_fields {t e : TypeId} {fs : Array Field} {fuel : Nat} {cs : List Value} {x : DataW H × List MemPlace} (ht : P.underlying t = some (.slice e)) (he : P.underlying e = some (.struct fs))
    (hone : oneCellFields P fs = true) (hC : P.cellsOf e = fs.size) (h : DataW.trod enc P w base spare held fuel t cs = some x) :
    (cs = [.slice none 0 0] ∧ x = (.nil, [])) ∨
    ∃ (a : Addr) (len cap m : Nat) (D : Nat → DataW H) (Pl : Nat → List MemPlace), cs = [.slice (some a) len cap] ∧ base ≤ a.block ∧ len ≤ cap ∧ cap ≤ maxLen ∧ m = (if spare a.block then cap else len) ∧
      x = (.slice ((List.range len).map D) ((List.range (m - len)).map fun j => D (len + j)), MemPlace.row a (m * fs.size) ++ (List.range m).flatMap Pl) ∧
      ∀ i, i < m → ∃ (ys : List (DataW H × List MemPlace)) (n : Nat), D i = .agg (ys.map (·.1)) ∧ Pl i = ys.flatMap (·.2) ∧ ys.length = fs.size ∧
        ∀ (j : Nat) (f : Field), fs[j]? = some f → ∃ (v : Value) (y : DataW H × List MemPlace), w.cell? (a.add (i * fs.size + j)) = some v ∧ ys[j]? = some y ∧ DataW.trod enc P w base spare held n f.type [v] = some y := by
  rcases open_slice ht h with h0 | ⟨a, len, cap, m, n, D, Pl, hcs, hb, hl, hm, hmm, hx, hi⟩
  · exact .inl h0
  · refine .inr ⟨a, len, cap, m, D, Pl, hcs, hb, hl, hm, hmm, by rw [hC] at hx; exact hx, fun i him => ?_⟩
    obtain ⟨cs', hc, ht'⟩ := hi i him
    rw [hC] at hc
    obtain ⟨ys, n', hn', hy, hlen, hyl, hf⟩ := DataW.trod_struct he ht'
    obtain ⟨_, hcl, hat⟩ := World.cells?_some hc
    simp only [Prod.mk.injEq] at hy
    refine ⟨ys, n', hy.1, hy.2, hyl, fun j f hj => ?_⟩
    obtain ⟨ho, hk⟩ := hone_of hone j f hj
    have hjl : j < fs.size := (Array.getElem?_eq_some_iff.1 hj).1
    have hcell := hat j hjl
    have hv : cs'[j]? = some (cs'[j]'(by omega)) := List.getElem?_eq_getElem (by omega)
    have h1 := hf j f hj
    rw [ho, hk] at h1
    have hone' : (cs'.drop j).take 1 = [cs'[j]'(by omega)] := by
      rw [List.drop_eq_getElem_cons (by omega)]
      rfl
    rw [hone'] at h1
    have hys : ys[j]? = some (ys[j]'(by omega)) := List.getElem?_eq_getElem (by omega)
    refine ⟨_, _, ?_, hys, h1.trans hys⟩
    rw [← Go.Deep.add_add, hcell, hv]
theorem open_agg8 {r : Reach} {b0 : Nat} {t : TypeId} {f0 f1 f2 f3 f4 f5 f6 f7 : Field} {v : Value} {d : DataW H} {p : List MemPlace} (hs : P.underlying t = some (.struct #[f0, f1, f2, f3, f4, f5, f6, f7])) (hone : oneCellFields P #[f0, f1, f2, f3, f4, f5, f6, f7] = true) (hC : P.cellsOf t = 8)
    (hv : Value.okWide P w r b0 t v) (h : DataW.Trod enc P w base spare held t v d p) :
    ∃ (v0 v1 v2 v3 v4 v5 v6 v7 : Value) (y0 y1 y2 y3 y4 y5 y6 y7 : DataW H × List MemPlace) (n : Nat), v = .agg #[v0, v1, v2, v3, v4, v5, v6, v7] ∧ d = .agg [y0.1, y1.1, y2.1, y3.1, y4.1, y5.1, y6.1, y7.1] ∧ p = y0.2 ++ (y1.2 ++ (y2.2 ++ (y3.2 ++ (y4.2 ++ (y5.2 ++ (y6.2 ++ y7.2)))))) ∧
      DataW.trod enc P w base spare held n f0.type [v0] = some y0 ∧ DataW.trod enc P w base spare held n f1.type [v1] = some y1 ∧ DataW.trod enc P w base spare held n f2.type [v2] = some y2 ∧ DataW.trod enc P w base spare held n f3.type [v3] = some y3 ∧ DataW.trod enc P w base spare held n f4.type [v4] = some y4 ∧ DataW.trod enc P w base spare held n f5.type [v5] = some y5 ∧ DataW.trod enc P w base spare held n f6.type [v6] = some y6 ∧ DataW.trod enc P w base spare held n f7.type [v7] = some y7 := by
  obtain ⟨cs, rfl, hsz⟩ := okWide_struct hs hv
  obtain ⟨l⟩ := cs
  match l, hsz.trans hC with
  | [c0, c1, c2, c3, c4, c5, c6, c7], _ =>
    obtain ⟨fuel, hf⟩ := h
    obtain ⟨xs, n, _, hx, _, hlen, hg⟩ := DataW.trod_struct hs hf
    obtain ⟨o0, k0⟩ := hone_of hone 0 f0 rfl
    obtain ⟨o1, k1⟩ := hone_of hone 1 f1 rfl
    obtain ⟨o2, k2⟩ := hone_of hone 2 f2 rfl
    obtain ⟨o3, k3⟩ := hone_of hone 3 f3 rfl
    obtain ⟨o4, k4⟩ := hone_of hone 4 f4 rfl
    obtain ⟨o5, k5⟩ := hone_of hone 5 f5 rfl
    obtain ⟨o6, k6⟩ := hone_of hone 6 f6 rfl
    obtain ⟨o7, k7⟩ := hone_of hone 7 f7 rfl
    match xs, hlen with
    | [y0, y1, y2, y3, y4, y5, y6, y7], _ =>
      simp only [Prod.mk.injEq] at hx
      exact ⟨c0, c1, c2, c3, c4, c5, c6, c7, y0, y1, y2, y3, y4, y5, y6, y7, n, rfl, by simpa using hx.1, by simpa using hx.2, by simpa [Value.cells, o0, k0] using hg 0 f0 rfl, by simpa [Value.cells, o1, k1] using hg 1 f1 rfl, by simpa [Value.cells, o2, k2] using hg 2 f2 rfl, by simpa [Value.cells, o3, k3] using hg 3 f3 rfl, by simpa [Value.cells, o4, k4] using hg 4 f4 rfl, by simpa [Value.cells, o5, k5] using hg 5 f5 rfl, by simpa [Value.cells, o6, k6] using hg 6 f6 rfl, by simpa [Value.cells, o7, k7] using hg 7 f7 rfl⟩
theorem open_agg9 {r : Reach} {b0 : Nat} {t : TypeId} {f0 f1 f2 f3 f4 f5 f6 f7 f8 : Field} {v : Value} {d : DataW H} {p : List MemPlace} (hs : P.underlying t = some (.struct #[f0, f1, f2, f3, f4, f5, f6, f7, f8])) (hone : oneCellFields P #[f0, f1, f2, f3, f4, f5, f6, f7, f8] = true) (hC : P.cellsOf t = 9)
    (hv : Value.okWide P w r b0 t v) (h : DataW.Trod enc P w base spare held t v d p) :
    ∃ (v0 v1 v2 v3 v4 v5 v6 v7 v8 : Value) (y0 y1 y2 y3 y4 y5 y6 y7 y8 : DataW H × List MemPlace) (n : Nat), v = .agg #[v0, v1, v2, v3, v4, v5, v6, v7, v8] ∧ d = .agg [y0.1, y1.1, y2.1, y3.1, y4.1, y5.1, y6.1, y7.1, y8.1] ∧ p = y0.2 ++ (y1.2 ++ (y2.2 ++ (y3.2 ++ (y4.2 ++ (y5.2 ++ (y6.2 ++ (y7.2 ++ y8.2))))))) ∧
      DataW.trod enc P w base spare held n f0.type [v0] = some y0 ∧ DataW.trod enc P w base spare held n f1.type [v1] = some y1 ∧ DataW.trod enc P w base spare held n f2.type [v2] = some y2 ∧ DataW.trod enc P w base spare held n f3.type [v3] = some y3 ∧ DataW.trod enc P w base spare held n f4.type [v4] = some y4 ∧ DataW.trod enc P w base spare held n f5.type [v5] = some y5 ∧ DataW.trod enc P w base spare held n f6.type [v6] = some y6 ∧ DataW.trod enc P w base spare held n f7.type [v7] = some y7 ∧ DataW.trod enc P w base spare held n f8.type [v8] = some y8 := by
  obtain ⟨cs, rfl, hsz⟩ := okWide_struct hs hv
  obtain ⟨l⟩ := cs
  match l, hsz.trans hC with
  | [c0, c1, c2, c3, c4, c5, c6, c7, c8], _ =>
    obtain ⟨fuel, hf⟩ := h
    obtain ⟨xs, n, _, hx, _, hlen, hg⟩ := DataW.trod_struct hs hf
    obtain ⟨o0, k0⟩ := hone_of hone 0 f0 rfl
    obtain ⟨o1, k1⟩ := hone_of hone 1 f1 rfl
    obtain ⟨o2, k2⟩ := hone_of hone 2 f2 rfl
    obtain ⟨o3, k3⟩ := hone_of hone 3 f3 rfl
    obtain ⟨o4, k4⟩ := hone_of hone 4 f4 rfl
    obtain ⟨o5, k5⟩ := hone_of hone 5 f5 rfl
    obtain ⟨o6, k6⟩ := hone_of hone 6 f6 rfl
    obtain ⟨o7, k7⟩ := hone_of hone 7 f7 rfl
    obtain ⟨o8, k8⟩ := hone_of hone 8 f8 rfl
    match xs, hlen with
    | [y0, y1, y2, y3, y4, y5, y6, y7, y8], _ =>
      simp only [Prod.mk.injEq] at hx
      exact ⟨c0, c1, c2, c3, c4, c5, c6, c7, c8, y0, y1, y2, y3, y4, y5, y6, y7, y8, n, rfl, by simpa using hx.1, by simpa using hx.2, by simpa [Value.cells, o0, k0] using hg 0 f0 rfl, by simpa [Value.cells, o1, k1] using hg 1 f1 rfl, by simpa [Value.cells, o2, k2] using hg 2 f2 rfl, by simpa [Value.cells, o3, k3] using hg 3 f3 rfl, by simpa [Value.cells, o4, k4] using hg 4 f4 rfl, by simpa [Value.cells, o5, k5] using hg 5 f5 rfl, by simpa [Value.cells, o6, k6] using hg 6 f6 rfl, by simpa [Value.cells, o7, k7] using hg 7 f7 rfl, by simpa [Value.cells, o8, k8] using hg 8 f8 rfl⟩
end
theorem trod_int_one {H : Type} {enc : TypeId × Value → H} {P : Program} {w : World} {base : Nat} {spare : Nat → Bool} {held : Bool} {fuel : Nat} {t : TypeId} {k : IntKind} {v : Value} {x : DataW H × List MemPlace} (ht : P.underlying t = some (.int k)) (h : DataW.trod enc P w base spare held fuel t [v] = some x) : ∃ n, v = .int k n ∧ x = (.lit (.int k n), []) ∧ (Lit.int k n).wf = true := by
  obtain ⟨n, e, hx, hw⟩ := DataW.trod_int ht h
  simp at e
  exact ⟨n, e, hx, hw⟩
theorem trod_string_one {H : Type} {enc : TypeId × Value → H} {P : Program} {w : World} {base : Nat} {spare : Nat → Bool} {held : Bool} {fuel : Nat} {t : TypeId} {v : Value} {x : DataW H × List MemPlace} (ht : P.underlying t = some .string) (h : DataW.trod enc P w base spare held fuel t [v] = some x) : ∃ s : ByteArray, v = .string s ∧ x = (.lit (.string s.data.toList), []) ∧ s.size ≤ maxLen := by
  obtain ⟨n, e, hx, hw⟩ := DataW.trod_string ht h
  simp at e
  exact ⟨n, e, hx, hw⟩
theorem trod_bool_one {H : Type} {enc : TypeId × Value → H} {P : Program} {w : World} {base : Nat} {spare : Nat → Bool} {held : Bool} {fuel : Nat} {t : TypeId} {v : Value} {x : DataW H × List MemPlace} (ht : P.underlying t = some .bool) (h : DataW.trod enc P w base spare held fuel t [v] = some x) : ∃ b : Bool, v = .bool b ∧ x = (.lit (.bool b), []) := by
  obtain ⟨n, e, hx⟩ := DataW.trod_bool ht h
  simp at e
  exact ⟨n, e, hx⟩
/-- What a leg that was read holds. -/
structure LegWf (l : P.Leg) : Prop where
  status : (Lit.int .i64 l.status).wf = true
  tries : (Lit.int .i64 l.tries).wf = true
  due : (Lit.int .i64 l.due).wf = true
set_option maxRecDepth 100000 in
theorem open_legs {H : Type} {enc : TypeId × Value → H} {w : World} {base : Nat} {spare : Nat → Bool} {held : Bool} {fuel : Nat} {v : Value} {x : DataW H × List MemPlace} (h : DataW.trod enc Tryz.prog w base spare held fuel 26 [v] = some x) :
    ∃ A m c ls, v = .slice A m c ∧ m ≤ c ∧ c ≤ maxLen ∧ LegsAt w w.heap.size A m ls ∧ (∀ l ∈ ls, LegWf l) ∧ (x = (.nil, []) ∧ m = 0 ∨ ∃ el sp, x.1 = .slice el sp ∧ el.length = m) := by
  rcases open_slice_fields Tryz.underlying26 Tryz.underlying69 (by kernel_rfl) (by kernel_rfl) h with ⟨e, hx⟩ | ⟨a, len, cap, m, D, Pl, e, _, hlc, hc, hm, hx, hf⟩
  · simp at e
    exact ⟨none, 0, 0, [], e, Nat.le_refl _, Nat.zero_le _, Reads.nil, fun l hl => by simp at hl, .inl ⟨hx, rfl⟩⟩
  · simp at e
    have hlm : len ≤ m := by rw [hm]; split <;> omega
    obtain ⟨ls, hl, hq⟩ := list_of (Q := fun i (l : P.Leg) => (∀ j u, l.cells[j]? = some u → w.cell? (a.add (i * 6 + j)) = some u) ∧ LegWf l) len fun i hi => by
      obtain ⟨ys, n, _, _, _, hg⟩ := hf i (by omega)
      obtain ⟨v0, y0, c0, _, t0⟩ := hg 0 _ rfl
      obtain ⟨v1, y1, c1, _, t1⟩ := hg 1 _ rfl
      obtain ⟨v2, y2, c2, _, t2⟩ := hg 2 _ rfl
      obtain ⟨v3, y3, c3, _, t3⟩ := hg 3 _ rfl
      obtain ⟨v4, y4, c4, _, t4⟩ := hg 4 _ rfl
      obtain ⟨v5, y5, c5, _, t5⟩ := hg 5 _ rfl
      obtain ⟨s0, rfl, _, _⟩ := trod_string_one Tryz.underlying9 t0
      obtain ⟨n1, rfl, _, w1⟩ := trod_int_one Tryz.underlying3 t1
      obtain ⟨n2, rfl, _, w2⟩ := trod_int_one Tryz.underlying3 t2
      obtain ⟨n3, rfl, _, w3⟩ := trod_int_one Tryz.underlying3 t3
      obtain ⟨s4, rfl, _, _⟩ := trod_string_one Tryz.underlying9 t4
      obtain ⟨s5, rfl, _, _⟩ := trod_string_one Tryz.underlying9 t5
      refine ⟨⟨s0, n1, n2, n3, s4, s5⟩, fun j u hu => ?_, w1, w2, w3⟩
      have hj : j < 6 := by
        rcases Nat.lt_or_ge j 6 with h | h
        · exact h
        · rw [List.getElem?_eq_none (by rw [leg_len]; exact h)] at hu; cases hu
      rcases (by omega : j = 0 ∨ j = 1 ∨ j = 2 ∨ j = 3 ∨ j = 4 ∨ j = 5) with rfl | rfl | rfl | rfl | rfl | rfl <;> cases hu <;> assumption
    refine ⟨some a, len, cap, ls, e, hlc, hc, reads_of (by omega) leg_len hl (fun hn => ?_) (fun i l hi => (hq i l hi).1), fun l hl' => ?_, .inr ⟨_, _, by rw [hx], by simp⟩⟩
    · obtain ⟨ys, n, _, _, _, hg⟩ := hf 0 (by omega)
      obtain ⟨v0, y0, c0, _, t0⟩ := hg 0 _ rfl
      have := World.block_lt_of_cell? _ _ c0
      rwa [block_of_add] at this
    · obtain ⟨i, hi⟩ := List.getElem?_of_mem hl'
      exact (hq i l hi).2
set_option maxRecDepth 100000 in
theorem open_row {H : Type} {enc : TypeId × Value → H} {w : World} {base : Nat} {spare : Nat → Bool} {held : Bool} {r : Reach} {b0 : Nat} {v : Value} {d : DataW H} {p : List MemPlace}
    (hv : Value.okWide Tryz.prog w r b0 28 v) (h : DataW.Trod enc Tryz.prog w base spare held 28 v d p) :
    ∃ (id run tm st dn flt : Int) (raw : ByteArray) (A : Option Addr) (m cp : Nat) (ls : List P.Leg), v = .agg #[.int .i64 id, .int .i64 run, .int .i64 tm, .int .i64 st, .int .i64 dn, .string raw, .int .i64 flt, .slice A m cp] ∧ LegsAt w w.heap.size A m ls ∧ m ≤ maxLen ∧ (∀ l ∈ ls, LegWf l) ∧ (Lit.int .i64 id).wf = true ∧ (Lit.int .i64 run).wf = true ∧ (Lit.int .i64 tm).wf = true ∧ (Lit.int .i64 st).wf = true ∧ (Lit.int .i64 dn).wf = true ∧ (Lit.int .i64 flt).wf = true := by
  obtain ⟨c0, c1, c2, c3, c4, c5, c6, c7, y0, y1, y2, y3, y4, y5, y6, y7, n, rfl, rfl, rfl, h0, h1, h2, h3, h4, h5, h6, h7⟩ := open_agg8 Tryz.underlying28 (by kernel_rfl) (by kernel_rfl) hv h
  obtain ⟨a0, rfl, _, w0⟩ := trod_int_one Tryz.underlying3 h0
  obtain ⟨a1, rfl, _, w1⟩ := trod_int_one Tryz.underlying3 h1
  obtain ⟨a2, rfl, _, w2⟩ := trod_int_one Tryz.underlying3 h2
  obtain ⟨a3, rfl, _, w3⟩ := trod_int_one Tryz.underlying3 h3
  obtain ⟨a4, rfl, _, w4⟩ := trod_int_one Tryz.underlying3 h4
  obtain ⟨a5, rfl, _, _⟩ := trod_string_one Tryz.underlying9 h5
  obtain ⟨a6, rfl, _, w6⟩ := trod_int_one Tryz.underlying25 h6
  obtain ⟨A, m, c, ls, rfl, hmc, hc, hl, hw, _⟩ := open_legs h7
  exact ⟨a0, a1, a2, a3, a4, a6, a5, A, m, c, ls, rfl, hl, Nat.le_trans hmc hc, hw, w0, w1, w2, w3, w4, w6⟩
end Go.Proofs.YtemjipongehjlaaGreat
