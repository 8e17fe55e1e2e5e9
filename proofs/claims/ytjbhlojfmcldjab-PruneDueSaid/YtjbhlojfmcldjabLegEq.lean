/- A leg compared with itself; stores into blocks, told whole. Plain lemmas. -/
import Derived.Test.YtjbhlojfmcldjabFailed
import Derived.Test.YtjbhlojfmcldjabFree2
import Derived.Laws.StructEq
namespace Go.Proofs.Ytjbhlojfmcldjab
set_option linter.unusedVariables false
open Go Go.RowKit
theorem leg_held : Try.prog.stoodInHeld 40 = false := by kernel_rfl
theorem leg_fields : ∃ g0 g1 g2 g3 g4 g5 : Field, Try.prog.underlying 40 = some (.struct #[g0, g1, g2, g3, g4, g5]) ∧ (g0.type = 9 ∧ g0.offset = 0 ∧ (g0.name ≠ "_")) ∧ (g1.type = 3 ∧ g1.offset = 1 ∧ (g1.name ≠ "_")) ∧ (g2.type = 3 ∧ g2.offset = 2 ∧ (g2.name ≠ "_")) ∧ (g3.type = 3 ∧ g3.offset = 3 ∧ (g3.name ≠ "_")) ∧ (g4.type = 9 ∧ g4.offset = 4 ∧ (g4.name ≠ "_")) ∧ (g5.type = 9 ∧ g5.offset = 5 ∧ (g5.name ≠ "_")) :=
  ⟨_, _, _, _, _, _, Try.underlying40, ⟨rfl, rfl, by decide⟩, ⟨rfl, rfl, by decide⟩, ⟨rfl, rfl, by decide⟩, ⟨rfl, rfl, by decide⟩, ⟨rfl, rfl, by decide⟩, ⟨rfl, rfl, by decide⟩⟩
theorem neq_leg (l : P.Leg) (W : World) : (binOp .neq 40 (.agg #[.string l.name, .int .i64 l.status, .int .i64 l.tries, .int .i64 l.due, .string l.payload, .string l.reply]) (.agg #[.string l.name, .int .i64 l.status, .int .i64 l.tries, .int .i64 l.due, .string l.payload, .string l.reply])).run Try.prog W = .ok (.bool false) W := by
  obtain ⟨g0, g1, g2, g3, g4, g5, hu, ⟨t0, o0, n0⟩, ⟨t1, o1, n1⟩, ⟨t2, o2, n2⟩, ⟨t3, o3, n3⟩, ⟨t4, o4, n4⟩, ⟨t5, o5, n5⟩⟩ := leg_fields
  have hf : Try.prog.fieldsOf 40 = #[g0, g1, g2, g3, g4, g5] := by simp [Program.fieldsOf, hu]
  rw [run_neq_struct, run_equalIn_struct W 9999 _ _ _ (by rw [hu, hf]) leg_held, hf]
  simp [Op.eqFields, n0, n1, n2, n3, n4, n5, t0, t1, t2, t3, t4, t5, o0, o1, o2, o3, o4, o5, go_sem]
theorem Blk.set8 {w : World} {g0 : Nat} {t : TypeId} {a b c d e f g h a' b' c' d' e' f' g' h' : Value} (hk : Blk w g0 t #[a', b', c', d', e', f', g', h']) : Blk (w.setCells g0 0 [a, b, c, d, e, f, g, h]) g0 t #[a, b, c, d, e, f, g, h] := by
  have := (((((((hk.set_ 0 a).set_ 1 b).set_ 2 c).set_ 3 d).set_ 4 e).set_ 5 f).set_ 6 g).set_ 7 h
  simpa [World.setCells] using this
theorem OwnL.farCells {w : World} {B b : Nat} {v : Value} {l : List P.Leg} (h : OwnL w B v l) (hne : some b ≠ v.ownBlock) : ∀ (vs : List Value) (o : Nat), OwnL (w.setCells b o vs) B v l := fun vs => by
  induction vs generalizing w with
  | nil => exact fun _ => h
  | cons u vs ih =>
    intro o
    refine ih ?_ (o + 1)
    obtain ⟨h1, h2⟩ := h
    refine ⟨h1, ?_⟩
    rcases h2 with h2 | ⟨g', cap, cur, hv, hg, hh, r⟩
    · exact .inl h2
    · refine .inr ⟨g', cap, cur, hv, hg, ?_, r⟩
      rw [Below.heap_setCell _ _ _ _ (fun e => hne (by rw [hv]; exact congrArg some e.symm))]
      exact hh
theorem OwnL.ne_blk {w : World} {B g : Nat} {v : Value} {l : List P.Leg} {cs : Array Value} (h : OwnL w B v l) (k : Blk w g 33 cs) : some g ≠ v.ownBlock := own_blk_ne h k (by decide)
theorem OwnL.legs {w : World} {B m c : Nat} {A : Option Addr} {l : List P.Leg} (h : OwnL w B (.slice A m c) l) : LegsAt w w.heap.size A m l := by
  obtain ⟨A', c', hv, hl⟩ := h.reads
  injection hv with h1 h2 h3
  subst h1 h2
  exact hl
/-- A row of a call's own, as a value. -/
def RowIs (id run tm st dn flt : Int) (raw : ByteArray) (l : List P.Leg) (B : Nat) (v : Value) (w : World) : Prop := ∃ v0, v = .agg #[.int .i64 id, .int .i64 run, .int .i64 tm, .int .i64 st, .int .i64 dn, .string raw, .int .i64 flt, v0] ∧ OwnL w B v0 l
theorem RowIs.stays {id run tm st dn flt : Int} {raw : ByteArray} {l : List P.Leg} {B : Nat} {v : Value} {x y : World} (h : RowIs id run tm st dn flt raw l B v x) (k : Stays x y) : RowIs id run tm st dn flt raw l B v y := by
  obtain ⟨v0, h1, h2⟩ := h
  exact ⟨v0, h1, h2.stays k⟩
/-- A new row block. -/
def NewRow (B : Nat) (v : Value) (w : World) : Prop := ∃ g, v = .pointer (some ⟨g, 0, none⟩) ∧ B ≤ g ∧ Blk w g 33 #[.int .i64 0, .int .i64 0, .int .i64 0, .int .i64 0, .int .i64 0, .string ⟨#[]⟩, .int .i64 0, .slice none 0 0]
theorem NewRow.stays {B : Nat} {v : Value} {x y : World} (h : NewRow B v x) (k : Stays x y) : NewRow B v y := by
  obtain ⟨g, h1, h2, h3⟩ := h
  exact ⟨g, h1, h2, h3.stays k⟩
theorem NewRow.old {B : Nat} {v : Value} {w : World} (h : NewRow B v w) : oldV v w := by
  obtain ⟨g, h1, _, h3⟩ := h
  exact ⟨g, h1, h3.lt⟩
end Go.Proofs.Ytjbhlojfmcldjab
