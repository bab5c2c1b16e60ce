/- The state of the laws that ask one frame: its nodes, one list of places that it has told, and another. -/
import Derived.Test.YtmfkpjafeaidkaaFrameAsk
namespace Go.Proofs.Ytmfkpjafeaidkaa
open Go.RowKit
set_option linter.unusedVariables false
set_option linter.unusedSimpArgs false

structure AskS (B fb m N : Nat) (la : Option Addr) (lc : Nat) (pa : Option Addr) (pc : Nat) (ps : List Int) (qa : Option Addr) (qc : Nat) (qs : List Int) (w0 w : World) : Prop where
  f : FrameIn fb m w
  l : w.ownsRow B 49 7 (.slice la N lc) N (flatN (frameN m))
  p : w.ownsRow B 3 1 (.slice pa ps.length pc) ps.length (ps.map (.int .i64))
  q : w.ownsRow B 3 1 (.slice qa qs.length qc) qs.length (qs.map (.int .i64))
  b : Below B w0 w
  low : B ≤ fb ∧ B ≤ w.heap.size
section
variable {B fb m N : Nat} {la : Option Addr} {lc : Nat} {pa : Option Addr} {pc : Nat} {ps : List Int} {qa : Option Addr} {qc : Nat} {qs : List Int} {w0 w w' : World}
theorem AskS.onF (h : AskS B fb m N la lc pa pc ps qa qc qs w0 w) (hf : FrameIn fb m w') (hc : ChgOnly [fb] w w') : AskS B fb m N la lc pa pc ps qa qc qs w0 w' :=
  ⟨hf, own_frame h.l h.f (by decide) hc, own_frame h.p h.f (by decide) hc, own_frame h.q h.f (by decide) hc, ChgOnly.below_of h.b h.low.2 hc h.low.1, h.low.1, Nat.le_trans h.low.2 hc.size⟩
theorem AskS.later (h : AskS B fb m N la lc pa pc ps qa qc qs w0 w) (hb : Below w.heap.size w w') : AskS B fb m N la lc pa pc ps qa qc qs w0 w' :=
  ⟨h.f.later hb, own_below h.l hb, own_below h.p hb, own_below h.q hb, bl h.b h.low.2 hb, h.low.1, Nat.le_trans h.low.2 hb.size⟩
theorem AskS.withP {pa' : Option Addr} {pc' : Nat} {ps' : List Int} (h : AskS B fb m N la lc pa pc ps qa qc qs w0 w) (hp : w.ownsRow B 3 1 (.slice pa' ps'.length pc') ps'.length (ps'.map (.int .i64))) : AskS B fb m N la lc pa' pc' ps' qa qc qs w0 w :=
  ⟨h.f, h.l, hp, h.q, h.b, h.low⟩
theorem AskS.withQ {qa' : Option Addr} {qc' : Nat} {qs' : List Int} (h : AskS B fb m N la lc pa pc ps qa qc qs w0 w) (hq : w.ownsRow B 3 1 (.slice qa' qs'.length qc') qs'.length (qs'.map (.int .i64))) : AskS B fb m N la lc pa pc ps qa' qc' qs' w0 w :=
  ⟨h.f, h.l, h.p, hq, h.b, h.low⟩
theorem AskS.nodes (h : AskS B fb m N la lc pa pc ps qa qc qs w0 w) (hN : (frameN m).length = N) : NdRow w la (frameN m) := by
  subst hN
  exact row_of_nodes h.l rfl
end
theorem frame_lt {B fb m : Nat} {w : World} (h : FrameIn fb m w) : fb < w.heap.size := h.lt
theorem same_quiet {P : Program} {f : FuncId} {args : Array Value} {v : Value} {W : World} {s : Since W} (h : Calls P f args s.w fun e w' => e = .returned v ∧ s.w = w') :
    Calls P f args s.w fun e w' => e = .returned v ∧ ∃ s' : Since W, w' = s'.w :=
  h.mono fun _ w' ⟨he, hb⟩ => ⟨he, ⟨s, hb.symm⟩⟩
end Go.Proofs.Ytmfkpjafeaidkaa
