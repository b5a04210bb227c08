/- A loop over a range function beside other goroutines: rules. -/
import Derived.Test.YtkcknoodcgmndaaRfA
namespace Go.Proofs.Ytkcknoodcgmndaa
open Go.Conc
set_option linter.unusedVariables false
set_option linter.unusedSimpArgs false
set_option linter.unusedSectionVars false
def baseR (l : Nat) (f : FuncId) : Frame := { base f with roundOf := some l }
section
variable {P : Program} {main : Bool} {l : Nat} {f : FuncId} {a : Act} {k : List Item} {cs : List Frame} {w : World}
theorem round_atR (tm : Array Value) (asg body : Code) : Frame.round l f tm asg body .normal = (baseR l f).atR ⟨tm, []⟩ [.code asg, .beginRound, .code body] := rfl
theorem stepGR_seq {x y : Code} : stepG P main (G ((baseR l f).atR a (.code (.seq x y) :: k)) cs) w = .go (G ((baseR l f).atR a (.code x :: .code y :: k)) cs) w := by simp [G, stepG, stepG.exec, Frame.atR]
theorem stepGR_skip : stepG P main (G ((baseR l f).atR a (.code .skip :: k)) cs) w = .go (G ((baseR l f).atR a k) cs) w := by simp [G, stepG, stepG.exec, Frame.atR]
theorem stepGR_region {id : Nat} {ops : Array Oper} : stepG P main (G ((baseR l f).atR a (.code (.region id ops false) :: k)) cs) w = .go (G ((baseR l f).atR a (.inRegion ops (List.range ops.size) :: k)) cs) w := by simp [G, stepG, stepG.exec, Frame.atR]
theorem stepGR_region_end {ops : Array Oper} : stepG P main (G ((baseR l f).atR a (.inRegion ops [] :: k)) cs) w = .go (G ((baseR l f).atR a k) cs) w := by simp [G, stepG, stepG.exec, Frame.atR]
theorem stepGR_oper {ops : Array Oper} {i : Nat} {rest : List Nat} {o : Oper} (ho : ops[i]? = some o) (hw : Region.wanted o (yielded ops a.tmps) = true) (hd : ∀ c, o.op ≠ .defer c) :
    stepG P main (G ((baseR l f).atR a (.inRegion ops (i :: rest) :: k)) cs) w = stepG.apply P true ((baseR l f).atR a (.inRegion ops (i :: rest) :: k)) cs none (execOp a.eval o) w := by
  have he := Frame.eval_atR (baseR l f) a (.inRegion ops (i :: rest) :: k)
  simp only [Frame.atR] at he
  simp [G, stepG, stepG.exec, stepG.oper, Frame.oper?, Frame.atR, ho, hw, he]
  split
  · rename_i c _ hc
    exact absurd hc (hd _)
  · rfl
theorem stepGR_unwanted {ops : Array Oper} {i : Nat} {rest : List Nat} {o : Oper} (ho : ops[i]? = some o) (hw : Region.wanted o (yielded ops a.tmps) = false) :
    stepG P main (G ((baseR l f).atR a (.inRegion ops (i :: rest) :: k)) cs) w = .go (G ((baseR l f).atR (a.put o.dst undef) (.inRegion ops rest :: k)) cs) w := by
  have hfin : ((baseR l f).atR a (.inRegion ops (i :: rest) :: k)).finish undef = (baseR l f).atR (a.put o.dst undef) (.inRegion ops rest :: k) := by rw [Frame.finish_atR, ho]; rfl
  rw [← hfin]
  simp [G, stepG, stepG.exec, Frame.atR, ho, hw]
theorem goes_operR {ops : Array Oper} {i : Nat} {rest : List Nat} {o : Oper} {K : Goroutine → World → Array Event → Prop} (ho : ops[i]? = some o) (hw : Region.wanted o (yielded ops a.tmps) = true) (hd : ∀ c, o.op ≠ .defer c)
    (h : uponK o a (fun a' w' => K (G ((baseR l f).atR a' (.inRegion ops rest :: k)) cs) w' (listed P f a o w)) ((execOp a.eval o).run P w)) : (stepG P main (G ((baseR l f).atR a (.inRegion ops (i :: rest) :: k)) cs) w).goes K := by
  have hk' : ((baseR l f).kind == CallKind.early) = false := by simp [baseR, base]
  have hfin : ∀ v, ((baseR l f).atR a (.inRegion ops (i :: rest) :: k)).finish v = (baseR l f).atR (a.put o.dst v) (.inRegion ops rest :: k) := fun v => by rw [Frame.finish_atR, ho]; rfl
  rw [stepGR_oper ho hw hd]
  generalize hr : (execOp a.eval o).run P w = r at h
  match r, h with
  | .ok (.value v) w', h =>
    have e : stepG.apply P true ((baseR l f).atR a (.inRegion ops (i :: rest) :: k)) cs none (execOp a.eval o) w = .go (G ((baseR l f).atR (a.put o.dst v) (.inRegion ops rest :: k)) cs) w' (listed P f a o w) := by
      rw [← hfin]
      simp [stepG.apply, hr, G, Frame.atR, hk', GStep.after, listed]
      rfl
    rw [e]; exact h
  | .ok .skip w', h =>
    have e : stepG.apply P true ((baseR l f).atR a (.inRegion ops (i :: rest) :: k)) cs none (execOp a.eval o) w = .go (G ((baseR l f).atR (a.put o.dst undef) (.inRegion ops rest :: k)) cs) w' (listed P f a o w) := by
      rw [← hfin]
      simp [stepG.apply, hr, G, Frame.atR, hk', GStep.after, listed]
      rfl
    rw [e]; exact h
theorem stepGR_begin {r : Loop} (hl : w.heap[l]? = some (.loop r)) (hs : r.state = .ready) :
    stepG P main (G ((baseR l f).atR a (.beginRound :: k)) cs) w = .go (G ((baseR l f).atR a k) cs) (putO w l (.loop { r with state := .busy })) (seen P f (rw2 l)) := by
  have hk' : ((baseR l f).kind == CallKind.early) = false := by simp [baseR, base]
  have h1 : (baseR l f).roundOf = some l := rfl
  simp [G, stepG, stepG.exec, stepG.apply, Frame.atR, r_begin hl hs, e_begin hl hs, GStep.after, hk', h1, Frame.finish]
  rfl
theorem stepGR_end {r : Loop} {c : Frame} (hl : w.heap[l]? = some (.loop r)) :
    stepG P main (G ((baseR l f).atR a []) (c :: cs)) w = .go (G (c.finish (.bool true)) cs) (putO w l (.loop { r with state := .ready, pending := none })) (seen P f (rw2 l)) := by
  have h1 : (baseR l f).roundOf = some l := rfl
  have h2 : (baseR l f).kind = .normal := rfl
  simp [G, stepG, stepG.exec, Frame.atR, r_endRound hl, e_endRound hl, GStep.after, h1, h2, doReturn]
  rfl
end
end Go.Proofs.Ytkcknoodcgmndaa
