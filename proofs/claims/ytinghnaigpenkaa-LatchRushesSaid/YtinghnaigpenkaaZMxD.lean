/- Seat 05: sync.Mutex's slow roads in pieces; the frames' slots. -/
import Derived.Test.YtinghnaigpenkaaZMxC
import Derived.Test.YtinghnaigpenkaaZLwB
namespace Go.Proofs.Ytinghnaigpenkaa
open Go.Conc
set_option linter.unusedVariables false
set_option maxRecDepth 100000
set_option maxHeartbeats 4000000
def Cd.a : Code → Code
  | .seq x _ => x
  | _ => .skip
def Cd.b : Code → Code
  | .seq _ y => y
  | _ => .skip
def Cd.t : Code → Code
  | .cond _ x _ => x
  | _ => .skip
def Cd.e : Code → Code
  | .cond _ _ y => y
  | _ => .skip
def Cd.k : Code → Code
  | .block _ x => x
  | _ => .skip
def Cd.l : Code → Code
  | .loop x => x
  | _ => .skip
def Cd.o : Code → Array Oper
  | .region _ x _ => x
  | _ => #[]
noncomputable def o75_0 : Array Oper := Cd.o (Cd.a (Try.f75.body.getD .skip))
noncomputable def o75_1 : Array Oper := Cd.o (Cd.a (Cd.b (Try.f75.body.getD .skip)))
noncomputable def o75_2 : Array Oper := Cd.o (Cd.a (Cd.b (Cd.b (Try.f75.body.getD .skip))))
noncomputable def o75_3 : Array Oper := Cd.o (Cd.a (Cd.b (Cd.b (Cd.b (Try.f75.body.getD .skip)))))
noncomputable def o75_4 : Array Oper := Cd.o (Cd.a (Cd.b (Cd.b (Cd.b (Cd.b (Try.f75.body.getD .skip))))))
noncomputable def o75_5 : Array Oper := Cd.o (Cd.a (Cd.a (Cd.k (Cd.l (Cd.k (Cd.a (Cd.b (Cd.b (Cd.b (Cd.b (Cd.b (Try.f75.body.getD .skip))))))))))))
noncomputable def o75_6 : Array Oper := Cd.o (Cd.a (Cd.a (Cd.t (Cd.b (Cd.a (Cd.k (Cd.l (Cd.k (Cd.a (Cd.b (Cd.b (Cd.b (Cd.b (Cd.b (Try.f75.body.getD .skip)))))))))))))))
noncomputable def o75_7 : Array Oper := Cd.o (Cd.t (Cd.b (Cd.a (Cd.t (Cd.b (Cd.a (Cd.k (Cd.l (Cd.k (Cd.a (Cd.b (Cd.b (Cd.b (Cd.b (Cd.b (Try.f75.body.getD .skip))))))))))))))))
noncomputable def o75_8 : Array Oper := Cd.o (Cd.a (Cd.b (Cd.t (Cd.b (Cd.a (Cd.k (Cd.l (Cd.k (Cd.a (Cd.b (Cd.b (Cd.b (Cd.b (Cd.b (Try.f75.body.getD .skip)))))))))))))))
noncomputable def o75_9 : Array Oper := Cd.o (Cd.a (Cd.b (Cd.b (Cd.t (Cd.b (Cd.a (Cd.k (Cd.l (Cd.k (Cd.a (Cd.b (Cd.b (Cd.b (Cd.b (Cd.b (Try.f75.body.getD .skip))))))))))))))))
noncomputable def o75_10 : Array Oper := Cd.o (Cd.a (Cd.b (Cd.b (Cd.b (Cd.t (Cd.b (Cd.a (Cd.k (Cd.l (Cd.k (Cd.a (Cd.b (Cd.b (Cd.b (Cd.b (Cd.b (Try.f75.body.getD .skip)))))))))))))))))
noncomputable def o75_11 : Array Oper := Cd.o (Cd.a (Cd.b (Cd.k (Cd.l (Cd.k (Cd.a (Cd.b (Cd.b (Cd.b (Cd.b (Cd.b (Try.f75.body.getD .skip))))))))))))
noncomputable def o75_12 : Array Oper := Cd.o (Cd.a (Cd.a (Cd.b (Cd.b (Cd.k (Cd.l (Cd.k (Cd.a (Cd.b (Cd.b (Cd.b (Cd.b (Cd.b (Try.f75.body.getD .skip))))))))))))))
noncomputable def o75_13 : Array Oper := Cd.o (Cd.t (Cd.b (Cd.a (Cd.b (Cd.b (Cd.k (Cd.l (Cd.k (Cd.a (Cd.b (Cd.b (Cd.b (Cd.b (Cd.b (Try.f75.body.getD .skip)))))))))))))))
noncomputable def o75_14 : Array Oper := Cd.o (Cd.a (Cd.a (Cd.b (Cd.b (Cd.b (Cd.k (Cd.l (Cd.k (Cd.a (Cd.b (Cd.b (Cd.b (Cd.b (Cd.b (Try.f75.body.getD .skip)))))))))))))))
noncomputable def o75_15 : Array Oper := Cd.o (Cd.t (Cd.b (Cd.a (Cd.b (Cd.b (Cd.b (Cd.k (Cd.l (Cd.k (Cd.a (Cd.b (Cd.b (Cd.b (Cd.b (Cd.b (Try.f75.body.getD .skip))))))))))))))))
noncomputable def o75_16 : Array Oper := Cd.o (Cd.a (Cd.a (Cd.b (Cd.b (Cd.b (Cd.b (Cd.k (Cd.l (Cd.k (Cd.a (Cd.b (Cd.b (Cd.b (Cd.b (Cd.b (Try.f75.body.getD .skip))))))))))))))))
noncomputable def o75_17 : Array Oper := Cd.o (Cd.t (Cd.b (Cd.a (Cd.b (Cd.b (Cd.b (Cd.b (Cd.k (Cd.l (Cd.k (Cd.a (Cd.b (Cd.b (Cd.b (Cd.b (Cd.b (Try.f75.body.getD .skip)))))))))))))))))
noncomputable def o75_18 : Array Oper := Cd.o (Cd.a (Cd.a (Cd.b (Cd.b (Cd.b (Cd.b (Cd.b (Cd.k (Cd.l (Cd.k (Cd.a (Cd.b (Cd.b (Cd.b (Cd.b (Cd.b (Try.f75.body.getD .skip)))))))))))))))))
noncomputable def o75_19 : Array Oper := Cd.o (Cd.a (Cd.a (Cd.t (Cd.b (Cd.a (Cd.b (Cd.b (Cd.b (Cd.b (Cd.b (Cd.k (Cd.l (Cd.k (Cd.a (Cd.b (Cd.b (Cd.b (Cd.b (Cd.b (Try.f75.body.getD .skip))))))))))))))))))))
noncomputable def o75_20 : Array Oper := Cd.o (Cd.t (Cd.b (Cd.a (Cd.t (Cd.b (Cd.a (Cd.b (Cd.b (Cd.b (Cd.b (Cd.b (Cd.k (Cd.l (Cd.k (Cd.a (Cd.b (Cd.b (Cd.b (Cd.b (Cd.b (Try.f75.body.getD .skip)))))))))))))))))))))
noncomputable def o75_21 : Array Oper := Cd.o (Cd.b (Cd.t (Cd.b (Cd.a (Cd.b (Cd.b (Cd.b (Cd.b (Cd.b (Cd.k (Cd.l (Cd.k (Cd.a (Cd.b (Cd.b (Cd.b (Cd.b (Cd.b (Try.f75.body.getD .skip)))))))))))))))))))
noncomputable def o75_22 : Array Oper := Cd.o (Cd.a (Cd.b (Cd.b (Cd.b (Cd.b (Cd.b (Cd.b (Cd.k (Cd.l (Cd.k (Cd.a (Cd.b (Cd.b (Cd.b (Cd.b (Cd.b (Try.f75.body.getD .skip)))))))))))))))))
noncomputable def o75_23 : Array Oper := Cd.o (Cd.a (Cd.a (Cd.t (Cd.b (Cd.b (Cd.b (Cd.b (Cd.b (Cd.b (Cd.b (Cd.k (Cd.l (Cd.k (Cd.a (Cd.b (Cd.b (Cd.b (Cd.b (Cd.b (Try.f75.body.getD .skip))))))))))))))))))))
noncomputable def o75_24 : Array Oper := Cd.o (Cd.a (Cd.b (Cd.t (Cd.b (Cd.b (Cd.b (Cd.b (Cd.b (Cd.b (Cd.b (Cd.k (Cd.l (Cd.k (Cd.a (Cd.b (Cd.b (Cd.b (Cd.b (Cd.b (Try.f75.body.getD .skip))))))))))))))))))))
noncomputable def o75_25 : Array Oper := Cd.o (Cd.a (Cd.a (Cd.b (Cd.b (Cd.t (Cd.b (Cd.b (Cd.b (Cd.b (Cd.b (Cd.b (Cd.b (Cd.k (Cd.l (Cd.k (Cd.a (Cd.b (Cd.b (Cd.b (Cd.b (Cd.b (Try.f75.body.getD .skip))))))))))))))))))))))
noncomputable def o75_26 : Array Oper := Cd.o (Cd.t (Cd.b (Cd.a (Cd.b (Cd.b (Cd.t (Cd.b (Cd.b (Cd.b (Cd.b (Cd.b (Cd.b (Cd.b (Cd.k (Cd.l (Cd.k (Cd.a (Cd.b (Cd.b (Cd.b (Cd.b (Cd.b (Try.f75.body.getD .skip)))))))))))))))))))))))
noncomputable def o75_27 : Array Oper := Cd.o (Cd.a (Cd.b (Cd.b (Cd.b (Cd.t (Cd.b (Cd.b (Cd.b (Cd.b (Cd.b (Cd.b (Cd.b (Cd.k (Cd.l (Cd.k (Cd.a (Cd.b (Cd.b (Cd.b (Cd.b (Cd.b (Try.f75.body.getD .skip))))))))))))))))))))))
noncomputable def o75_28 : Array Oper := Cd.o (Cd.a (Cd.b (Cd.b (Cd.b (Cd.b (Cd.t (Cd.b (Cd.b (Cd.b (Cd.b (Cd.b (Cd.b (Cd.b (Cd.k (Cd.l (Cd.k (Cd.a (Cd.b (Cd.b (Cd.b (Cd.b (Cd.b (Try.f75.body.getD .skip)))))))))))))))))))))))
noncomputable def o75_29 : Array Oper := Cd.o (Cd.a (Cd.b (Cd.b (Cd.b (Cd.b (Cd.b (Cd.t (Cd.b (Cd.b (Cd.b (Cd.b (Cd.b (Cd.b (Cd.b (Cd.k (Cd.l (Cd.k (Cd.a (Cd.b (Cd.b (Cd.b (Cd.b (Cd.b (Try.f75.body.getD .skip))))))))))))))))))))))))
noncomputable def o75_30 : Array Oper := Cd.o (Cd.a (Cd.a (Cd.b (Cd.b (Cd.b (Cd.b (Cd.b (Cd.b (Cd.t (Cd.b (Cd.b (Cd.b (Cd.b (Cd.b (Cd.b (Cd.b (Cd.k (Cd.l (Cd.k (Cd.a (Cd.b (Cd.b (Cd.b (Cd.b (Cd.b (Try.f75.body.getD .skip))))))))))))))))))))))))))
noncomputable def o75_31 : Array Oper := Cd.o (Cd.a (Cd.a (Cd.t (Cd.b (Cd.a (Cd.b (Cd.b (Cd.b (Cd.b (Cd.b (Cd.b (Cd.t (Cd.b (Cd.b (Cd.b (Cd.b (Cd.b (Cd.b (Cd.b (Cd.k (Cd.l (Cd.k (Cd.a (Cd.b (Cd.b (Cd.b (Cd.b (Cd.b (Try.f75.body.getD .skip)))))))))))))))))))))))))))))
noncomputable def o75_32 : Array Oper := Cd.o (Cd.t (Cd.b (Cd.a (Cd.t (Cd.b (Cd.a (Cd.b (Cd.b (Cd.b (Cd.b (Cd.b (Cd.b (Cd.t (Cd.b (Cd.b (Cd.b (Cd.b (Cd.b (Cd.b (Cd.b (Cd.k (Cd.l (Cd.k (Cd.a (Cd.b (Cd.b (Cd.b (Cd.b (Cd.b (Try.f75.body.getD .skip))))))))))))))))))))))))))))))
noncomputable def o75_33 : Array Oper := Cd.o (Cd.a (Cd.b (Cd.t (Cd.b (Cd.a (Cd.b (Cd.b (Cd.b (Cd.b (Cd.b (Cd.b (Cd.t (Cd.b (Cd.b (Cd.b (Cd.b (Cd.b (Cd.b (Cd.b (Cd.k (Cd.l (Cd.k (Cd.a (Cd.b (Cd.b (Cd.b (Cd.b (Cd.b (Try.f75.body.getD .skip)))))))))))))))))))))))))))))
noncomputable def o75_34 : Array Oper := Cd.o (Cd.a (Cd.a (Cd.b (Cd.b (Cd.t (Cd.b (Cd.a (Cd.b (Cd.b (Cd.b (Cd.b (Cd.b (Cd.b (Cd.t (Cd.b (Cd.b (Cd.b (Cd.b (Cd.b (Cd.b (Cd.b (Cd.k (Cd.l (Cd.k (Cd.a (Cd.b (Cd.b (Cd.b (Cd.b (Cd.b (Try.f75.body.getD .skip)))))))))))))))))))))))))))))))
noncomputable def o75_35 : Array Oper := Cd.o (Cd.t (Cd.b (Cd.a (Cd.b (Cd.b (Cd.t (Cd.b (Cd.a (Cd.b (Cd.b (Cd.b (Cd.b (Cd.b (Cd.b (Cd.t (Cd.b (Cd.b (Cd.b (Cd.b (Cd.b (Cd.b (Cd.b (Cd.k (Cd.l (Cd.k (Cd.a (Cd.b (Cd.b (Cd.b (Cd.b (Cd.b (Try.f75.body.getD .skip))))))))))))))))))))))))))))))))
noncomputable def o75_36 : Array Oper := Cd.o (Cd.a (Cd.b (Cd.b (Cd.b (Cd.t (Cd.b (Cd.a (Cd.b (Cd.b (Cd.b (Cd.b (Cd.b (Cd.b (Cd.t (Cd.b (Cd.b (Cd.b (Cd.b (Cd.b (Cd.b (Cd.b (Cd.k (Cd.l (Cd.k (Cd.a (Cd.b (Cd.b (Cd.b (Cd.b (Cd.b (Try.f75.body.getD .skip)))))))))))))))))))))))))))))))
noncomputable def o75_37 : Array Oper := Cd.o (Cd.a (Cd.b (Cd.b (Cd.b (Cd.b (Cd.b (Cd.b (Cd.b (Cd.t (Cd.b (Cd.b (Cd.b (Cd.b (Cd.b (Cd.b (Cd.b (Cd.k (Cd.l (Cd.k (Cd.a (Cd.b (Cd.b (Cd.b (Cd.b (Cd.b (Try.f75.body.getD .skip))))))))))))))))))))))))))
noncomputable def o75_38 : Array Oper := Cd.o (Cd.b (Cd.b (Cd.b (Cd.b (Cd.b (Cd.b (Cd.b (Cd.b (Cd.t (Cd.b (Cd.b (Cd.b (Cd.b (Cd.b (Cd.b (Cd.b (Cd.k (Cd.l (Cd.k (Cd.a (Cd.b (Cd.b (Cd.b (Cd.b (Cd.b (Try.f75.body.getD .skip))))))))))))))))))))))))))
noncomputable def o75_39 : Array Oper := Cd.o (Cd.e (Cd.b (Cd.b (Cd.b (Cd.b (Cd.b (Cd.b (Cd.b (Cd.k (Cd.l (Cd.k (Cd.a (Cd.b (Cd.b (Cd.b (Cd.b (Cd.b (Try.f75.body.getD .skip))))))))))))))))))
noncomputable def o75_40 : Array Oper := Cd.o (Cd.a (Cd.t (Cd.b (Cd.b (Cd.b (Cd.b (Cd.b (Cd.b (Try.f75.body.getD .skip)))))))))
noncomputable def o75_41 : Array Oper := Cd.o (Cd.b (Cd.t (Cd.b (Cd.b (Cd.b (Cd.b (Cd.b (Cd.b (Try.f75.body.getD .skip)))))))))
theorem tr75 : (Try.f75.body.getD .skip) = .seq (.region 0 o75_0 false) (.seq (.region 1 o75_1 false) (.seq (.region 2 o75_2 false) (.seq (.region 3 o75_3 false) (.seq (.region 4 o75_4 false) (.seq (.block 0 (.loop (.block 1 (.seq (.seq (.region 5 o75_5 false) (.cond (.tmp 20) (.seq (.seq (.region 6 o75_6 false) (.cond (.tmp 41) (.region 7 o75_7 false) (.skip))) (.seq (.region 8 o75_8 false) (.seq (.region 9 o75_9 false) (.seq (.region 10 o75_10 false) (.exit 1))))) (.skip))) (.seq (.region 11 o75_11 false) (.seq (.seq (.region 12 o75_12 false) (.cond (.tmp 52) (.region 13 o75_13 false) (.skip))) (.seq (.seq (.region 14 o75_14 false) (.cond (.tmp 57) (.region 15 o75_15 false) (.skip))) (.seq (.seq (.region 16 o75_16 false) (.cond (.tmp 65) (.region 17 o75_17 false) (.skip))) (.seq (.seq (.region 18 o75_18 false) (.cond (.tmp 68) (.seq (.seq (.region 19 o75_19 false) (.cond (.tmp 71) (.region 20 o75_20 false) (.skip))) (.region 21 o75_21 false)) (.skip))) (.seq (.region 22 o75_22 false) (.cond (.tmp 80) (.seq (.seq (.region 23 o75_23 false) (.cond (.tmp 83) (.exit 0) (.skip))) (.seq (.region 24 o75_24 false) (.seq (.seq (.region 25 o75_25 false) (.cond (.tmp 87) (.region 26 o75_26 false) (.skip))) (.seq (.region 27 o75_27 false) (.seq (.region 28 o75_28 false) (.seq (.region 29 o75_29 false) (.seq (.seq (.region 30 o75_30 false) (.cond (.tmp 107) (.seq (.seq (.region 31 o75_31 false) (.cond (.tmp 115) (.region 32 o75_32 false) (.skip))) (.seq (.region 33 o75_33 false) (.seq (.seq (.region 34 o75_34 false) (.cond (.tmp 123) (.region 35 o75_35 false) (.skip))) (.seq (.region 36 o75_36 false) (.exit 0))))) (.skip))) (.seq (.region 37 o75_37 false) (.region 38 o75_38 false))))))))) (.region 39 o75_39 false)))))))))))) (.cond (.const (.bool true)) (.seq (.region 40 o75_40 false) (.region 41 o75_41 false)) (.skip))))))) := by kernel_rfl
noncomputable def o76_0 : Array Oper := Cd.o (Cd.a (Cd.a (Try.f76.body.getD .skip)))
noncomputable def o76_1 : Array Oper := Cd.o (Cd.t (Cd.b (Cd.a (Try.f76.body.getD .skip))))
noncomputable def o76_2 : Array Oper := Cd.o (Cd.a (Cd.b (Try.f76.body.getD .skip)))
noncomputable def o76_3 : Array Oper := Cd.o (Cd.a (Cd.t (Cd.b (Cd.b (Try.f76.body.getD .skip)))))
noncomputable def o76_4 : Array Oper := Cd.o (Cd.a (Cd.a (Cd.k (Cd.l (Cd.k (Cd.b (Cd.t (Cd.b (Cd.b (Try.f76.body.getD .skip))))))))))
noncomputable def o76_5 : Array Oper := Cd.o (Cd.a (Cd.b (Cd.k (Cd.l (Cd.k (Cd.b (Cd.t (Cd.b (Cd.b (Try.f76.body.getD .skip))))))))))
noncomputable def o76_6 : Array Oper := Cd.o (Cd.a (Cd.a (Cd.b (Cd.b (Cd.k (Cd.l (Cd.k (Cd.b (Cd.t (Cd.b (Cd.b (Try.f76.body.getD .skip))))))))))))
noncomputable def o76_7 : Array Oper := Cd.o (Cd.a (Cd.t (Cd.b (Cd.a (Cd.b (Cd.b (Cd.k (Cd.l (Cd.k (Cd.b (Cd.t (Cd.b (Cd.b (Try.f76.body.getD .skip))))))))))))))
noncomputable def o76_8 : Array Oper := Cd.o (Cd.b (Cd.b (Cd.b (Cd.k (Cd.l (Cd.k (Cd.b (Cd.t (Cd.b (Cd.b (Try.f76.body.getD .skip)))))))))))
noncomputable def o76_9 : Array Oper := Cd.o (Cd.e (Cd.b (Cd.b (Try.f76.body.getD .skip))))
theorem tr76 : (Try.f76.body.getD .skip) = .seq (.seq (.region 0 o76_0 false) (.cond (.tmp 8) (.region 1 o76_1 false) (.skip))) (.seq (.region 2 o76_2 false) (.cond (.tmp 12) (.seq (.region 3 o76_3 false) (.block 0 (.loop (.block 1 (.seq (.seq (.region 4 o76_4 false) (.cond (.tmp 21) (.ret) (.skip))) (.seq (.region 5 o76_5 false) (.seq (.seq (.region 6 o76_6 false) (.cond (.tmp 30) (.seq (.region 7 o76_7 false) (.ret)) (.skip))) (.region 8 o76_8 false)))))))) (.region 9 o76_9 false))) := by kernel_rfl
/-- lockSlow's slots: the mutex, when it began to wait, starving, awoke, how often it spun, what it saw -/
structure Fr (T : Array Value) (p v2 v3 v4 v5 v6 : Value) : Prop where
  size : T.size = 139
  h0 : T[0]? = some p
  h2 : T[2]? = some v2
  h3 : T[3]? = some v3
  h4 : T[4]? = some v4
  h5 : T[5]? = some v5
  h6 : T[6]? = some v6
end Go.Proofs.Ytinghnaigpenkaa
