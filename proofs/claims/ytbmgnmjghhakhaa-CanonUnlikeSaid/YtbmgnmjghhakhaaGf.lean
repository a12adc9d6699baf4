/-
  MADE BY A PROGRAM: programs that the compiler makes of functions, and that it makes them.
-/
import Derived.Test.YtbmgnmjghhakhaaGs
namespace Vm
open Go
open Go.Proofs
set_option maxRecDepth 100000
/-- cromlech/cromlechref08.Do -/
def p18 : Fn := ⟨16, [0, 1, 2, 3, 4, 5, 6, 7, 19, 23, 22, 8, 29, 9, 48, 60],
(.seq
(.reg ⟨[], [], [(2, .m [(.fld (.sz (.s 0) 2) 0), (.fld (.sz (.s 0) 2) 1)]), (3, .m [(.fld (.sz (.s 1) 7) 0), (.fld (.sz (.s 1) 7) 1), (.fld (.sz (.s 1) 7) 2), (.fld (.sz (.s 1) 7) 3), (.fld (.sz (.s 1) 7) 4), (.fld (.sz (.s 1) 7) 5), (.fld (.sz (.s 1) 7) 6)]), (4, .v (.c (.int .u64 (0)))), (5, .m [(.c (.sl [])), (.c (.sl []))]), (6, .v (.c (.int .i64 (0))))]⟩)
(.seq
(.reg ⟨[.call 16 [] 32 false false [(.mm 2 0 2)]], [], [(7, .v (.s 16))]⟩)
(.seq
(.seq
(.reg ⟨[.lt 17 [] (.un .not (.s 7)), .call 18 [(17, false)] 37 false false [(.mm 2 0 2), (.mm 3 0 7)]], [([(17, false)], (.un .not (.s 18)))], [(8, .v (.ite (.s 17) (.c (.bool true)) (.un .not (.s 18))))]⟩)
(.cond (.s 8)
 (.seq
 (.reg ⟨[], [([], (.ag [(.c (.sl [])), (.c (.sl []))]))], [(4, .v (.c (.int .u64 (0)))), (5, .m [(.c (.sl [])), (.c (.sl []))]), (6, .v (.c (.int .i64 (1))))]⟩)
 .ret)
 .skip))
(.seq
(.seq
(.reg ⟨[], [], [(10, .v (.m 3 0))]⟩)
(.block 0
 (.seq
 (.reg ⟨[], [], [(9, .v (.bin .eql (.s 10) (.c (.int .i64 (1)))))]⟩)
 (.cond (.s 9)
  (.seq
  (.reg ⟨[.call 19 [] 38 false false [(.mm 3 4 2)]], [], [(11, .v (.s 19))]⟩)
  (.seq
  (.seq
  (.reg ⟨[], [], [(12, .v (.un .not (.s 11)))]⟩)
  (.cond (.s 12)
   (.seq
   (.reg ⟨[], [([], (.ag [(.c (.sl [])), (.c (.sl []))]))], [(4, .v (.c (.int .u64 (0)))), (5, .m [(.c (.sl [])), (.c (.sl []))]), (6, .v (.c (.int .i64 (1))))]⟩)
   .ret)
   .skip))
  (.seq
  (.reg ⟨[.call 20 [] 39 false false [(.mm 2 0 2), (.m 3 1), (.len (.m 2 0))]], [], [(13, .m [(.fld (.sz (.s 20) 2) 0), (.fld (.sz (.s 20) 2) 1)])]⟩)
  (.seq
  (.reg ⟨[.call 21 [] 40 false false [(.mm 3 4 2)]], [], [(13, .m [(.app (.app (.c (.sl [])) (.m 2 0) 2) (.lit [(.sz (.s 21) 2)]) 2), (.m 13 1)])]⟩)
  (.seq
  (.reg ⟨[], [], [(4, .v (.c (.int .u64 (0)))), (5, .m [(.fld (.mm 13 0 2) 0), (.fld (.mm 13 0 2) 1)]), (6, .v (.c (.int .i64 (0))))]⟩)
  .ret)))))
  (.seq
  (.reg ⟨[], [], [(14, .v (.bin .eql (.s 10) (.c (.int .i64 (6)))))]⟩)
  (.cond (.s 14)
   (.seq
   (.reg ⟨[.call 22 [] 39 false false [(.mm 2 0 2), (.m 3 1), (.fld (.idx (.m 2 1) (.m 3 2) 1) 0)]], [], [(4, .v (.c (.int .u64 (0)))), (5, .m [(.fld (.sz (.s 22) 2) 0), (.fld (.sz (.s 22) 2) 1)]), (6, .v (.c (.int .i64 (0))))]⟩)
   .ret)
   (.seq
   (.reg ⟨[], [], [(15, .v (.bin .eql (.s 10) (.c (.int .i64 (7)))))]⟩)
   (.cond (.s 15)
    (.seq
    (.reg ⟨[.call 23 [] 39 false false [(.mm 2 0 2), (.m 3 1), (.c (.int .i64 (-1)))]], [], [(4, .v (.c (.int .u64 (0)))), (5, .m [(.fld (.sz (.s 23) 2) 0), (.fld (.sz (.s 23) 2) 1)]), (6, .v (.c (.int .i64 (0))))]⟩)
    .ret)
    .skip))))))))
(.seq
(.reg ⟨[.call 24 [] 41 false false [(.mm 2 0 2), (.mm 3 0 7)]], [], [(4, .v (.ext (.s 24) 0)), (5, .m [(.fld (.sz (.ext (.s 24) 1) 2) 0), (.fld (.sz (.ext (.s 24) 1) 2) 1)]), (6, .v (.ext (.s 24) 2))]⟩)
.ret))))),
[(4, .v), (5, (.ag 2)), (6, .v)]⟩
theorem c18 : compFn Try.prog fresh sig [.fz, .fz] [] Try.f18 = some p18 := by kernel_rfl
/-- cromlech/cromlechlaw08.Act -/
def p19 : Fn := ⟨5, [0, 1, 2, 4, 5],
(.seq
(.reg ⟨[], [], [(2, .m [(.fld (.sz (.s 0) 5) 0), (.fld (.sz (.s 0) 5) 1), (.fld (.sz (.s 0) 5) 2), (.fld (.sz (.s 0) 5) 3), (.fld (.sz (.s 0) 5) 4)]), (3, .m [(.c (.int .i64 (0))), (.c (.int .i64 (0))), (.c (.int .i64 (0))), (.c (.int .i64 (0))), (.c (.int .i64 (0))), (.c (.int .i64 (0))), (.c (.int .u64 (0)))])]⟩)
(.seq
(.reg ⟨[.call 5 [] 34 false false [(.ai (.mm 2 0 5) (.c (.int .i64 (4))) 5 1 false), (.c (.int .i64 (6)))]], [([], (.ai (.c (.agg [(.bool true), (.bool true), (.bool true), (.bool true), (.bool true)])) (.c (.int .i64 (4))) 5 1 false))], [(4, .m [(.fld (.ag [(.one (.s 5)), (.c (.int .i64 (0)))]) 0), (.fld (.ag [(.one (.s 5)), (.c (.int .i64 (0)))]) 1)])]⟩)
(.seq
(.reg ⟨[.call 6 [] 34 false false [(.bin .quo (.ai (.mm 2 0 5) (.c (.int .i64 (4))) 5 1 false) (.c (.int .i64 (6)))), (.bin .add (.m 4 0) (.c (.int .i64 (1))))]], [([], (.ai (.c (.agg [(.bool true), (.bool true), (.bool true), (.bool true), (.bool true)])) (.c (.int .i64 (4))) 5 1 false))], [(4, .m [(.m 4 0), (.one (.s 6))])]⟩)
(.seq
(.reg ⟨[.call 7 [] 34 false false [(.ai (.mm 2 0 5) (.c (.int .i64 (0))) 5 1 false), (.c (.int .i64 (7)))], .call 8 [] 34 false false [(.ai (.mm 2 0 5) (.c (.int .i64 (1))) 5 1 false), (.c (.int .i64 (5)))], .call 9 [] 34 false false [(.ai (.mm 2 0 5) (.c (.int .i64 (2))) 5 1 false), (.c (.int .i64 (5)))], .call 10 [] 34 false false [(.ai (.mm 2 0 5) (.c (.int .i64 (3))) 5 1 false), (.c (.int .i64 (4)))]], [([], (.ai (.c (.agg [(.bool true), (.bool true), (.bool true), (.bool true), (.bool true)])) (.c (.int .i64 (0))) 5 1 false)), ([], (.ai (.c (.agg [(.bool true), (.bool true), (.bool true), (.bool true), (.bool true)])) (.c (.int .i64 (1))) 5 1 false)), ([], (.ai (.c (.agg [(.bool true), (.bool true), (.bool true), (.bool true), (.bool true)])) (.c (.int .i64 (2))) 5 1 false)), ([], (.ai (.c (.agg [(.bool true), (.bool true), (.bool true), (.bool true), (.bool true)])) (.c (.int .i64 (3))) 5 1 false))], [(3, .m [(.fld (.ag [(.bin .add (.c (.int .i64 (1))) (.s 7)), (.one (.s 8)), (.one (.s 9)), (.one (.s 10)), (.fld (.mm 4 0 2) 0), (.fld (.mm 4 0 2) 1), (.one (.s 1))]) 0), (.fld (.ag [(.bin .add (.c (.int .i64 (1))) (.s 7)), (.one (.s 8)), (.one (.s 9)), (.one (.s 10)), (.fld (.mm 4 0 2) 0), (.fld (.mm 4 0 2) 1), (.one (.s 1))]) 1), (.fld (.ag [(.bin .add (.c (.int .i64 (1))) (.s 7)), (.one (.s 8)), (.one (.s 9)), (.one (.s 10)), (.fld (.mm 4 0 2) 0), (.fld (.mm 4 0 2) 1), (.one (.s 1))]) 2), (.fld (.ag [(.bin .add (.c (.int .i64 (1))) (.s 7)), (.one (.s 8)), (.one (.s 9)), (.one (.s 10)), (.fld (.mm 4 0 2) 0), (.fld (.mm 4 0 2) 1), (.one (.s 1))]) 3), (.fld (.ag [(.bin .add (.c (.int .i64 (1))) (.s 7)), (.one (.s 8)), (.one (.s 9)), (.one (.s 10)), (.fld (.mm 4 0 2) 0), (.fld (.mm 4 0 2) 1), (.one (.s 1))]) 4), (.fld (.ag [(.bin .add (.c (.int .i64 (1))) (.s 7)), (.one (.s 8)), (.one (.s 9)), (.one (.s 10)), (.fld (.mm 4 0 2) 0), (.fld (.mm 4 0 2) 1), (.one (.s 1))]) 5), (.fld (.ag [(.bin .add (.c (.int .i64 (1))) (.s 7)), (.one (.s 8)), (.one (.s 9)), (.one (.s 10)), (.fld (.mm 4 0 2) 0), (.fld (.mm 4 0 2) 1), (.one (.s 1))]) 6)])]⟩)
.ret)))),
[(3, (.ag 7))]⟩
theorem c19 : compFn Try.prog fresh sig [.fz, .fz] [] Try.f19 = some p19 := by kernel_rfl
/-- cromlech/cromlechref08.Right -/
def p32 : Fn := ⟨14, [0, 1, 2, 10, 3, 15, 27, 4, 32, 5, 47, 6, 52, 64],
(.seq
(.reg ⟨[], [], [(1, .m [(.fld (.sz (.s 0) 2) 0), (.fld (.sz (.s 0) 2) 1)]), (2, .v (.c (.bool false)))]⟩)
(.seq
(.seq
(.reg ⟨[], [], [(3, .v (.bin .gtr (.len (.m 1 1)) (.c (.int .i64 (16)))))]⟩)
(.cond (.s 3)
 (.seq
 (.reg ⟨[], [], [(2, .v (.c (.bool false)))]⟩)
 .ret)
 .skip))
(.seq
(.seq
(.reg ⟨[], [], [(4, .v (.c (.int .i64 (0))))]⟩)
(.block 0
 (.loop [0, 1, 2, 3, 4]
  (.seq
  (.seq
  (.reg ⟨[], [], [(5, .v (.bin .lss (.s 4) (.len (.m 1 1))))]⟩)
  (.cond (.s 5)
   .skip
   (.exit 0)))
  (.seq
  (.block 1
   (.seq
   (.reg ⟨[.call 14 [] 53 false false [(.fld (.idx (.m 1 1) (.s 4) 1) 0), (.len (.m 1 0))]], [], [(6, .v (.un .not (.s 14)))]⟩)
   (.cond (.s 6)
    (.seq
    (.reg ⟨[], [], [(2, .v (.c (.bool false)))]⟩)
    .ret)
    .skip)))
  (.reg ⟨[], [], [(4, .v (.bin .add (.s 4) (.c (.int .i64 (1)))))]⟩))))))
(.seq
(.seq
(.reg ⟨[], [], [(7, .v (.c (.int .i64 (0))))]⟩)
(.block 2
 (.loop [0, 1, 2, 3, 4, 5, 7]
  (.seq
  (.seq
  (.reg ⟨[], [], [(8, .v (.bin .lss (.s 7) (.len (.m 1 0))))]⟩)
  (.cond (.s 8)
   .skip
   (.exit 2)))
  (.seq
  (.block 3
   (.seq
   (.reg ⟨[], [], [(9, .m [(.fld (.flds (.idx (.m 1 0) (.s 7) 2) 0 2) 0), (.fld (.flds (.idx (.m 1 0) (.s 7) 2) 0 2) 1)])]⟩)
   (.seq
   (.seq
   (.reg ⟨[], [], [(10, .v (.bin .gtr (.bin .add (.len (.m 9 0)) (.len (.m 9 1))) (.c (.int .i64 (255)))))]⟩)
   (.cond (.s 10)
    (.seq
    (.reg ⟨[], [], [(2, .v (.c (.bool false)))]⟩)
    .ret)
    .skip))
   (.seq
   (.reg ⟨[], [], [(11, .v (.c (.int .i64 (0))))]⟩)
   (.block 4
    (.loop [0, 1, 2, 3, 4, 5, 7, 8, 9, 10, 11]
     (.seq
     (.seq
     (.reg ⟨[], [], [(12, .v (.bin .lss (.s 11) (.len (.m 9 0))))]⟩)
     (.cond (.s 12)
      .skip
      (.exit 4)))
     (.seq
     (.block 5
      (.seq
      (.reg ⟨[.call 15 [] 53 false false [(.fld (.idx (.m 9 0) (.s 11) 1) 0), (.len (.m 1 0))]], [], [(13, .v (.un .not (.s 15)))]⟩)
      (.cond (.s 13)
       (.seq
       (.reg ⟨[], [], [(2, .v (.c (.bool false)))]⟩)
       .ret)
       .skip)))
     (.reg ⟨[], [], [(11, .v (.bin .add (.s 11) (.c (.int .i64 (1)))))]⟩)))))))))
  (.reg ⟨[], [], [(7, .v (.bin .add (.s 7) (.c (.int .i64 (1)))))]⟩))))))
(.seq
(.reg ⟨[], [], [(2, .v (.c (.bool true)))]⟩)
.ret))))),
[(2, .v)]⟩
theorem c32 : compFn Try.prog fresh sig [.fz] [] Try.f32 = some p32 := by kernel_rfl
/-- cromlech/cromlechref08.Words -/
def p33 : Fn := ⟨8, [0, 1, 2, 3, 9, 4, 5, 14],
(.seq
(.reg ⟨[], [], [(1, .m [(.fld (.sz (.s 0) 2) 0), (.fld (.sz (.s 0) 2) 1)]), (2, .v (.c (.int .i64 (0))))]⟩)
(.seq
(.reg ⟨[.call 8 [] 32 false false [(.mm 1 0 2)]], [], [(3, .v (.s 8))]⟩)
(.seq
(.seq
(.reg ⟨[], [], [(4, .v (.un .not (.s 3)))]⟩)
(.cond (.s 4)
 (.seq
 (.reg ⟨[], [], [(2, .v (.c (.int .i64 (0))))]⟩)
 .ret)
 .skip))
(.seq
(.reg ⟨[], [], [(5, .v (.c (.int .i64 (0))))]⟩)
(.seq
(.seq
(.reg ⟨[], [], [(6, .v (.c (.int .i64 (0))))]⟩)
(.block 0
 (.loop [0, 1, 2, 3, 4, 5, 6]
  (.seq
  (.seq
  (.reg ⟨[], [], [(7, .v (.bin .lss (.s 6) (.len (.m 1 0))))]⟩)
  (.cond (.s 7)
   .skip
   (.exit 0)))
  (.seq
  (.block 1
   (.reg ⟨[], [], [(5, .v (.bin .add (.bin .add (.bin .add (.s 5) (.c (.int .i64 (1)))) (.len (.fld (.idx (.m 1 0) (.s 6) 2) 0))) (.len (.fld (.idx (.m 1 0) (.s 6) 2) 1))))]⟩))
  (.reg ⟨[], [], [(6, .v (.bin .add (.s 6) (.c (.int .i64 (1)))))]⟩))))))
(.seq
(.reg ⟨[], [], [(2, .v (.s 5))]⟩)
.ret)))))),
[(2, .v)]⟩
theorem c33 : compFn Try.prog fresh sig [.fz] [] Try.f33 = some p33 := by kernel_rfl
/-- cromlech/cromlechref08.names -/
def p37 : Fn := ⟨11, [0, 1, 2, 3, 4, 5, 6, 31, 30, 35, 39],
(.seq
(.reg ⟨[], [], [(2, .m [(.fld (.sz (.s 0) 2) 0), (.fld (.sz (.s 0) 2) 1)]), (3, .m [(.fld (.sz (.s 1) 7) 0), (.fld (.sz (.s 1) 7) 1), (.fld (.sz (.s 1) 7) 2), (.fld (.sz (.s 1) 7) 3), (.fld (.sz (.s 1) 7) 4), (.fld (.sz (.s 1) 7) 5), (.fld (.sz (.s 1) 7) 6)]), (4, .v (.c (.bool false)))]⟩)
(.seq
(.reg ⟨[.lt 11 [] (.bin .geq (.m 3 1) (.c (.int .i64 (0))))], [([(11, true)], (.bin .lss (.m 3 1) (.len (.m 2 1))))], [(5, .v (.ite (.s 11) (.bin .lss (.m 3 1) (.len (.m 2 1))) (.c (.bool false))))]⟩)
(.seq
(.reg ⟨[.lt 12 [] (.bin .geq (.m 3 2) (.c (.int .i64 (0))))], [([(12, true)], (.bin .lss (.m 3 2) (.len (.m 2 1))))], [(6, .v (.ite (.s 12) (.bin .lss (.m 3 2) (.len (.m 2 1))) (.c (.bool false))))]⟩)
(.seq
(.seq
(.reg ⟨[], [], [(8, .v (.m 3 0))]⟩)
(.block 0
 (.seq
 (.seq
 (.reg ⟨[], [], [(7, .v (.bin .eql (.s 8) (.c (.int .i64 (1)))))]⟩)
 (.cond (.s 7)
  .skip
  (.reg ⟨[], [], [(7, .v (.bin .eql (.s 8) (.c (.int .i64 (7)))))]⟩)))
 (.cond (.s 7)
  (.seq
  (.reg ⟨[], [], [(4, .v (.s 5))]⟩)
  .ret)
  (.seq
  (.seq
  (.reg ⟨[], [], [(9, .v (.bin .eql (.s 8) (.c (.int .i64 (3)))))]⟩)
  (.cond (.s 9)
   .skip
   (.reg ⟨[], [], [(9, .v (.bin .eql (.s 8) (.c (.int .i64 (5)))))]⟩)))
  (.cond (.s 9)
   (.seq
   (.reg ⟨[], [], [(4, .v (.s 6))]⟩)
   .ret)
   (.seq
   (.seq
   (.reg ⟨[], [], [(10, .v (.bin .eql (.s 8) (.c (.int .i64 (2)))))]⟩)
   (.cond (.s 10)
    .skip
    (.seq
    (.reg ⟨[], [], [(10, .v (.bin .eql (.s 8) (.c (.int .i64 (4)))))]⟩)
    (.cond (.s 10)
     .skip
     (.reg ⟨[], [], [(10, .v (.bin .eql (.s 8) (.c (.int .i64 (6)))))]⟩)))))
   (.cond (.s 10)
    (.seq
    (.reg ⟨[.lt 13 [] (.s 5)], [], [(4, .v (.ite (.s 13) (.s 6) (.c (.bool false))))]⟩)
    .ret)
    .skip))))))))
(.seq
(.reg ⟨[], [], [(4, .v (.c (.bool false)))]⟩)
.ret))))),
[(4, .v)]⟩
theorem c37 : compFn Try.prog fresh sig [.fz, .fz] [] Try.f37 = some p37 := by kernel_rfl
/-- cromlech/cromlechref05.Right -/
def p38 : Fn := ⟨3, [0, 1, 2],
(.seq
(.reg ⟨[], [], [(1, .m [(.fld (.sz (.s 0) 2) 0), (.fld (.sz (.s 0) 2) 1)]), (2, .v (.c (.bool false)))]⟩)
(.seq
(.reg ⟨[.lt 3 [] (.bin .geq (.m 1 0) (.c (.int .i64 (0)))), .lt 4 [] (.ite (.s 3) (.bin .leq (.m 1 0) (.c (.int .i64 (255)))) (.c (.bool false))), .lt 5 [] (.ite (.s 4) (.bin .geq (.m 1 1) (.c (.int .i64 (0)))) (.c (.bool false)))], [([(3, true)], (.bin .leq (.m 1 0) (.c (.int .i64 (255))))), ([(4, true)], (.bin .geq (.m 1 1) (.c (.int .i64 (0))))), ([(5, true)], (.bin .leq (.m 1 1) (.m 1 0)))], [(2, .v (.ite (.s 5) (.bin .leq (.m 1 1) (.m 1 0)) (.c (.bool false))))]⟩)
.ret)),
[(2, .v)]⟩
theorem c38 : compFn Try.prog fresh sig [.fz] [] Try.f38 = some p38 := by kernel_rfl
/-- cromlech/cromlechref08.rooted -/
def p39 : Fn := ⟨6, [0, 1, 2, 3, 6, 7],
(.seq
(.reg ⟨[], [], [(3, .m [(.fld (.sz (.s 0) 2) 0), (.fld (.sz (.s 0) 2) 1)]), (4, .m [(.c (.sl [])), (.c (.sl []))])]⟩)
(.seq
(.reg ⟨[], [([], (.ag [(.m 3 0), (.app (.c (.sl [])) (.m 3 1) 1)]))], [(5, .m [(.m 3 0), (.app (.c (.sl [])) (.m 3 1) 1)])]⟩)
(.seq
(.reg ⟨[], [([], (.idx (.m 5 1) (.s 1) 1))], [(5, .m [(.m 5 0), (.upd (.m 5 1) (.s 1) 0 (.one (.s 2)))])]⟩)
(.seq
(.reg ⟨[], [], [(4, .m [(.fld (.mm 5 0 2) 0), (.fld (.mm 5 0 2) 1)])]⟩)
.ret)))),
[(4, (.ag 2))]⟩
theorem c39 : compFn Try.prog fresh sig [.fz, .fz, .fz] [] Try.f39 = some p39 := by kernel_rfl
/-- cromlech/cromlechref08.fresh -/
def p40 : Fn := ⟨6, [0, 1, 2, 3, 4, 15],
(.seq
(.reg ⟨[], [], [(1, .m [(.fld (.sz (.s 0) 2) 0), (.fld (.sz (.s 0) 2) 1)]), (2, .m [(.c (.sl [])), (.c (.sl []))])]⟩)
(.seq
(.reg ⟨[], [([], (.ag [(.c (.sl [])), (.mk (.int .u64 (0)) (.bin .sub (.m 1 0) (.m 1 1)))]))], [(3, .m [(.c (.sl [])), (.mk (.int .u64 (0)) (.bin .sub (.m 1 0) (.m 1 1)))])]⟩)
(.seq
(.seq
(.reg ⟨[], [], [(4, .v (.c (.int .i64 (0))))]⟩)
(.block 0
 (.loop [0, 1, 2, 3, 4]
  (.seq
  (.seq
  (.reg ⟨[], [], [(5, .v (.bin .lss (.s 4) (.m 1 1)))]⟩)
  (.cond (.s 5)
   .skip
   (.exit 0)))
  (.seq
  (.block 1
   (.reg ⟨[], [], [(3, .m [(.app (.m 3 0) (.lit [(.c (.int .i64 (-1)))]) 1), (.m 3 1)])]⟩))
  (.reg ⟨[], [], [(4, .v (.bin .add (.s 4) (.c (.int .i64 (1)))))]⟩))))))
(.seq
(.reg ⟨[], [], [(2, .m [(.fld (.mm 3 0 2) 0), (.fld (.mm 3 0 2) 1)])]⟩)
.ret)))),
[(2, (.ag 2))]⟩
theorem c40 : compFn Try.prog fresh sig [.fz] [] Try.f40 = some p40 := by kernel_rfl
/-- cromlech/cromlechref08.slot -/
def p41 : Fn := ⟨19, [0, 1, 2, 3, 4, 5, 6, 7, 19, 8, 9, 36, 48, 52, 51, 64, 73, 10, 11],
(.seq
(.reg ⟨[], [], [(2, .m [(.fld (.sz (.s 0) 2) 0), (.fld (.sz (.s 0) 2) 1)]), (3, .m [(.fld (.sz (.s 1) 7) 0), (.fld (.sz (.s 1) 7) 1), (.fld (.sz (.s 1) 7) 2), (.fld (.sz (.s 1) 7) 3), (.fld (.sz (.s 1) 7) 4), (.fld (.sz (.s 1) 7) 5), (.fld (.sz (.s 1) 7) 6)]), (4, .v (.c (.int .u64 (0)))), (5, .m [(.c (.sl [])), (.c (.sl []))]), (6, .v (.c (.int .i64 (0))))]⟩)
(.seq
(.reg ⟨[], [], [(7, .v (.fld (.idx (.m 2 1) (.m 3 2) 1) 0))]⟩)
(.seq
(.seq
(.reg ⟨[], [], [(8, .v (.bin .lss (.s 7) (.c (.int .i64 (0)))))]⟩)
(.cond (.s 8)
 (.seq
 (.reg ⟨[], [([], (.ag [(.c (.sl [])), (.c (.sl []))]))], [(4, .v (.c (.int .u64 (0)))), (5, .m [(.c (.sl [])), (.c (.sl []))]), (6, .v (.c (.int .i64 (6))))]⟩)
 .ret)
 .skip))
(.seq
(.reg ⟨[], [], [(9, .m [(.fld (.flds (.idx (.m 2 0) (.s 7) 2) 0 2) 0), (.fld (.flds (.idx (.m 2 0) (.s 7) 2) 0 2) 1)])]⟩)
(.seq
(.reg ⟨[], [], [(10, .v (.len (.m 9 0)))]⟩)
(.seq
(.seq
(.reg ⟨[.lt 19 [] (.bin .eql (.m 3 0) (.c (.int .i64 (3))))], [([(19, false)], (.bin .eql (.m 3 0) (.c (.int .i64 (5)))))], [(11, .v (.ite (.s 19) (.c (.bool true)) (.bin .eql (.m 3 0) (.c (.int .i64 (5))))))]⟩)
(.cond (.s 11)
 (.reg ⟨[], [], [(10, .v (.len (.m 9 1)))]⟩)
 .skip))
(.seq
(.seq
(.reg ⟨[.lt 20 [] (.bin .lss (.m 3 3) (.c (.int .i64 (0))))], [([(20, false)], (.bin .geq (.m 3 3) (.s 10)))], [(12, .v (.ite (.s 20) (.c (.bool true)) (.bin .geq (.m 3 3) (.s 10))))]⟩)
(.cond (.s 12)
 (.seq
 (.reg ⟨[], [([], (.ag [(.c (.sl [])), (.c (.sl []))]))], [(4, .v (.c (.int .u64 (0)))), (5, .m [(.c (.sl [])), (.c (.sl []))]), (6, .v (.c (.int .i64 (1))))]⟩)
 .ret)
 .skip))
(.seq
(.seq
(.reg ⟨[], [], [(14, .v (.m 3 0))]⟩)
(.block 0
 (.seq
 (.reg ⟨[], [], [(13, .v (.bin .eql (.s 14) (.c (.int .i64 (2)))))]⟩)
 (.cond (.s 13)
  (.seq
  (.reg ⟨[.call 21 [] 39 false false [(.mm 2 0 2), (.m 3 1), (.fld (.idx (.m 9 0) (.m 3 3) 1) 0)]], [], [(4, .v (.c (.int .u64 (0)))), (5, .m [(.fld (.sz (.s 21) 2) 0), (.fld (.sz (.s 21) 2) 1)]), (6, .v (.c (.int .i64 (0))))]⟩)
  .ret)
  (.seq
  (.reg ⟨[], [], [(15, .v (.bin .eql (.s 14) (.c (.int .i64 (3)))))]⟩)
  (.cond (.s 15)
   (.seq
   (.reg ⟨[], [], [(4, .v (.fld (.idx (.m 9 1) (.m 3 3) 1) 0)), (5, .m [(.fld (.mm 2 0 2) 0), (.fld (.mm 2 0 2) 1)]), (6, .v (.c (.int .i64 (0))))]⟩)
   .ret)
   (.seq
   (.reg ⟨[], [], [(16, .v (.bin .eql (.s 14) (.c (.int .i64 (4)))))]⟩)
   (.cond (.s 16)
    (.seq
    (.reg ⟨[], [], [(17, .v (.app (.c (.sl [])) (.m 9 0) 1))]⟩)
    (.seq
    (.reg ⟨[], [([], (.idx (.s 17) (.m 3 3) 1))], [(17, .v (.upd (.s 17) (.m 3 3) 0 (.fld (.idx (.m 2 1) (.m 3 1) 1) 0)))]⟩)
    (.seq
    (.reg ⟨[.call 22 [] 57 false false [(.mm 2 0 2), (.s 7), (.ag [(.one (.s 17)), (.m 9 1)])]], [], [(4, .v (.c (.int .u64 (0)))), (5, .m [(.fld (.sz (.s 22) 2) 0), (.fld (.sz (.s 22) 2) 1)]), (6, .v (.c (.int .i64 (0))))]⟩)
    .ret)))
    .skip))))))))
(.seq
(.reg ⟨[], [], [(18, .v (.app (.c (.sl [])) (.m 9 1) 1))]⟩)
(.seq
(.reg ⟨[], [([], (.idx (.s 18) (.m 3 3) 1))], [(18, .v (.upd (.s 18) (.m 3 3) 0 (.m 3 6)))]⟩)
(.seq
(.reg ⟨[.call 23 [] 57 false false [(.mm 2 0 2), (.s 7), (.ag [(.m 9 0), (.one (.s 18))])]], [], [(4, .v (.c (.int .u64 (0)))), (5, .m [(.fld (.sz (.s 23) 2) 0), (.fld (.sz (.s 23) 2) 1)]), (6, .v (.c (.int .i64 (0))))]⟩)
.ret))))))))))),
[(4, .v), (5, (.ag 2)), (6, .v)]⟩
theorem c41 : compFn Try.prog fresh sig [.fz, .fz] [] Try.f41 = some p41 := by kernel_rfl
/-- cromlech/cromlechref08.in -/
def p53 : Fn := ⟨3, [0, 1, 4],
(.seq
(.reg ⟨[], [], [(2, .v (.c (.bool false)))]⟩)
(.seq
(.reg ⟨[.lt 3 [] (.bin .geq (.s 0) (.c (.int .i64 (-1))))], [([(3, true)], (.bin .lss (.s 0) (.s 1)))], [(2, .v (.ite (.s 3) (.bin .lss (.s 0) (.s 1)) (.c (.bool false))))]⟩)
.ret)),
[(2, .v)]⟩
theorem c53 : compFn Try.prog fresh sig [.fz, .fz] [] Try.f53 = some p53 := by kernel_rfl
/-- cromlech/cromlechref08.turned -/
def p57 : Fn := ⟨7, [0, 1, 2, 3, 5, 6, 7],
(.seq
(.reg ⟨[], [], [(3, .m [(.fld (.sz (.s 0) 2) 0), (.fld (.sz (.s 0) 2) 1)]), (4, .m [(.fld (.sz (.s 2) 2) 0), (.fld (.sz (.s 2) 2) 1)]), (5, .m [(.c (.sl [])), (.c (.sl []))])]⟩)
(.seq
(.reg ⟨[], [([], (.ag [(.app (.c (.sl [])) (.m 3 0) 2), (.m 3 1)]))], [(6, .m [(.app (.c (.sl [])) (.m 3 0) 2), (.m 3 1)])]⟩)
(.seq
(.reg ⟨[], [([], (.idx (.m 6 0) (.s 1) 2))], [(6, .m [(.upd (.m 6 0) (.s 1) 0 (.mm 4 0 2)), (.m 6 1)])]⟩)
(.seq
(.reg ⟨[], [], [(5, .m [(.fld (.mm 6 0 2) 0), (.fld (.mm 6 0 2) 1)])]⟩)
.ret)))),
[(5, (.ag 2))]⟩
theorem c57 : compFn Try.prog fresh sig [.fz, .fz, .fz] [] Try.f57 = some p57 := by kernel_rfl
/-- cromlech/header.Right -/
def p70 : Fn := ⟨3, [0, 1, 2],
(.seq
(.reg ⟨[], [], [(1, .m [(.fld (.sz (.s 0) 2) 0), (.fld (.sz (.s 0) 2) 1)]), (2, .v (.c (.bool false)))]⟩)
(.seq
(.reg ⟨[.lt 3 [] (.bin .geq (.m 1 0) (.c (.int .i64 (0)))), .lt 4 [] (.ite (.s 3) (.bin .leq (.m 1 0) (.c (.int .i64 (255)))) (.c (.bool false))), .lt 5 [] (.ite (.s 4) (.bin .geq (.m 1 1) (.c (.int .i64 (0)))) (.c (.bool false)))], [([(3, true)], (.bin .leq (.m 1 0) (.c (.int .i64 (255))))), ([(4, true)], (.bin .geq (.m 1 1) (.c (.int .i64 (0))))), ([(5, true)], (.bin .leq (.m 1 1) (.m 1 0)))], [(2, .v (.ite (.s 5) (.bin .leq (.m 1 1) (.m 1 0)) (.c (.bool false))))]⟩)
.ret)),
[(2, .v)]⟩
theorem c70 : compFn Try.prog fresh sig [.fz] [] Try.f70 = some p70 := by kernel_rfl
end Vm
