/-
  MADE BY A PROGRAM: programs that the compiler makes of functions, and that it makes them.
-/
import Derived.Test.YtbmgnmjghhakhaaGs
namespace Vm
open Go
open Go.Proofs
set_option maxRecDepth 100000
/-- cromlech/cromlechref09.Canon -/
def p21 : Fn := ⟨10, [0, 1, 2, 3, 4, 11, 5, 6, 7, 18],
(.seq
(.reg ⟨[], [], [(1, .m [(.fld (.sz (.s 0) 2) 0), (.fld (.sz (.s 0) 2) 1)]), (2, .m [(.c (.sl [])), (.c (.sl []))]), (3, .v (.c (.int .i64 (0))))]⟩)
(.seq
(.reg ⟨[.call 10 [] 32 false false [(.mm 1 0 2)]], [], [(4, .v (.s 10))]⟩)
(.seq
(.seq
(.reg ⟨[], [], [(5, .v (.un .not (.s 4)))]⟩)
(.cond (.s 5)
 (.seq
 (.reg ⟨[], [([], (.ag [(.c (.sl [])), (.c (.sl []))]))], [(2, .m [(.c (.sl [])), (.c (.sl []))]), (3, .v (.c (.int .i64 (1))))]⟩)
 .ret)
 .skip))
(.seq
(.reg ⟨[.call 11 [] 24 false false [(.mm 1 0 2)]], [], [(6, .v (.s 11))]⟩)
(.seq
(.reg ⟨[], [], [(7, .m [(.c (.sl [])), (.c (.sl []))])]⟩)
(.seq
(.seq
(.reg ⟨[], [], [(8, .v (.c (.int .i64 (0))))]⟩)
(.block 0
 (.loop [0, 1, 2, 3, 4, 5, 6, 7, 8]
  (.seq
  (.seq
  (.reg ⟨[], [], [(9, .v (.bin .lss (.s 8) (.len (.s 6))))]⟩)
  (.cond (.s 9)
   .skip
   (.exit 0)))
  (.seq
  (.block 1
   (.reg ⟨[.call 12 [] 43 false false [(.s 6), (.fld (.idx (.m 1 0) (.fld (.idx (.s 6) (.s 8) 1) 0) 2) 0)]], [], [(7, .m [(.app (.m 7 0) (.lit [(.ag [(.one (.s 12)), (.fld (.idx (.m 1 0) (.fld (.idx (.s 6) (.s 8) 1) 0) 2) 1)])]) 2), (.m 7 1)])]⟩))
  (.reg ⟨[], [], [(8, .v (.bin .add (.s 8) (.c (.int .i64 (1)))))]⟩))))))
(.seq
(.reg ⟨[.call 13 [] 43 false false [(.s 6), (.m 1 1)]], [], [(7, .m [(.m 7 0), (.one (.s 13))])]⟩)
(.seq
(.reg ⟨[], [], [(2, .m [(.fld (.mm 7 0 2) 0), (.fld (.mm 7 0 2) 1)]), (3, .v (.c (.int .i64 (0))))]⟩)
.ret)))))))),
[(2, (.ag 2)), (3, .v)]⟩
theorem c21 : compFn Try.prog fresh sig [.fz] [] Try.f21 = some p21 := by kernel_rfl
/-- cromlech/cromlechref09.Order -/
def p24 : Fn := ⟨8, [0, 1, 2, 3, 9, 4, 5, 16],
(.seq
(.reg ⟨[], [], [(1, .m [(.fld (.sz (.s 0) 2) 0), (.fld (.sz (.s 0) 2) 1)]), (2, .v (.c (.sl [])))]⟩)
(.seq
(.reg ⟨[.call 8 [] 32 false false [(.mm 1 0 2)]], [], [(3, .v (.s 8))]⟩)
(.seq
(.seq
(.reg ⟨[], [], [(4, .v (.un .not (.s 3)))]⟩)
(.cond (.s 4)
 (.seq
 (.reg ⟨[], [], []⟩)
 .ret)
 .skip))
(.seq
(.reg ⟨[.call 9 [] 45 false false [(.c (.sl [])), (.m 1 1)]], [], [(5, .v (.s 9))]⟩)
(.seq
(.seq
(.reg ⟨[], [], [(6, .v (.c (.int .i64 (0))))]⟩)
(.block 0
 (.loop [0, 1, 2, 3, 4, 5, 6]
  (.seq
  (.seq
  (.reg ⟨[], [], [(7, .v (.bin .lss (.s 6) (.len (.s 5))))]⟩)
  (.cond (.s 7)
   .skip
   (.exit 0)))
  (.seq
  (.block 1
   (.reg ⟨[.call 10 [] 45 false false [(.s 5), (.fld (.idx (.m 1 0) (.fld (.idx (.s 5) (.s 6) 1) 0) 2) 0)]], [], [(5, .v (.s 10))]⟩))
  (.reg ⟨[], [], [(6, .v (.bin .add (.s 6) (.c (.int .i64 (1)))))]⟩))))))
(.seq
(.reg ⟨[], [], [(2, .v (.s 5))]⟩)
.ret)))))),
[(2, .v)]⟩
theorem c24 : compFn Try.prog fresh sig [.fz] [] Try.f24 = some p24 := by kernel_rfl
/-- cromlech/cromlechref09.Alike -/
def p27 : Fn := ⟨23, [0, 1, 2, 3, 4, 5, 6, 26, 7, 8, 31, 9, 10, 50, 11, 12, 54, 68, 71, 13, 14, 15, 16],
(.seq
(.reg ⟨[], [], [(2, .m [(.fld (.sz (.s 0) 2) 0), (.fld (.sz (.s 0) 2) 1)]), (3, .m [(.fld (.sz (.s 1) 2) 0), (.fld (.sz (.s 1) 2) 1)]), (4, .v (.c (.bool false)))]⟩)
(.seq
(.reg ⟨[.call 23 [] 32 false false [(.mm 2 0 2)]], [], [(5, .v (.s 23))]⟩)
(.seq
(.reg ⟨[.call 24 [] 32 false false [(.mm 3 0 2)]], [], [(6, .v (.s 24))]⟩)
(.seq
(.seq
(.reg ⟨[.lt 25 [] (.un .not (.s 5))], [([(25, false)], (.un .not (.s 6)))], [(7, .v (.ite (.s 25) (.c (.bool true)) (.un .not (.s 6))))]⟩)
(.cond (.s 7)
 (.seq
 (.reg ⟨[], [], [(4, .v (.c (.bool false)))]⟩)
 .ret)
 .skip))
(.seq
(.reg ⟨[], [], [(8, .v (.c (.sl [])))]⟩)
(.seq
(.seq
(.reg ⟨[], [], [(9, .v (.c (.int .i64 (0))))]⟩)
(.block 0
 (.loop [0, 1, 2, 3, 4, 5, 6, 7, 8, 9]
  (.seq
  (.seq
  (.reg ⟨[], [], [(10, .v (.bin .lss (.s 9) (.len (.m 2 0))))]⟩)
  (.cond (.s 10)
   .skip
   (.exit 0)))
  (.seq
  (.block 1
   (.reg ⟨[], [], [(8, .v (.app (.s 8) (.lit [(.c (.int .i64 (-1)))]) 1))]⟩))
  (.reg ⟨[], [], [(9, .v (.bin .add (.s 9) (.c (.int .i64 (1)))))]⟩))))))
(.seq
(.reg ⟨[.call 26 [] 51 false false [(.s 8), (.m 2 1), (.m 3 1)]], [], [(8, .v (.ext (.s 26) 0)), (11, .v (.fl (.ext (.s 26) 1)))]⟩)
(.seq
(.reg ⟨[], [], [(12, .v (.mk (.bool false) (.len (.m 2 0))))]⟩)
(.seq
(.block 2
 (.loop [0, 1, 2, 3, 4, 5, 6, 7, 8, 9, 10, 11, 12]
  (.seq
  (.seq
  (.reg ⟨[], [], [(13, .v (.s 11))]⟩)
  (.cond (.s 13)
   .skip
   (.exit 2)))
  (.block 3
   (.seq
   (.reg ⟨[], [], [(14, .v (.c (.int .i64 (-1))))]⟩)
   (.seq
   (.seq
   (.reg ⟨[], [], [(15, .v (.c (.int .i64 (0))))]⟩)
   (.block 4
    (.loop [0, 1, 2, 3, 4, 5, 6, 7, 8, 9, 10, 11, 12, 13, 14, 15]
     (.seq
     (.seq
     (.reg ⟨[], [], [(16, .v (.bin .lss (.s 15) (.len (.s 8))))]⟩)
     (.cond (.s 16)
      .skip
      (.exit 4)))
     (.seq
     (.block 5
      (.seq
      (.reg ⟨[.lt 27 [] (.bin .geq (.fld (.idx (.s 8) (.s 15) 1) 0) (.c (.int .i64 (0))))], [([(27, true)], (.un .not (.fld (.idx (.s 12) (.s 15) 1) 0)))], [(17, .v (.ite (.s 27) (.un .not (.fld (.idx (.s 12) (.s 15) 1) 0)) (.c (.bool false))))]⟩)
      (.cond (.s 17)
       (.reg ⟨[], [], [(14, .v (.s 15))]⟩)
       .skip)))
     (.reg ⟨[], [], [(15, .v (.bin .add (.s 15) (.c (.int .i64 (1)))))]⟩))))))
   (.seq
   (.seq
   (.reg ⟨[], [], [(18, .v (.bin .lss (.s 14) (.c (.int .i64 (0)))))]⟩)
   (.cond (.s 18)
    (.seq
    (.reg ⟨[], [], [(4, .v (.c (.bool true)))]⟩)
    .ret)
    .skip))
   (.seq
   (.reg ⟨[], [([], (.idx (.s 12) (.s 14) 1))], [(12, .v (.upd (.s 12) (.s 14) 0 (.c (.bool true))))]⟩)
   (.seq
   (.reg ⟨[], [], [(19, .m [(.fld (.flds (.idx (.m 2 0) (.s 14) 2) 0 2) 0), (.fld (.flds (.idx (.m 2 0) (.s 14) 2) 0 2) 1)])]⟩)
   (.seq
   (.reg ⟨[], [], [(20, .m [(.fld (.flds (.idx (.m 3 0) (.fld (.idx (.s 8) (.s 14) 1) 0) 2) 0 2) 0), (.fld (.flds (.idx (.m 3 0) (.fld (.idx (.s 8) (.s 14) 1) 0) 2) 0 2) 1)])]⟩)
   (.seq
   (.reg ⟨[.call 28 [] 51 false false [(.s 8), (.m 19 0), (.m 20 0)]], [], [(21, .v (.ext (.s 28) 0)), (22, .v (.ext (.s 28) 1))]⟩)
   (.seq
   (.reg ⟨[], [], [(8, .v (.s 21))]⟩)
   (.reg ⟨[.lt 29 [] (.s 22), .call 30 [(29, true)] 46 false false [(.m 19 1), (.m 20 1)]], [], [(11, .v (.ite (.s 29) (.s 30) (.c (.bool false))))]⟩)))))))))))))
(.seq
(.reg ⟨[], [], [(4, .v (.c (.bool false)))]⟩)
.ret)))))))))),
[(4, .v)]⟩
theorem c27 : compFn Try.prog fresh sig [.fz, .fz] [] Try.f27 = some p27 := by kernel_rfl
/-- cromlech/cromlechref09.named -/
def p43 : Fn := ⟨6, [0, 1, 4, 5, 6, 10],
(.seq
(.reg ⟨[], [], [(2, .v (.c (.sl [])))]⟩)
(.seq
(.reg ⟨[], [], [(3, .v (.c (.sl [])))]⟩)
(.seq
(.seq
(.reg ⟨[], [], [(4, .v (.c (.int .i64 (0))))]⟩)
(.block 0
 (.loop [0, 1, 2, 3, 4]
  (.seq
  (.seq
  (.reg ⟨[], [], [(5, .v (.bin .lss (.s 4) (.len (.s 1))))]⟩)
  (.cond (.s 5)
   .skip
   (.exit 0)))
  (.seq
  (.block 1
   (.reg ⟨[.call 6 [] 59 false false [(.s 0), (.fld (.idx (.s 1) (.s 4) 1) 0)]], [], [(3, .v (.app (.s 3) (.lit [(.one (.s 6))]) 1))]⟩))
  (.reg ⟨[], [], [(4, .v (.bin .add (.s 4) (.c (.int .i64 (1)))))]⟩))))))
(.seq
(.reg ⟨[], [], [(2, .v (.s 3)), (3, .no)]⟩)
.ret)))),
[(2, .v)]⟩
theorem c43 : compFn Try.prog fresh sig [.fz, .fz] [] Try.f43 = some p43 := by kernel_rfl
/-- cromlech/cromlechref09.more -/
def p45 : Fn := ⟨7, [0, 1, 4, 5, 6, 12, 28],
(.seq
(.reg ⟨[], [], [(2, .v (.c (.sl [])))]⟩)
(.seq
(.reg ⟨[], [], [(3, .v (.app (.c (.sl [])) (.s 0) 1))]⟩)
(.seq
(.seq
(.reg ⟨[], [], [(4, .v (.c (.int .i64 (0))))]⟩)
(.block 0
 (.loop [0, 1, 2, 3, 4]
  (.seq
  (.seq
  (.reg ⟨[], [], [(5, .v (.bin .lss (.s 4) (.len (.s 1))))]⟩)
  (.cond (.s 5)
   .skip
   (.exit 0)))
  (.seq
  (.block 1
   (.seq
   (.reg ⟨[.lt 7 [] (.bin .geq (.fld (.idx (.s 1) (.s 4) 1) 0) (.c (.int .i64 (0)))), .call 8 [(7, true)] 59 false true [(.s 3), (.fld (.idx (.s 1) (.s 4) 1) 0)]], [([(7, true)], (.bin .lss (.s 8) (.c (.int .i64 (0)))))], [(6, .v (.ite (.s 7) (.bin .lss (.s 8) (.c (.int .i64 (0)))) (.c (.bool false))))]⟩)
   (.cond (.s 6)
    (.reg ⟨[], [], [(3, .v (.app (.s 3) (.lit [(.fld (.idx (.s 1) (.s 4) 1) 0)]) 1))]⟩)
    .skip)))
  (.reg ⟨[], [], [(4, .v (.bin .add (.s 4) (.c (.int .i64 (1)))))]⟩))))))
(.seq
(.reg ⟨[], [], [(2, .v (.s 3)), (3, .no)]⟩)
.ret)))),
[(2, .v)]⟩
theorem c45 : compFn Try.prog fresh sig [.fz, .fz] [] Try.f45 = some p45 := by kernel_rfl
/-- cromlech/cromlechref09.all -/
def p51 : Fn := ⟨12, [0, 1, 2, 6, 7, 16, 8, 9, 22, 10, 11, 39],
(.seq
(.reg ⟨[], [], [(3, .v (.c (.sl []))), (4, .v (.c (.bool false)))]⟩)
(.seq
(.seq
(.reg ⟨[], [], [(5, .v (.bin .neq (.len (.s 1)) (.len (.s 2))))]⟩)
(.cond (.s 5)
 (.seq
 (.reg ⟨[], [], [(3, .v (.s 0)), (4, .v (.c (.bool false)))]⟩)
 .ret)
 .skip))
(.seq
(.reg ⟨[], [], [(6, .v (.s 0))]⟩)
(.seq
(.seq
(.reg ⟨[], [], [(7, .v (.c (.int .i64 (0))))]⟩)
(.block 0
 (.loop [0, 1, 2, 3, 4, 5, 6, 7]
  (.seq
  (.seq
  (.reg ⟨[], [], [(8, .v (.bin .lss (.s 7) (.len (.s 1))))]⟩)
  (.cond (.s 8)
   .skip
   (.exit 0)))
  (.seq
  (.block 1
   (.seq
   (.reg ⟨[.call 12 [] 61 false false [(.s 6), (.fld (.idx (.s 1) (.s 7) 1) 0), (.fld (.idx (.s 2) (.s 7) 1) 0)]], [], [(9, .v (.ext (.s 12) 0)), (10, .v (.ext (.s 12) 1))]⟩)
   (.seq
   (.seq
   (.reg ⟨[], [], [(11, .v (.un .not (.s 10)))]⟩)
   (.cond (.s 11)
    (.seq
    (.reg ⟨[], [], [(3, .v (.s 0)), (4, .v (.c (.bool false)))]⟩)
    .ret)
    .skip))
   (.reg ⟨[], [], [(6, .v (.s 9))]⟩))))
  (.reg ⟨[], [], [(7, .v (.bin .add (.s 7) (.c (.int .i64 (1)))))]⟩))))))
(.seq
(.reg ⟨[], [], [(3, .v (.s 6)), (4, .v (.c (.bool true)))]⟩)
.ret))))),
[(3, .v), (4, .v)]⟩
theorem c51 : compFn Try.prog fresh sig [.fz, .fz, .fz] [] Try.f51 = some p51 := by kernel_rfl
/-- cromlech/cromlechref09.place -/
def p59 : Fn := ⟨6, [0, 1, 4, 5, 9, 17],
(.seq
(.reg ⟨[], [], [(2, .v (.c (.int .i64 (0))))]⟩)
(.seq
(.seq
(.reg ⟨[], [], [(3, .v (.c (.int .i64 (0))))]⟩)
(.block 0
 (.loop [0, 1, 2, 3]
  (.seq
  (.seq
  (.reg ⟨[], [], [(4, .v (.bin .lss (.s 3) (.len (.s 0))))]⟩)
  (.cond (.s 4)
   .skip
   (.exit 0)))
  (.seq
  (.block 1
   (.seq
   (.reg ⟨[], [], [(5, .v (.bin .eql (.fld (.idx (.s 0) (.s 3) 1) 0) (.s 1)))]⟩)
   (.cond (.s 5)
    (.seq
    (.reg ⟨[], [], [(2, .v (.s 3))]⟩)
    .ret)
    .skip)))
  (.reg ⟨[], [], [(3, .v (.bin .add (.s 3) (.c (.int .i64 (1)))))]⟩))))))
(.seq
(.reg ⟨[], [], [(2, .v (.c (.int .i64 (-1))))]⟩)
.ret))),
[(2, .v)]⟩
theorem c59 : compFn Try.prog fresh sig [.fz, .fz] [] Try.f59 = some p59 := by kernel_rfl
/-- cromlech/cromlechref09.beside -/
def p61 : Fn := ⟨8, [0, 1, 2, 6, 7, 14, 29, 8],
(.seq
(.reg ⟨[], [], [(3, .v (.c (.sl []))), (4, .v (.c (.bool false)))]⟩)
(.seq
(.seq
(.reg ⟨[.lt 8 [] (.bin .lss (.s 1) (.c (.int .i64 (0))))], [([(8, false)], (.bin .lss (.s 2) (.c (.int .i64 (0)))))], [(5, .v (.ite (.s 8) (.c (.bool true)) (.bin .lss (.s 2) (.c (.int .i64 (0))))))]⟩)
(.cond (.s 5)
 (.seq
 (.reg ⟨[], [], [(3, .v (.s 0)), (4, .v (.bin .eql (.s 1) (.s 2)))]⟩)
 .ret)
 .skip))
(.seq
(.seq
(.reg ⟨[.lt 9 [] (.bin .geq (.fld (.idx (.s 0) (.s 1) 1) 0) (.c (.int .i64 (0)))), .call 10 [(9, false)] 59 false false [(.s 0), (.s 2)]], [([(9, false)], (.bin .geq (.s 10) (.c (.int .i64 (0)))))], [(6, .v (.ite (.s 9) (.c (.bool true)) (.bin .geq (.s 10) (.c (.int .i64 (0))))))]⟩)
(.cond (.s 6)
 (.seq
 (.reg ⟨[], [], [(3, .v (.s 0)), (4, .v (.bin .eql (.fld (.idx (.s 0) (.s 1) 1) 0) (.s 2)))]⟩)
 .ret)
 .skip))
(.seq
(.reg ⟨[], [], [(7, .v (.app (.c (.sl [])) (.s 0) 1))]⟩)
(.seq
(.reg ⟨[], [([], (.idx (.s 7) (.s 1) 1))], [(7, .v (.upd (.s 7) (.s 1) 0 (.one (.s 2))))]⟩)
(.seq
(.reg ⟨[], [], [(3, .v (.s 7)), (4, .v (.c (.bool true))), (7, .no)]⟩)
.ret)))))),
[(3, .v), (4, .v)]⟩
theorem c61 : compFn Try.prog fresh sig [.fz, .fz, .fz] [] Try.f61 = some p61 := by kernel_rfl
end Vm
