import Derived.Test.YtabidcdfmkkegaaAvL3
import Derived.Test.YtabidcdfmkkegaaProg
import Derived.KernelRfl

set_option maxRecDepth 100000
namespace Go.Proofs.Ytabidcdfmkkegaa
open Go.Av
/-- bilander/bilanderlaw01.VarnumZigs -/
def ac3 : AC :=
 (.seq
  (.reg [⟨(some 4), none, .mv (.c (.bool false))⟩])
  (.seq
   (.reg [⟨(some 5), none, .mv (.t 0)⟩,
     ⟨(some 6), none, .call 13 [(.t 5)]⟩,
     ⟨(some 7), none, .mv (.t 0)⟩,
     ⟨(some 8), none, .call 14 [(.t 7)]⟩,
     ⟨(some 9), none, .bin .eql (.t 6) (.t 8)⟩,
     ⟨(some 10), none, .take 9⟩,
     ⟨(some 11), (some (10, true)), .mv (.t 1)⟩,
     ⟨(some 12), (some (10, true)), .call 15 [(.t 11)]⟩,
     ⟨(some 13), (some (10, true)), .mv (.t 1)⟩,
     ⟨(some 14), (some (10, true)), .call 16 [(.t 13)]⟩,
     ⟨(some 15), (some (10, true)), .bin .eql (.t 12) (.t 14)⟩,
     ⟨(some 16), none, .pick (.t 10) (.t 15) (.c (.bool false))⟩,
     ⟨(some 17), none, .take 16⟩,
     ⟨(some 18), (some (17, true)), .call 17 []⟩,
     ⟨(some 19), none, .pick (.t 17) (.t 18) (.c (.bool false))⟩,
     ⟨(some 4), none, .take 19⟩])
   .ret))
def ar3 : List AR := [.t 4]
theorem comp3 : Try.f3.body.bind (comp Try.prog 20) = some ac3 := by kernel_rfl
theorem cres3 : compRes Try.prog Try.f3.results.toList = some ar3 := by kernel_rfl
/-- bilander/bilanderlaw01.VarnumPuts -/
def ac4 : AC :=
 (.seq
  (.reg [⟨(some 6), none, .mv (.c (.bool false))⟩])
  (.seq
   (.dreg [] [⟨(some 7), none, .mv (.t 0)⟩,
     ⟨(some 8), none, .call 18 [(.t 7)]⟩,
     ⟨(some 9), none, .b2s (.t 8)⟩,
     ⟨(some 10), none, .mv (.t 0)⟩,
     ⟨(some 11), none, .call 19 [(.t 10)]⟩,
     ⟨(some 12), none, .b2s (.t 11)⟩,
     ⟨(some 13), none, .bin .eql (.t 9) (.t 12)⟩,
     ⟨(some 14), none, .mv (.t 13)⟩,
     ⟨(some 15), (some (14, true)), .mv (.t 1)⟩,
     ⟨(some 16), (some (14, true)), .mv (.t 2)⟩,
     ⟨(some 17), (some (14, true)), .call 20 [(.t 15), (.t 16)]⟩,
     ⟨(some 18), (some (14, true)), .b2s (.t 17)⟩,
     ⟨(some 19), (some (14, true)), .mv (.t 1)⟩,
     ⟨(some 20), (some (14, true)), .mv (.t 2)⟩,
     ⟨(some 21), (some (14, true)), .call 21 [(.t 19), (.t 20)]⟩,
     ⟨(some 22), (some (14, true)), .b2s (.t 21)⟩,
     ⟨(some 23), (some (14, true)), .bin .eql (.t 18) (.t 22)⟩,
     ⟨(some 24), none, .pick (.t 14) (.t 23) (.c (.bool false))⟩,
     ⟨(some 25), none, .mv (.t 24)⟩,
     ⟨(some 26), (some (25, true)), .call 17 []⟩,
     ⟨(some 27), none, .pick (.t 25) (.t 26) (.c (.bool false))⟩,
     ⟨(some 6), none, .take 27⟩])
   .ret))
def ar4 : List AR := [.t 6]
theorem comp4 : Try.f4.body.bind (comp Try.prog 28) = some ac4 := by kernel_rfl
theorem cres4 : compRes Try.prog Try.f4.results.toList = some ar4 := by kernel_rfl
/-- bilander/bilanderlaw01.VarnumGets -/
def ac5 : AC :=
 (.seq
  (.reg [⟨(some 2), none, .mv (.c (.bool false))⟩])
  (.seq
   (.seq
    (.reg [⟨(some 9), none, .mv (.t 0)⟩,
      ⟨(some 10), none, .len false (.t 9)⟩,
      ⟨(some 11), none, .bin .gtr (.t 10) (.c (.int .i64 100))⟩])
    (.cond (.t 11)
     (.seq
      (.reg [⟨(some 12), none, .call 17 []⟩,
        ⟨(some 2), none, .take 12⟩])
      .ret)
     .skip))
   (.seq
    (.reg [⟨(some 14), none, .mv (.t 0)⟩,
      ⟨(some 15), none, .call 22 [(.t 14)]⟩,
      ⟨(some 13), none, .take 15⟩,
      ⟨(some 16), none, .ext 13 0⟩,
      ⟨(some 17), none, .ext 13 1⟩,
      ⟨(some 18), none, .ext 13 2⟩,
      ⟨(some 3), none, .take 16⟩,
      ⟨(some 4), none, .take 17⟩,
      ⟨(some 5), none, .take 18⟩])
    (.seq
     (.reg [⟨(some 20), none, .mv (.t 0)⟩,
       ⟨(some 21), none, .call 23 [(.t 20)]⟩,
       ⟨(some 19), none, .take 21⟩,
       ⟨(some 22), none, .ext 19 0⟩,
       ⟨(some 23), none, .ext 19 1⟩,
       ⟨(some 24), none, .ext 19 2⟩,
       ⟨(some 6), none, .take 22⟩,
       ⟨(some 7), none, .take 23⟩,
       ⟨(some 8), none, .take 24⟩])
     (.seq
      (.reg [⟨(some 25), none, .mv (.t 3)⟩,
        ⟨(some 26), none, .mv (.t 6)⟩,
        ⟨(some 27), none, .bin .eql (.t 25) (.t 26)⟩,
        ⟨(some 28), none, .take 27⟩,
        ⟨(some 29), (some (28, true)), .mv (.t 4)⟩,
        ⟨(some 30), (some (28, true)), .mv (.t 7)⟩,
        ⟨(some 31), (some (28, true)), .bin .eql (.t 29) (.t 30)⟩,
        ⟨(some 32), none, .pick (.t 28) (.t 31) (.c (.bool false))⟩,
        ⟨(some 33), none, .take 32⟩,
        ⟨(some 34), (some (33, true)), .mv (.t 5)⟩,
        ⟨(some 35), (some (33, true)), .mv (.t 8)⟩,
        ⟨(some 36), (some (33, true)), .bin .eql (.t 34) (.t 35)⟩,
        ⟨(some 37), none, .pick (.t 33) (.t 36) (.c (.bool false))⟩,
        ⟨(some 38), none, .take 37⟩,
        ⟨(some 39), (some (38, true)), .mv (.t 0)⟩,
        ⟨(some 40), (some (38, true)), .call 24 [(.t 39)]⟩,
        ⟨(some 41), (some (38, true)), .mv (.t 0)⟩,
        ⟨(some 42), (some (38, true)), .call 25 [(.t 41)]⟩,
        ⟨(some 43), (some (38, true)), .bin .eql (.t 40) (.t 42)⟩,
        ⟨(some 44), none, .pick (.t 38) (.t 43) (.c (.bool false))⟩,
        ⟨(some 45), none, .take 44⟩,
        ⟨(some 46), (some (45, true)), .call 17 []⟩,
        ⟨(some 47), none, .pick (.t 45) (.t 46) (.c (.bool false))⟩,
        ⟨(some 2), none, .take 47⟩])
      .ret)))))
def ar5 : List AR := [.t 2]
theorem comp5 : Try.f5.body.bind (comp Try.prog 48) = some ac5 := by kernel_rfl
theorem cres5 : compRes Try.prog Try.f5.results.toList = some ar5 := by kernel_rfl
/-- bilander/bilanderlaw01.VarnumBack -/
def ac6 : AC :=
 (.seq
  (.reg [⟨(some 4), none, .mv (.c (.bool false))⟩])
  (.seq
   (.seq
    (.reg [⟨(some 12), none, .mv (.t 1)⟩,
      ⟨(some 13), none, .len false (.t 12)⟩,
      ⟨(some 14), none, .bin .gtr (.t 13) (.c (.int .i64 100))⟩])
    (.cond (.t 14)
     (.seq
      (.reg [⟨(some 15), none, .call 17 []⟩,
        ⟨(some 4), none, .take 15⟩])
      .ret)
     .skip))
   (.seq
    (.reg [⟨(some 16), none, .mv (.t 0)⟩,
      ⟨(some 17), none, .call 18 [(.t 16)]⟩,
      ⟨(some 5), none, .take 17⟩])
    (.seq
     (.seq
      (.reg [⟨(some 18), none, .mv (.t 5)⟩,
        ⟨(some 19), none, .len false (.t 18)⟩,
        ⟨(some 20), none, .bin .lss (.t 19) (.c (.int .i64 1))⟩,
        ⟨(some 21), none, .take 20⟩,
        ⟨(some 22), (some (21, false)), .mv (.t 5)⟩,
        ⟨(some 23), (some (21, false)), .len false (.t 22)⟩,
        ⟨(some 24), (some (21, false)), .bin .gtr (.t 23) (.c (.int .i64 10))⟩,
        ⟨(some 25), none, .pick (.t 21) (.c (.bool true)) (.t 24)⟩])
      (.cond (.t 25)
       (.seq
        (.reg [⟨(some 4), none, .mv (.c (.bool false))⟩])
        .ret)
       .skip))
     (.seq
      (.reg [⟨(some 27), none, .bsl 1 0 [(.int .u8 0)] []⟩,
        ⟨(some 28), none, .mv (.t 5)⟩,
        ⟨(some 29), none, .app 1 1 27 (.t 28)⟩,
        ⟨(some 30), none, .mv (.t 1)⟩,
        ⟨(some 31), none, .app 1 1 29 (.t 30)⟩,
        ⟨(some 32), none, .call 22 [(.t 31)]⟩,
        ⟨(some 26), none, .take 32⟩,
        ⟨(some 33), none, .ext 26 0⟩,
        ⟨(some 34), none, .ext 26 1⟩,
        ⟨(some 35), none, .ext 26 2⟩,
        ⟨(some 6), none, .take 33⟩,
        ⟨(some 7), none, .take 34⟩,
        ⟨(some 8), none, .take 35⟩])
      (.seq
       (.reg [⟨(some 37), none, .mv (.t 5)⟩,
         ⟨(some 38), none, .mv (.t 5)⟩,
         ⟨(some 39), none, .len false (.t 38)⟩,
         ⟨(some 40), none, .bin .sub (.t 39) (.c (.int .i64 1))⟩,
         ⟨(some 41), none, .slc false 1 (.t 37) none (some (.t 40))⟩,
         ⟨(some 42), none, .call 22 [(.t 41)]⟩,
         ⟨(some 36), none, .take 42⟩,
         ⟨(some 43), none, .ext 36 0⟩,
         ⟨(some 44), none, .ext 36 1⟩,
         ⟨(some 45), none, .ext 36 2⟩,
         ⟨(some 9), none, .take 43⟩,
         ⟨(some 10), none, .take 44⟩,
         ⟨(some 11), none, .take 45⟩])
       (.seq
        (.reg [⟨(some 46), none, .mv (.t 6)⟩,
          ⟨(some 47), none, .mv (.t 0)⟩,
          ⟨(some 48), none, .bin .eql (.t 46) (.t 47)⟩,
          ⟨(some 49), none, .take 48⟩,
          ⟨(some 50), (some (49, true)), .mv (.t 7)⟩,
          ⟨(some 51), (some (49, true)), .mv (.t 5)⟩,
          ⟨(some 52), (some (49, true)), .len false (.t 51)⟩,
          ⟨(some 53), (some (49, true)), .bin .eql (.t 50) (.t 52)⟩,
          ⟨(some 54), none, .pick (.t 49) (.t 53) (.c (.bool false))⟩,
          ⟨(some 55), none, .take 54⟩,
          ⟨(some 56), (some (55, true)), .mv (.t 8)⟩,
          ⟨(some 57), (some (55, true)), .bin .eql (.t 56) (.c (.int .i64 0))⟩,
          ⟨(some 58), none, .pick (.t 55) (.t 57) (.c (.bool false))⟩,
          ⟨(some 59), none, .take 58⟩,
          ⟨(some 60), (some (59, true)), .mv (.t 11)⟩,
          ⟨(some 61), (some (59, true)), .bin .eql (.t 60) (.c (.int .i64 3))⟩,
          ⟨(some 62), none, .pick (.t 59) (.t 61) (.c (.bool false))⟩,
          ⟨(some 63), none, .take 62⟩,
          ⟨(some 64), (some (63, true)), .mv (.t 0)⟩,
          ⟨(some 65), (some (63, true)), .call 13 [(.t 64)]⟩,
          ⟨(some 66), (some (63, true)), .call 15 [(.t 65)]⟩,
          ⟨(some 67), (some (63, true)), .mv (.t 0)⟩,
          ⟨(some 68), (some (63, true)), .bin .eql (.t 66) (.t 67)⟩,
          ⟨(some 69), none, .pick (.t 63) (.t 68) (.c (.bool false))⟩,
          ⟨(some 70), none, .take 69⟩,
          ⟨(some 71), (some (70, true)), .call 17 []⟩,
          ⟨(some 72), none, .pick (.t 70) (.t 71) (.c (.bool false))⟩,
          ⟨(some 4), none, .take 72⟩])
        .ret)))))))
def ar6 : List AR := [.t 4]
theorem comp6 : Try.f6.body.bind (comp Try.prog 73) = some ac6 := by kernel_rfl
theorem cres6 : compRes Try.prog Try.f6.results.toList = some ar6 := by kernel_rfl
/-- bilander/bilanderlaw01.VarnumWidth -/
def ac7 : AC :=
 (.seq
  (.reg [⟨(some 4), none, .mv (.c (.bool false))⟩])
  (.seq
   (.reg [⟨(some 8), none, .mv (.t 1)⟩,
     ⟨(some 9), none, .bin .rem (.t 8) (.c (.int .u8 9))⟩,
     ⟨(some 10), none, .conv .i64 (.t 9)⟩,
     ⟨(some 5), none, .take 10⟩])
   (.seq
    (.reg [⟨(some 11), none, .mv (.t 0)⟩,
      ⟨(some 12), none, .mv (.t 5)⟩,
      ⟨(some 13), none, .call 20 [(.t 11), (.t 12)]⟩,
      ⟨(some 6), none, .take 13⟩])
    (.seq
     (.reg [⟨(some 14), none, .take 0⟩,
       ⟨(some 7), none, .take 14⟩])
     (.seq
      (.seq
       (.reg [⟨(some 15), none, .mv (.t 5)⟩,
         ⟨(some 16), none, .bin .lss (.t 15) (.c (.int .i64 8))⟩])
       (.cond (.t 16)
        (.reg [⟨(some 17), none, .mv (.t 0)⟩,
          ⟨(some 18), none, .mv (.t 5)⟩,
          ⟨(some 19), none, .bin .mul (.c (.int .i64 8)) (.t 18)⟩,
          ⟨(some 20), none, .bin .shl (.c (.int .u64 1)) (.t 19)⟩,
          ⟨(some 21), none, .bin .rem (.t 17) (.t 20)⟩,
          ⟨(some 7), none, .take 21⟩])
        .skip))
      (.seq
       (.dreg [] [⟨(some 22), none, .mv (.t 6)⟩,
         ⟨(some 23), none, .len false (.t 22)⟩,
         ⟨(some 24), none, .mv (.t 5)⟩,
         ⟨(some 25), none, .bin .eql (.t 23) (.t 24)⟩,
         ⟨(some 26), none, .mv (.t 25)⟩,
         ⟨(some 27), (some (26, true)), .mv (.t 6)⟩,
         ⟨(some 28), (some (26, true)), .call 24 [(.t 27)]⟩,
         ⟨(some 29), (some (26, true)), .mv (.t 7)⟩,
         ⟨(some 30), (some (26, true)), .bin .eql (.t 28) (.t 29)⟩,
         ⟨(some 31), none, .pick (.t 26) (.t 30) (.c (.bool false))⟩,
         ⟨(some 32), none, .mv (.t 31)⟩,
         ⟨(some 33), (some (32, true)), .mv (.t 7)⟩,
         ⟨(some 34), (some (32, true)), .mv (.t 5)⟩,
         ⟨(some 35), (some (32, true)), .call 20 [(.t 33), (.t 34)]⟩,
         ⟨(some 36), (some (32, true)), .b2s (.t 35)⟩,
         ⟨(some 37), (some (32, true)), .mv (.t 6)⟩,
         ⟨(some 38), (some (32, true)), .b2s (.t 37)⟩,
         ⟨(some 39), (some (32, true)), .bin .eql (.t 36) (.t 38)⟩,
         ⟨(some 40), none, .pick (.t 32) (.t 39) (.c (.bool false))⟩,
         ⟨(some 41), none, .mv (.t 40)⟩,
         ⟨(some 42), (some (41, true)), .call 17 []⟩,
         ⟨(some 43), none, .pick (.t 41) (.t 42) (.c (.bool false))⟩,
         ⟨(some 4), none, .take 43⟩])
       .ret))))))
def ar7 : List AR := [.t 4]
theorem comp7 : Try.f7.body.bind (comp Try.prog 44) = some ac7 := by kernel_rfl
theorem cres7 : compRes Try.prog Try.f7.results.toList = some ar7 := by kernel_rfl
/-- bilander/varnum.Zigzag -/
def ac13 : AC :=
 (.seq
  (.reg [⟨(some 2), none, .mv (.c (.int .u64 0))⟩])
  (.seq
   (.reg [⟨(some 3), none, .mv (.t 0)⟩,
     ⟨(some 4), none, .conv .u64 (.t 3)⟩,
     ⟨(some 5), none, .bin .shl (.t 4) (.c (.int .u64 1))⟩,
     ⟨(some 6), none, .mv (.t 0)⟩,
     ⟨(some 7), none, .bin .shr (.t 6) (.c (.int .u64 63))⟩,
     ⟨(some 8), none, .conv .u64 (.t 7)⟩,
     ⟨(some 9), none, .bin .xor (.t 5) (.t 8)⟩,
     ⟨(some 2), none, .take 9⟩])
   .ret))
def ar13 : List AR := [.t 2]
theorem comp13 : Try.f13.body.bind (comp Try.prog 10) = some ac13 := by kernel_rfl
theorem cres13 : compRes Try.prog Try.f13.results.toList = some ar13 := by kernel_rfl
/-- bilander/bilanderref01.Zigzag -/
def ac14 : AC :=
 (.seq
  (.reg [⟨(some 2), none, .mv (.c (.int .u64 0))⟩])
  (.seq
   (.seq
    (.reg [⟨(some 3), none, .mv (.t 0)⟩,
      ⟨(some 4), none, .bin .geq (.t 3) (.c (.int .i64 0))⟩])
    (.cond (.t 4)
     (.seq
      (.reg [⟨(some 5), none, .mv (.t 0)⟩,
        ⟨(some 6), none, .conv .u64 (.t 5)⟩,
        ⟨(some 7), none, .bin .mul (.c (.int .u64 2)) (.t 6)⟩,
        ⟨(some 2), none, .take 7⟩])
      .ret)
     .skip))
   (.seq
    (.reg [⟨(some 8), none, .mv (.t 0)⟩,
      ⟨(some 9), none, .bin .add (.t 8) (.c (.int .i64 1))⟩,
      ⟨(some 10), none, .una .neg (.t 9)⟩,
      ⟨(some 11), none, .conv .u64 (.t 10)⟩,
      ⟨(some 12), none, .bin .mul (.c (.int .u64 2)) (.t 11)⟩,
      ⟨(some 13), none, .bin .add (.t 12) (.c (.int .u64 1))⟩,
      ⟨(some 2), none, .take 13⟩])
    .ret)))
def ar14 : List AR := [.t 2]
theorem comp14 : Try.f14.body.bind (comp Try.prog 14) = some ac14 := by kernel_rfl
theorem cres14 : compRes Try.prog Try.f14.results.toList = some ar14 := by kernel_rfl
/-- bilander/varnum.Zagzig -/
def ac15 : AC :=
 (.seq
  (.reg [⟨(some 2), none, .mv (.c (.int .i64 0))⟩])
  (.seq
   (.reg [⟨(some 3), none, .mv (.t 0)⟩,
     ⟨(some 4), none, .bin .shr (.t 3) (.c (.int .u64 1))⟩,
     ⟨(some 5), none, .conv .i64 (.t 4)⟩,
     ⟨(some 6), none, .mv (.t 0)⟩,
     ⟨(some 7), none, .bin .and (.t 6) (.c (.int .u64 1))⟩,
     ⟨(some 8), none, .conv .i64 (.t 7)⟩,
     ⟨(some 9), none, .una .neg (.t 8)⟩,
     ⟨(some 10), none, .bin .xor (.t 5) (.t 9)⟩,
     ⟨(some 2), none, .take 10⟩])
   .ret))
def ar15 : List AR := [.t 2]
theorem comp15 : Try.f15.body.bind (comp Try.prog 11) = some ac15 := by kernel_rfl
theorem cres15 : compRes Try.prog Try.f15.results.toList = some ar15 := by kernel_rfl
/-- bilander/bilanderref01.Zagzig -/
def ac16 : AC :=
 (.seq
  (.reg [⟨(some 2), none, .mv (.c (.int .i64 0))⟩])
  (.seq
   (.seq
    (.reg [⟨(some 3), none, .mv (.t 0)⟩,
      ⟨(some 4), none, .bin .rem (.t 3) (.c (.int .u64 2))⟩,
      ⟨(some 5), none, .bin .eql (.t 4) (.c (.int .u64 0))⟩])
    (.cond (.t 5)
     (.seq
      (.reg [⟨(some 6), none, .mv (.t 0)⟩,
        ⟨(some 7), none, .bin .quo (.t 6) (.c (.int .u64 2))⟩,
        ⟨(some 8), none, .conv .i64 (.t 7)⟩,
        ⟨(some 2), none, .take 8⟩])
      .ret)
     .skip))
   (.seq
    (.reg [⟨(some 9), none, .mv (.t 0)⟩,
      ⟨(some 10), none, .bin .quo (.t 9) (.c (.int .u64 2))⟩,
      ⟨(some 11), none, .conv .i64 (.t 10)⟩,
      ⟨(some 12), none, .una .neg (.t 11)⟩,
      ⟨(some 13), none, .bin .sub (.t 12) (.c (.int .i64 1))⟩,
      ⟨(some 2), none, .take 13⟩])
    .ret)))
def ar16 : List AR := [.t 2]
theorem comp16 : Try.f16.body.bind (comp Try.prog 14) = some ac16 := by kernel_rfl
theorem cres16 : compRes Try.prog Try.f16.results.toList = some ar16 := by kernel_rfl
/-- bilander/bilanderlaw01.awake -/
def ac17 : AC :=
 (.seq
  (.reg [⟨(some 0), none, .mv (.c (.bool false))⟩])
  (.seq
   (.reg [⟨(some 2), none, .bsl 1 7 [(.int .u8 0)] [(0, (.c (.int .u8 4))), (1, (.c (.int .u8 97))), (2, (.c (.int .u8 98))), (3, (.c (.int .u8 128))), (4, (.c (.int .u8 1))), (5, (.c (.int .u8 0))), (6, (.c (.int .u8 9)))]⟩,
     ⟨(some 3), none, .mark 2⟩,
     ⟨(some 4), none, .callN 26 [(.t 3)]⟩,
     ⟨(some 1), none, .take 4⟩])
   (.seq
    (.reg [⟨(some 5), none, .call 18 [(.c (.int .i64 (-1)))]⟩,
      ⟨(some 6), none, .b2s (.t 5)⟩,
      ⟨(some 7), none, .bin .eql (.t 6) (.c (.str (ByteArray.mk #[1])))⟩,
      ⟨(some 8), none, .take 7⟩,
      ⟨(some 9), (some (8, true)), .call 18 [(.c (.int .i64 64))]⟩,
      ⟨(some 10), (some (8, true)), .b2s (.t 9)⟩,
      ⟨(some 11), (some (8, true)), .bin .eql (.t 10) (.c (.str (ByteArray.mk #[128, 1])))⟩,
      ⟨(some 12), none, .pick (.t 8) (.t 11) (.c (.bool false))⟩,
      ⟨(some 13), none, .take 12⟩,
      ⟨(some 14), (some (13, true)), .call 37 [(.c (.str (ByteArray.mk #[97, 98])))]⟩,
      ⟨(some 15), (some (13, true)), .b2s (.t 14)⟩,
      ⟨(some 16), (some (13, true)), .bin .eql (.t 15) (.c (.str (ByteArray.mk #[4, 97, 98])))⟩,
      ⟨(some 17), none, .pick (.t 13) (.t 16) (.c (.bool false))⟩,
      ⟨(some 18), none, .take 17⟩,
      ⟨(some 19), (some (18, true)), .call 20 [(.c (.int .u64 258)), (.c (.int .i64 3))]⟩,
      ⟨(some 20), (some (18, true)), .b2s (.t 19)⟩,
      ⟨(some 21), (some (18, true)), .bin .eql (.t 20) (.c (.str (ByteArray.mk #[0, 1, 2])))⟩,
      ⟨(some 22), none, .pick (.t 18) (.t 21) (.c (.bool false))⟩,
      ⟨(some 23), none, .take 22⟩,
      ⟨(some 24), (some (23, true)), .mv (.t 1)⟩,
      ⟨(some 25), (some (23, true)), .callE 32 (.t 24) [(.c (.int .i64 9))]⟩,
      ⟨(some 26), (some (23, true)), .bin .eql (.t 25) (.c (.str (ByteArray.mk #[97, 98])))⟩,
      ⟨(some 27), none, .pick (.t 23) (.t 26) (.c (.bool false))⟩,
      ⟨(some 28), none, .take 27⟩,
      ⟨(some 29), (some (28, true)), .mv (.t 1)⟩,
      ⟨(some 30), (some (28, true)), .callE 28 (.t 29) []⟩,
      ⟨(some 31), (some (28, true)), .bin .eql (.t 30) (.c (.int .i64 64))⟩,
      ⟨(some 32), none, .pick (.t 28) (.t 31) (.c (.bool false))⟩,
      ⟨(some 33), none, .take 32⟩,
      ⟨(some 34), (some (33, true)), .mv (.t 1)⟩,
      ⟨(some 35), (some (33, true)), .callE 30 (.t 34) [(.c (.int .i64 2))]⟩,
      ⟨(some 36), (some (33, true)), .bin .eql (.t 35) (.c (.int .u64 9))⟩,
      ⟨(some 37), none, .pick (.t 33) (.t 36) (.c (.bool false))⟩,
      ⟨(some 38), none, .take 37⟩,
      ⟨(some 39), (some (38, true)), .mv (.t 1)⟩,
      ⟨(some 40), (some (38, true)), .callE 35 (.t 39) []⟩,
      ⟨(some 41), (some (38, true)), .bin .eql (.t 40) (.c (.int .i64 0))⟩,
      ⟨(some 42), none, .pick (.t 38) (.t 41) (.c (.bool false))⟩,
      ⟨(some 43), none, .take 42⟩,
      ⟨(some 44), (some (43, true)), .call 13 [(.c (.int .i64 (-3)))]⟩,
      ⟨(some 45), (some (43, true)), .bin .eql (.t 44) (.c (.int .u64 5))⟩,
      ⟨(some 46), none, .pick (.t 43) (.t 45) (.c (.bool false))⟩,
      ⟨(some 47), none, .take 46⟩,
      ⟨(some 48), (some (47, true)), .call 15 [(.c (.int .u64 5))]⟩,
      ⟨(some 49), (some (47, true)), .bin .eql (.t 48) (.c (.int .i64 (-3)))⟩,
      ⟨(some 50), none, .pick (.t 47) (.t 49) (.c (.bool false))⟩,
      ⟨(some 51), none, .take 50⟩,
      ⟨(some 52), (some (51, true)), .bsl 1 2 [(.int .u8 0)] [(0, (.c (.int .u8 1))), (1, (.c (.int .u8 0)))]⟩,
      ⟨(some 53), (some (51, true)), .call 24 [(.t 52)]⟩,
      ⟨(some 54), (some (51, true)), .bin .eql (.t 53) (.c (.int .u64 256))⟩,
      ⟨(some 55), none, .pick (.t 51) (.t 54) (.c (.bool false))⟩,
      ⟨(some 56), none, .take 55⟩,
      ⟨(some 57), none, .pick (.t 56) (.c (.bool true)) (.c (.bool false))⟩,
      ⟨(some 58), none, .take 57⟩,
      ⟨(some 59), none, .pick (.t 58) (.c (.bool true)) (.c (.bool false))⟩,
      ⟨(some 60), none, .take 59⟩,
      ⟨(some 61), none, .pick (.t 60) (.c (.bool true)) (.c (.bool false))⟩,
      ⟨(some 0), none, .take 61⟩])
    .ret)))
def ar17 : List AR := [.t 0]
theorem comp17 : Try.f17.body.bind (comp Try.prog 62) = some ac17 := by kernel_rfl
theorem cres17 : compRes Try.prog Try.f17.results.toList = some ar17 := by kernel_rfl
/-- bilander/varnum.Put -/
def ac18 : AC :=
 (.seq
  (.reg [⟨(some 2), none, .mv (.c .nils)⟩])
  (.seq
   (.reg [⟨(some 3), none, .mv (.t 0)⟩,
     ⟨(some 4), none, .call 13 [(.t 3)]⟩,
     ⟨(some 5), none, .call 49 [(.t 4)]⟩,
     ⟨(some 2), none, .take 5⟩])
   .ret))
def ar18 : List AR := [.t 2]
theorem comp18 : Try.f18.body.bind (comp Try.prog 6) = some ac18 := by kernel_rfl
theorem cres18 : compRes Try.prog Try.f18.results.toList = some ar18 := by kernel_rfl
/-- bilander/bilanderref01.Put -/
def ac19 : AC :=
 (.seq
  (.reg [⟨(some 2), none, .mv (.c .nils)⟩])
  (.seq
   (.reg [⟨(some 3), none, .mv (.t 0)⟩,
     ⟨(some 4), none, .call 14 [(.t 3)]⟩,
     ⟨(some 5), none, .call 50 [(.t 4)]⟩,
     ⟨(some 2), none, .take 5⟩])
   .ret))
def ar19 : List AR := [.t 2]
theorem comp19 : Try.f19.body.bind (comp Try.prog 6) = some ac19 := by kernel_rfl
theorem cres19 : compRes Try.prog Try.f19.results.toList = some ar19 := by kernel_rfl
/-- bilander/varnum.Fixed -/
def ac20 : AC :=
 (.seq
  (.reg [⟨(some 4), none, .mv (.c .nils)⟩])
  (.seq
   (.reg [⟨(some 7), none, .mv (.t 1)⟩,
     ⟨(some 8), none, .call 51 [(.t 7)]⟩,
     ⟨(some 9), none, .mks 1 1 [(.int .u8 0)] (.t 8)⟩,
     ⟨(some 5), none, .take 9⟩])
   (.seq
    (.seq
     (.reg [⟨(some 10), none, .mv (.t 5)⟩,
       ⟨(some 11), none, .len false (.t 10)⟩,
       ⟨(some 12), none, .mv (.c (.int .i64 0))⟩])
     (.block 0
      (.loop
       (.seq
        (.reg [⟨(some 13), none, .bin .lss (.t 12) (.t 11)⟩])
        (.seq
         (.cond (.t 13)
          .skip
          (.exit 0))
         (.seq
          (.block 1
           (.seq
            (.reg [⟨(some 14), none, .take 12⟩,
              ⟨(some 6), none, .take 14⟩])
            (.reg [⟨(some 15), none, .mv (.t 5)⟩,
              ⟨(some 16), none, .mv (.t 5)⟩,
              ⟨(some 17), none, .len false (.t 16)⟩,
              ⟨(some 18), none, .bin .sub (.t 17) (.c (.int .i64 1))⟩,
              ⟨(some 19), none, .mv (.t 6)⟩,
              ⟨(some 20), none, .bin .sub (.t 18) (.t 19)⟩,
              ⟨(some 21), none, .mv (.t 0)⟩,
              ⟨(some 22), none, .mv (.t 6)⟩,
              ⟨(some 23), none, .bin .mul (.c (.int .i64 8)) (.t 22)⟩,
              ⟨(some 24), none, .bin .shr (.t 21) (.t 23)⟩,
              ⟨(some 25), none, .conv .u8 (.t 24)⟩,
              ⟨(some 26), none, .iaddr 1 (.t 15) (.t 20)⟩,
              ⟨none, none, .store 1 (.t 26) (.t 25)⟩])))
          (.reg [⟨(some 27), none, .bin .add (.t 12) (.c (.int .i64 1))⟩,
            ⟨(some 12), none, .take 27⟩])))))))
    (.seq
     (.reg [⟨(some 28), none, .take 5⟩,
       ⟨(some 4), none, .take 28⟩])
     .ret))))
def ar20 : List AR := [.t 4]
theorem comp20 : Try.f20.body.bind (comp Try.prog 29) = some ac20 := by kernel_rfl
theorem cres20 : compRes Try.prog Try.f20.results.toList = some ar20 := by kernel_rfl
/-- bilander/bilanderref01.Fixed -/
def ac21 : AC :=
 (.seq
  (.reg [⟨(some 4), none, .mv (.c .nils)⟩])
  (.seq
   (.reg [⟨(some 5), none, .mv (.c .nils)⟩])
   (.seq
    (.seq
     (.reg [⟨(some 6), none, .mv (.c (.int .i64 0))⟩])
     (.block 0
      (.loop
       (.seq
        (.seq
         (.reg [⟨(some 7), none, .mv (.t 6)⟩,
           ⟨(some 8), none, .mv (.t 1)⟩,
           ⟨(some 9), none, .bin .lss (.t 7) (.t 8)⟩,
           ⟨(some 10), none, .take 9⟩,
           ⟨(some 11), (some (10, true)), .mv (.t 6)⟩,
           ⟨(some 12), (some (10, true)), .bin .lss (.t 11) (.c (.int .i64 8))⟩,
           ⟨(some 13), none, .pick (.t 10) (.t 12) (.c (.bool false))⟩])
         (.cond (.t 13)
          .skip
          (.exit 0)))
        (.seq
         (.block 1
          (.seq
           (.reg [⟨(some 16), none, .mv (.t 0)⟩,
             ⟨(some 17), none, .bin .rem (.t 16) (.c (.int .u64 256))⟩,
             ⟨(some 18), none, .conv .u8 (.t 17)⟩,
             ⟨(some 19), none, .bsl 1 1 [(.int .u8 0)] [(0, (.t 18))]⟩,
             ⟨(some 20), none, .take 5⟩,
             ⟨(some 21), none, .app 1 1 19 (.t 20)⟩,
             ⟨(some 5), none, .take 21⟩])
           (.reg [⟨(some 22), none, .take 0⟩,
             ⟨(some 23), none, .bin .quo (.t 22) (.c (.int .u64 256))⟩,
             ⟨(some 0), none, .take 23⟩])))
         (.reg [⟨(some 14), none, .take 6⟩,
           ⟨(some 15), none, .bin .add (.t 14) (.c (.int .i64 1))⟩,
           ⟨(some 6), none, .take 15⟩]))))))
    (.seq
     (.reg [⟨(some 24), none, .take 5⟩,
       ⟨(some 4), none, .take 24⟩])
     .ret))))
def ar21 : List AR := [.t 4]
theorem comp21 : Try.f21.body.bind (comp Try.prog 25) = some ac21 := by kernel_rfl
theorem cres21 : compRes Try.prog Try.f21.results.toList = some ar21 := by kernel_rfl
/-- bilander/varnum.Get -/
def ac22 : AC :=
 (.seq
  (.reg [⟨(some 2), none, .mv (.c (.int .i64 0))⟩,
    ⟨(some 3), none, .mv (.c (.int .i64 0))⟩,
    ⟨(some 4), none, .mv (.c (.int .i64 0))⟩])
  (.seq
   (.reg [⟨(some 5), none, .mv (.c (.int .u64 0))⟩])
   (.seq
    (.seq
     (.reg [⟨(some 7), none, .mv (.t 0)⟩,
       ⟨(some 8), none, .len false (.t 7)⟩,
       ⟨(some 9), none, .minmax false (.t 8) (.c (.int .i64 10))⟩,
       ⟨(some 10), none, .mv (.c (.int .i64 0))⟩])
     (.block 0
      (.loop
       (.seq
        (.reg [⟨(some 11), none, .bin .lss (.t 10) (.t 9)⟩])
        (.seq
         (.cond (.t 11)
          .skip
          (.exit 0))
         (.seq
          (.block 1
           (.seq
            (.reg [⟨(some 12), none, .take 10⟩,
              ⟨(some 6), none, .take 12⟩])
            (.seq
             (.reg [⟨(some 13), none, .take 5⟩,
               ⟨(some 14), none, .mv (.t 0)⟩,
               ⟨(some 15), none, .mv (.t 6)⟩,
               ⟨(some 16), none, .iaddr 1 (.t 14) (.t 15)⟩,
               ⟨(some 17), none, .load none (.t 16)⟩,
               ⟨(some 18), none, .bin .and (.t 17) (.c (.int .u8 127))⟩,
               ⟨(some 19), none, .conv .u64 (.t 18)⟩,
               ⟨(some 20), none, .mv (.t 6)⟩,
               ⟨(some 21), none, .bin .mul (.c (.int .i64 7)) (.t 20)⟩,
               ⟨(some 22), none, .bin .shl (.t 19) (.t 21)⟩,
               ⟨(some 23), none, .bin .or (.t 13) (.t 22)⟩,
               ⟨(some 5), none, .take 23⟩])
             (.seq
              (.seq
               (.reg [⟨(some 24), none, .mv (.t 0)⟩,
                 ⟨(some 25), none, .mv (.t 6)⟩,
                 ⟨(some 26), none, .iaddr 1 (.t 24) (.t 25)⟩,
                 ⟨(some 27), none, .load none (.t 26)⟩,
                 ⟨(some 28), none, .bin .and (.t 27) (.c (.int .u8 128))⟩,
                 ⟨(some 29), none, .bin .neq (.t 28) (.c (.int .u8 0))⟩])
               (.cond (.t 29)
                (.exit 1)
                .skip))
              (.seq
               (.seq
                (.dreg [] [⟨(some 30), none, .mv (.t 5)⟩,
                  ⟨(some 31), none, .call 49 [(.t 30)]⟩,
                  ⟨(some 32), none, .mv (.t 0)⟩,
                  ⟨(some 33), none, .mv (.t 6)⟩,
                  ⟨(some 34), none, .bin .add (.t 33) (.c (.int .i64 1))⟩,
                  ⟨(some 35), none, .slc false 1 (.t 32) none (some (.t 34))⟩,
                  ⟨(some 36), none, .call 52 [(.t 31), (.t 35)]⟩,
                  ⟨(some 37), none, .una .not (.t 36)⟩])
                (.cond (.t 37)
                 (.seq
                  (.reg [⟨(some 2), none, .mv (.c (.int .i64 0))⟩,
                    ⟨(some 3), none, .mv (.c (.int .i64 0))⟩,
                    ⟨(some 4), none, .mv (.c (.int .i64 4))⟩])
                  .ret)
                 .skip))
               (.seq
                (.reg [⟨(some 38), none, .mv (.t 5)⟩,
                  ⟨(some 39), none, .call 15 [(.t 38)]⟩,
                  ⟨(some 40), none, .mv (.t 6)⟩,
                  ⟨(some 41), none, .bin .add (.t 40) (.c (.int .i64 1))⟩,
                  ⟨(some 2), none, .take 39⟩,
                  ⟨(some 3), none, .take 41⟩,
                  ⟨(some 4), none, .mv (.c (.int .i64 0))⟩])
                .ret))))))
          (.reg [⟨(some 42), none, .bin .add (.t 10) (.c (.int .i64 1))⟩,
            ⟨(some 10), none, .take 42⟩])))))))
    (.seq
     (.seq
      (.reg [⟨(some 43), none, .mv (.t 0)⟩,
        ⟨(some 44), none, .len false (.t 43)⟩,
        ⟨(some 45), none, .bin .lss (.t 44) (.c (.int .i64 10))⟩])
      (.cond (.t 45)
       (.seq
        (.reg [⟨(some 2), none, .mv (.c (.int .i64 0))⟩,
          ⟨(some 3), none, .mv (.c (.int .i64 0))⟩,
          ⟨(some 4), none, .mv (.c (.int .i64 3))⟩])
        .ret)
       .skip))
     (.seq
      (.reg [⟨(some 2), none, .mv (.c (.int .i64 0))⟩,
        ⟨(some 3), none, .mv (.c (.int .i64 0))⟩,
        ⟨(some 4), none, .mv (.c (.int .i64 4))⟩])
      .ret)))))
def ar22 : List AR := [.t 2, .t 3, .t 4]
theorem comp22 : Try.f22.body.bind (comp Try.prog 46) = some ac22 := by kernel_rfl
theorem cres22 : compRes Try.prog Try.f22.results.toList = some ar22 := by kernel_rfl
/-- bilander/bilanderref01.Get -/
def ac23 : AC :=
 (.seq
  (.reg [⟨(some 2), none, .mv (.c (.int .i64 0))⟩,
    ⟨(some 3), none, .mv (.c (.int .i64 0))⟩,
    ⟨(some 4), none, .mv (.c (.int .i64 0))⟩])
  (.seq
   (.reg [⟨(some 5), none, .mv (.c (.int .i64 0))⟩])
   (.seq
    (.block 0
     (.loop
      (.seq
       (.seq
        (.reg [⟨(some 8), none, .mv (.t 5)⟩,
          ⟨(some 9), none, .mv (.t 0)⟩,
          ⟨(some 10), none, .len false (.t 9)⟩,
          ⟨(some 11), none, .bin .lss (.t 8) (.t 10)⟩,
          ⟨(some 12), none, .take 11⟩,
          ⟨(some 13), (some (12, true)), .mv (.t 5)⟩,
          ⟨(some 14), (some (12, true)), .bin .lss (.t 13) (.c (.int .i64 10))⟩,
          ⟨(some 15), none, .pick (.t 12) (.t 14) (.c (.bool false))⟩,
          ⟨(some 16), none, .take 15⟩,
          ⟨(some 17), (some (16, true)), .mv (.t 0)⟩,
          ⟨(some 18), (some (16, true)), .mv (.t 5)⟩,
          ⟨(some 19), (some (16, true)), .iaddr 1 (.t 17) (.t 18)⟩,
          ⟨(some 20), (some (16, true)), .load none (.t 19)⟩,
          ⟨(some 21), (some (16, true)), .bin .geq (.t 20) (.c (.int .u8 128))⟩,
          ⟨(some 22), none, .pick (.t 16) (.t 21) (.c (.bool false))⟩])
        (.cond (.t 22)
         .skip
         (.exit 0)))
       (.block 1
        (.reg [⟨(some 23), none, .take 5⟩,
          ⟨(some 24), none, .bin .add (.t 23) (.c (.int .i64 1))⟩,
          ⟨(some 5), none, .take 24⟩])))))
    (.seq
     (.block 2
      (.seq
       (.reg [⟨(some 26), none, .mv (.t 5)⟩,
         ⟨(some 27), none, .bin .eql (.t 26) (.c (.int .i64 10))⟩,
         ⟨(some 25), none, .take 27⟩])
       (.cond (.t 25)
        (.seq
         (.reg [⟨(some 2), none, .mv (.c (.int .i64 0))⟩,
           ⟨(some 3), none, .mv (.c (.int .i64 0))⟩,
           ⟨(some 4), none, .mv (.c (.int .i64 4))⟩])
         .ret)
        (.seq
         (.reg [⟨(some 29), none, .mv (.t 5)⟩,
           ⟨(some 30), none, .mv (.t 0)⟩,
           ⟨(some 31), none, .len false (.t 30)⟩,
           ⟨(some 32), none, .bin .eql (.t 29) (.t 31)⟩,
           ⟨(some 28), none, .take 32⟩])
         (.cond (.t 28)
          (.seq
           (.reg [⟨(some 2), none, .mv (.c (.int .i64 0))⟩,
             ⟨(some 3), none, .mv (.c (.int .i64 0))⟩,
             ⟨(some 4), none, .mv (.c (.int .i64 3))⟩])
           .ret)
          .skip)))))
     (.seq
      (.reg [⟨(some 6), none, .mv (.c (.int .u64 0))⟩])
      (.seq
       (.seq
        (.reg [⟨(some 33), none, .take 5⟩,
          ⟨(some 7), none, .take 33⟩])
        (.block 3
         (.loop
          (.seq
           (.seq
            (.reg [⟨(some 34), none, .mv (.t 7)⟩,
              ⟨(some 35), none, .bin .geq (.t 34) (.c (.int .i64 0))⟩])
            (.cond (.t 35)
             .skip
             (.exit 3)))
           (.seq
            (.block 4
             (.reg [⟨(some 38), none, .take 6⟩,
               ⟨(some 39), none, .bin .mul (.c (.int .u64 128)) (.t 38)⟩,
               ⟨(some 40), none, .mv (.t 0)⟩,
               ⟨(some 41), none, .mv (.t 7)⟩,
               ⟨(some 42), none, .iaddr 1 (.t 40) (.t 41)⟩,
               ⟨(some 43), none, .load none (.t 42)⟩,
               ⟨(some 44), none, .bin .rem (.t 43) (.c (.int .u8 128))⟩,
               ⟨(some 45), none, .conv .u64 (.t 44)⟩,
               ⟨(some 46), none, .bin .add (.t 39) (.t 45)⟩,
               ⟨(some 6), none, .take 46⟩]))
            (.reg [⟨(some 36), none, .take 7⟩,
              ⟨(some 37), none, .bin .sub (.t 36) (.c (.int .i64 1))⟩,
              ⟨(some 7), none, .take 37⟩]))))))
       (.seq
        (.seq
         (.dreg [] [⟨(some 47), none, .mv (.t 6)⟩,
           ⟨(some 48), none, .call 50 [(.t 47)]⟩,
           ⟨(some 49), none, .b2s (.t 48)⟩,
           ⟨(some 50), none, .mv (.t 0)⟩,
           ⟨(some 51), none, .mv (.t 5)⟩,
           ⟨(some 52), none, .bin .add (.t 51) (.c (.int .i64 1))⟩,
           ⟨(some 53), none, .slc false 1 (.t 50) none (some (.t 52))⟩,
           ⟨(some 54), none, .b2s (.t 53)⟩,
           ⟨(some 55), none, .bin .neq (.t 49) (.t 54)⟩])
         (.cond (.t 55)
          (.seq
           (.reg [⟨(some 2), none, .mv (.c (.int .i64 0))⟩,
             ⟨(some 3), none, .mv (.c (.int .i64 0))⟩,
             ⟨(some 4), none, .mv (.c (.int .i64 4))⟩])
           .ret)
          .skip))
        (.seq
         (.reg [⟨(some 56), none, .mv (.t 6)⟩,
           ⟨(some 57), none, .call 16 [(.t 56)]⟩,
           ⟨(some 58), none, .mv (.t 5)⟩,
           ⟨(some 59), none, .bin .add (.t 58) (.c (.int .i64 1))⟩,
           ⟨(some 2), none, .take 57⟩,
           ⟨(some 3), none, .take 59⟩,
           ⟨(some 4), none, .mv (.c (.int .i64 0))⟩])
         .ret))))))))
def ar23 : List AR := [.t 2, .t 3, .t 4]
theorem comp23 : Try.f23.body.bind (comp Try.prog 60) = some ac23 := by kernel_rfl
theorem cres23 : compRes Try.prog Try.f23.results.toList = some ar23 := by kernel_rfl
/-- bilander/varnum.Unfixed -/
def ac24 : AC :=
 (.seq
  (.reg [⟨(some 2), none, .mv (.c (.int .u64 0))⟩])
  (.seq
   (.reg [⟨(some 3), none, .mv (.c (.int .u64 0))⟩])
   (.seq
    (.seq
     (.reg [⟨(some 6), none, .mv (.t 0)⟩,
       ⟨(some 7), none, .len false (.t 6)⟩,
       ⟨(some 8), none, .mv (.c (.int .i64 0))⟩])
     (.block 0
      (.loop
       (.seq
        (.reg [⟨(some 9), none, .bin .lss (.t 8) (.t 7)⟩])
        (.seq
         (.cond (.t 9)
          .skip
          (.exit 0))
         (.seq
          (.block 1
           (.seq
            (.reg [⟨(some 10), none, .iaddr 1 (.t 6) (.t 8)⟩,
              ⟨(some 11), none, .load none (.t 10)⟩,
              ⟨(some 5), none, .take 11⟩])
            (.reg [⟨(some 12), none, .take 3⟩,
              ⟨(some 13), none, .bin .shl (.t 12) (.c (.int .u64 8))⟩,
              ⟨(some 14), none, .mv (.t 5)⟩,
              ⟨(some 15), none, .conv .u64 (.t 14)⟩,
              ⟨(some 16), none, .bin .or (.t 13) (.t 15)⟩,
              ⟨(some 3), none, .take 16⟩])))
          (.reg [⟨(some 17), none, .bin .add (.t 8) (.c (.int .i64 1))⟩,
            ⟨(some 8), none, .take 17⟩])))))))
    (.seq
     (.reg [⟨(some 18), none, .take 3⟩,
       ⟨(some 2), none, .take 18⟩])
     .ret))))
def ar24 : List AR := [.t 2]
theorem comp24 : Try.f24.body.bind (comp Try.prog 19) = some ac24 := by kernel_rfl
theorem cres24 : compRes Try.prog Try.f24.results.toList = some ar24 := by kernel_rfl
/-- bilander/bilanderref01.Unfixed -/
def ac25 : AC :=
 (.seq
  (.reg [⟨(some 2), none, .mv (.c (.int .u64 0))⟩])
  (.seq
   (.reg [⟨(some 3), none, .mv (.c (.int .u64 0))⟩])
   (.seq
    (.seq
     (.reg [⟨(some 5), none, .mv (.t 0)⟩,
       ⟨(some 6), none, .len false (.t 5)⟩,
       ⟨(some 7), none, .bin .sub (.t 6) (.c (.int .i64 8))⟩,
       ⟨(some 8), none, .minmax true (.c (.int .i64 0)) (.t 7)⟩,
       ⟨(some 4), none, .take 8⟩])
     (.block 0
      (.loop
       (.seq
        (.seq
         (.reg [⟨(some 9), none, .mv (.t 4)⟩,
           ⟨(some 10), none, .mv (.t 0)⟩,
           ⟨(some 11), none, .len false (.t 10)⟩,
           ⟨(some 12), none, .bin .lss (.t 9) (.t 11)⟩])
         (.cond (.t 12)
          .skip
          (.exit 0)))
        (.seq
         (.block 1
          (.reg [⟨(some 15), none, .take 3⟩,
            ⟨(some 16), none, .bin .mul (.c (.int .u64 256)) (.t 15)⟩,
            ⟨(some 17), none, .mv (.t 0)⟩,
            ⟨(some 18), none, .mv (.t 4)⟩,
            ⟨(some 19), none, .iaddr 1 (.t 17) (.t 18)⟩,
            ⟨(some 20), none, .load none (.t 19)⟩,
            ⟨(some 21), none, .conv .u64 (.t 20)⟩,
            ⟨(some 22), none, .bin .add (.t 16) (.t 21)⟩,
            ⟨(some 3), none, .take 22⟩]))
         (.reg [⟨(some 13), none, .take 4⟩,
           ⟨(some 14), none, .bin .add (.t 13) (.c (.int .i64 1))⟩,
           ⟨(some 4), none, .take 14⟩]))))))
    (.seq
     (.reg [⟨(some 23), none, .take 3⟩,
       ⟨(some 2), none, .take 23⟩])
     .ret))))
def ar25 : List AR := [.t 2]
theorem comp25 : Try.f25.body.bind (comp Try.prog 24) = some ac25 := by kernel_rfl
theorem cres25 : compRes Try.prog Try.f25.results.toList = some ar25 := by kernel_rfl
/-- bilander/varnum.New -/
def ac26 : AC :=
 (.seq
  (.reg [⟨(some 2), none, .mv (.c .nilp)⟩])
  (.seq
   (.reg [⟨(some 3), none, .mv (.t 0)⟩,
     ⟨(some 4), none, .call 53 [(.t 3)]⟩,
     ⟨(some 5), none, .build [.nils, (.int .i64 0)] [(0, 1, (.t 4))]⟩,
     ⟨(some 6), none, .box 2 (.t 5)⟩,
     ⟨(some 2), none, .take 6⟩])
   .ret))
def ar26 : List AR := [.t 2]
theorem comp26 : Try.f26.body.bind (comp Try.prog 7) = some ac26 := by kernel_rfl
theorem cres26 : compRes Try.prog Try.f26.results.toList = some ar26 := by kernel_rfl
/-- (*bilander/varnum.Reader).Num -/
def ac28 : AC :=
 (.seq
  (.reg [⟨(some 2), none, .mv (.c (.int .i64 0))⟩])
  (.seq
   (.seq
    (.reg [⟨(some 6), none, .mv (.t 0)⟩,
      ⟨(some 7), none, .callE 34 (.t 6) []⟩,
      ⟨(some 8), none, .bin .neq (.t 7) (.c (.int .i64 0))⟩])
    (.cond (.t 8)
     (.seq
      (.reg [⟨(some 2), none, .mv (.c (.int .i64 0))⟩])
      .ret)
     .skip))
   (.seq
    (.reg [⟨(some 10), none, .mv (.t 0)⟩,
      ⟨(some 11), none, .nilc (.t 10)⟩,
      ⟨(some 12), none, .faddr (.t 11) 0⟩,
      ⟨(some 13), none, .load none (.t 12)⟩,
      ⟨(some 14), none, .call 22 [(.t 13)]⟩,
      ⟨(some 9), none, .take 14⟩,
      ⟨(some 15), none, .ext 9 0⟩,
      ⟨(some 16), none, .ext 9 1⟩,
      ⟨(some 17), none, .ext 9 2⟩,
      ⟨(some 3), none, .take 15⟩,
      ⟨(some 4), none, .take 16⟩,
      ⟨(some 5), none, .take 17⟩])
    (.seq
     (.reg [⟨(some 18), none, .mv (.t 0)⟩,
       ⟨(some 19), none, .mv (.t 0)⟩,
       ⟨(some 20), none, .mv (.t 0)⟩,
       ⟨(some 21), none, .nilc (.t 20)⟩,
       ⟨(some 22), none, .faddr (.t 21) 0⟩,
       ⟨(some 23), none, .load none (.t 22)⟩,
       ⟨(some 24), none, .mv (.t 4)⟩,
       ⟨(some 25), none, .slc false 1 (.t 23) (some (.t 24)) none⟩,
       ⟨(some 26), none, .mv (.t 5)⟩,
       ⟨(some 27), none, .nilc (.t 18)⟩,
       ⟨(some 28), none, .faddr (.t 27) 0⟩,
       ⟨none, none, .store 1 (.t 28) (.t 25)⟩,
       ⟨(some 29), none, .nilc (.t 19)⟩,
       ⟨(some 30), none, .faddr (.t 29) 1⟩,
       ⟨none, none, .store 1 (.t 30) (.t 26)⟩])
     (.seq
      (.reg [⟨(some 31), none, .take 3⟩,
        ⟨(some 2), none, .take 31⟩])
      .ret)))))
def ar28 : List AR := [.t 2]
theorem comp28 : Try.f28.body.bind (comp Try.prog 32) = some ac28 := by kernel_rfl
theorem cres28 : compRes Try.prog Try.f28.results.toList = some ar28 := by kernel_rfl
/-- (*bilander/varnum.Reader).Fixed -/
def ac30 : AC :=
 (.seq
  (.reg [⟨(some 4), none, .mv (.c (.int .u64 0))⟩])
  (.seq
   (.seq
    (.reg [⟨(some 5), none, .mv (.t 0)⟩,
      ⟨(some 6), none, .callE 34 (.t 5) []⟩,
      ⟨(some 7), none, .bin .neq (.t 6) (.c (.int .i64 0))⟩])
    (.cond (.t 7)
     (.seq
      (.reg [⟨(some 4), none, .mv (.c (.int .u64 0))⟩])
      .ret)
     .skip))
   (.seq
    (.reg [⟨(some 8), none, .mv (.t 0)⟩,
      ⟨(some 9), none, .mv (.t 1)⟩,
      ⟨(some 10), none, .call 51 [(.t 9)]⟩,
      ⟨(some 11), none, .callE 54 (.t 8) [(.t 10)]⟩,
      ⟨(some 12), none, .call 24 [(.t 11)]⟩,
      ⟨(some 4), none, .take 12⟩])
    .ret)))
def ar30 : List AR := [.t 4]
theorem comp30 : Try.f30.body.bind (comp Try.prog 13) = some ac30 := by kernel_rfl
theorem cres30 : compRes Try.prog Try.f30.results.toList = some ar30 := by kernel_rfl
/-- (*bilander/varnum.Reader).Text -/
def ac32 : AC :=
 (.seq
  (.reg [⟨(some 4), none, .mv (.c (.str (ByteArray.mk #[])))⟩])
  (.seq
   (.reg [⟨(some 6), none, .mv (.t 0)⟩,
     ⟨(some 7), none, .callE 28 (.t 6) []⟩,
     ⟨(some 5), none, .take 7⟩])
   (.seq
    (.seq
     (.reg [⟨(some 8), none, .mv (.t 0)⟩,
       ⟨(some 9), none, .callE 34 (.t 8) []⟩,
       ⟨(some 10), none, .bin .neq (.t 9) (.c (.int .i64 0))⟩])
     (.cond (.t 10)
      (.seq
       (.reg [⟨(some 4), none, .mv (.c (.str (ByteArray.mk #[])))⟩])
       .ret)
      .skip))
    (.seq
     (.seq
      (.reg [⟨(some 11), none, .mv (.t 5)⟩,
        ⟨(some 12), none, .bin .lss (.t 11) (.c (.int .i64 0))⟩,
        ⟨(some 13), none, .take 12⟩,
        ⟨(some 14), (some (13, false)), .mv (.t 5)⟩,
        ⟨(some 15), (some (13, false)), .mv (.t 1)⟩,
        ⟨(some 16), (some (13, false)), .minmax true (.c (.int .i64 0)) (.t 15)⟩,
        ⟨(some 17), (some (13, false)), .bin .gtr (.t 14) (.t 16)⟩,
        ⟨(some 18), none, .pick (.t 13) (.c (.bool true)) (.t 17)⟩])
      (.cond (.t 18)
       (.seq
        (.reg [⟨(some 19), none, .mv (.t 0)⟩,
          ⟨(some 20), none, .nilc (.t 19)⟩,
          ⟨(some 21), none, .faddr (.t 20) 1⟩,
          ⟨none, none, .store 1 (.t 21) (.c (.int .i64 5))⟩])
        (.seq
         (.reg [⟨(some 4), none, .mv (.c (.str (ByteArray.mk #[])))⟩])
         .ret))
       .skip))
     (.seq
      (.reg [⟨(some 22), none, .mv (.t 0)⟩,
        ⟨(some 23), none, .mv (.t 5)⟩,
        ⟨(some 24), none, .callE 54 (.t 22) [(.t 23)]⟩,
        ⟨(some 25), none, .b2s (.t 24)⟩,
        ⟨(some 4), none, .take 25⟩])
      .ret)))))
def ar32 : List AR := [.t 4]
theorem comp32 : Try.f32.body.bind (comp Try.prog 26) = some ac32 := by kernel_rfl
theorem cres32 : compRes Try.prog Try.f32.results.toList = some ar32 := by kernel_rfl
/-- (*bilander/varnum.Reader).Left -/
def ac33 : AC :=
 (.seq
  (.reg [⟨(some 2), none, .mv (.c (.int .i64 0))⟩])
  (.seq
   (.seq
    (.reg [⟨(some 3), none, .mv (.t 0)⟩,
      ⟨(some 4), none, .eqn false false (.t 3)⟩])
    (.cond (.t 4)
     (.seq
      (.reg [⟨(some 2), none, .mv (.c (.int .i64 0))⟩])
      .ret)
     .skip))
   (.seq
    (.reg [⟨(some 5), none, .mv (.t 0)⟩,
      ⟨(some 6), none, .nilc (.t 5)⟩,
      ⟨(some 7), none, .faddr (.t 6) 0⟩,
      ⟨(some 8), none, .load none (.t 7)⟩,
      ⟨(some 9), none, .len false (.t 8)⟩,
      ⟨(some 2), none, .take 9⟩])
    .ret)))
def ar33 : List AR := [.t 2]
theorem comp33 : Try.f33.body.bind (comp Try.prog 10) = some ac33 := by kernel_rfl
theorem cres33 : compRes Try.prog Try.f33.results.toList = some ar33 := by kernel_rfl
/-- (*bilander/varnum.Reader).Err -/
def ac34 : AC :=
 (.seq
  (.reg [⟨(some 2), none, .mv (.c (.int .i64 0))⟩])
  (.seq
   (.seq
    (.reg [⟨(some 3), none, .mv (.t 0)⟩,
      ⟨(some 4), none, .eqn false false (.t 3)⟩])
    (.cond (.t 4)
     (.seq
      (.reg [⟨(some 2), none, .mv (.c (.int .i64 1))⟩])
      .ret)
     .skip))
   (.seq
    (.reg [⟨(some 5), none, .mv (.t 0)⟩,
      ⟨(some 6), none, .nilc (.t 5)⟩,
      ⟨(some 7), none, .faddr (.t 6) 1⟩,
      ⟨(some 8), none, .load none (.t 7)⟩,
      ⟨(some 2), none, .take 8⟩])
    .ret)))
def ar34 : List AR := [.t 2]
theorem comp34 : Try.f34.body.bind (comp Try.prog 9) = some ac34 := by kernel_rfl
theorem cres34 : compRes Try.prog Try.f34.results.toList = some ar34 := by kernel_rfl
/-- (*bilander/varnum.Reader).Done -/
def ac35 : AC :=
 (.seq
  (.reg [⟨(some 2), none, .mv (.c (.int .i64 0))⟩])
  (.seq
   (.block 0
    (.seq
     (.reg [⟨(some 4), none, .mv (.t 0)⟩,
       ⟨(some 5), none, .callE 34 (.t 4) []⟩,
       ⟨(some 6), none, .bin .neq (.t 5) (.c (.int .i64 0))⟩,
       ⟨(some 3), none, .take 6⟩])
     (.cond (.t 3)
      (.seq
       (.reg [⟨(some 7), none, .mv (.t 0)⟩,
         ⟨(some 8), none, .callE 34 (.t 7) []⟩,
         ⟨(some 2), none, .take 8⟩])
       .ret)
      (.seq
       (.reg [⟨(some 10), none, .mv (.t 0)⟩,
         ⟨(some 11), none, .nilc (.t 10)⟩,
         ⟨(some 12), none, .faddr (.t 11) 0⟩,
         ⟨(some 13), none, .load none (.t 12)⟩,
         ⟨(some 14), none, .len false (.t 13)⟩,
         ⟨(some 15), none, .bin .gtr (.t 14) (.c (.int .i64 0))⟩,
         ⟨(some 9), none, .take 15⟩])
       (.cond (.t 9)
        (.seq
         (.reg [⟨(some 2), none, .mv (.c (.int .i64 4))⟩])
         .ret)
        .skip)))))
   (.seq
    (.reg [⟨(some 2), none, .mv (.c (.int .i64 0))⟩])
    .ret)))
def ar35 : List AR := [.t 2]
theorem comp35 : Try.f35.body.bind (comp Try.prog 16) = some ac35 := by kernel_rfl
theorem cres35 : compRes Try.prog Try.f35.results.toList = some ar35 := by kernel_rfl
/-- bilander/varnum.Text -/
def ac37 : AC :=
 (.seq
  (.reg [⟨(some 2), none, .mv (.c .nils)⟩])
  (.seq
   (.reg [⟨(some 3), none, .mv (.t 0)⟩,
     ⟨(some 4), none, .len true (.t 3)⟩,
     ⟨(some 5), none, .call 18 [(.t 4)]⟩,
     ⟨(some 6), none, .mv (.t 0)⟩,
     ⟨(some 7), none, .appS 5 (.t 6)⟩,
     ⟨(some 2), none, .take 7⟩])
   .ret))
def ar37 : List AR := [.t 2]
theorem comp37 : Try.f37.body.bind (comp Try.prog 8) = some ac37 := by kernel_rfl
theorem cres37 : compRes Try.prog Try.f37.results.toList = some ar37 := by kernel_rfl
/-- bilander/varnum.lay -/
def ac49 : AC :=
 (.seq
  (.reg [⟨(some 2), none, .mv (.c .nils)⟩])
  (.seq
   (.reg [⟨(some 3), none, .mv (.c .nils)⟩])
   (.seq
    (.block 0
     (.loop
      (.seq
       (.seq
        (.reg [⟨(some 4), none, .mv (.t 0)⟩,
          ⟨(some 5), none, .bin .gtr (.t 4) (.c (.int .u64 127))⟩])
        (.cond (.t 5)
         .skip
         (.exit 0)))
       (.seq
        (.block 1
         (.reg [⟨(some 8), none, .take 3⟩,
           ⟨(some 9), none, .mv (.t 0)⟩,
           ⟨(some 10), none, .conv .u8 (.t 9)⟩,
           ⟨(some 11), none, .bin .or (.t 10) (.c (.int .u8 128))⟩,
           ⟨(some 12), none, .bsl 1 1 [(.int .u8 0)] [(0, (.t 11))]⟩,
           ⟨(some 13), none, .app 1 1 8 (.t 12)⟩,
           ⟨(some 3), none, .take 13⟩]))
        (.reg [⟨(some 6), none, .take 0⟩,
          ⟨(some 7), none, .bin .shr (.t 6) (.c (.int .u64 7))⟩,
          ⟨(some 0), none, .take 7⟩])))))
    (.seq
     (.reg [⟨(some 14), none, .take 3⟩,
       ⟨(some 15), none, .mv (.t 0)⟩,
       ⟨(some 16), none, .conv .u8 (.t 15)⟩,
       ⟨(some 17), none, .bsl 1 1 [(.int .u8 0)] [(0, (.t 16))]⟩,
       ⟨(some 18), none, .app 1 1 14 (.t 17)⟩,
       ⟨(some 2), none, .take 18⟩])
     .ret))))
def ar49 : List AR := [.t 2]
theorem comp49 : Try.f49.body.bind (comp Try.prog 19) = some ac49 := by kernel_rfl
theorem cres49 : compRes Try.prog Try.f49.results.toList = some ar49 := by kernel_rfl
/-- bilander/bilanderref01.bytes -/
def ac50 : AC :=
 (.seq
  (.reg [⟨(some 2), none, .mv (.c .nils)⟩])
  (.seq
   (.reg [⟨(some 3), none, .mv (.c .nils)⟩])
   (.seq
    (.block 0
     (.loop
      (.seq
       (.seq
        (.reg [⟨(some 4), none, .mv (.t 0)⟩,
          ⟨(some 5), none, .bin .geq (.t 4) (.c (.int .u64 128))⟩])
        (.cond (.t 5)
         .skip
         (.exit 0)))
       (.block 1
        (.seq
         (.reg [⟨(some 6), none, .take 3⟩,
           ⟨(some 7), none, .mv (.t 0)⟩,
           ⟨(some 8), none, .bin .rem (.t 7) (.c (.int .u64 128))⟩,
           ⟨(some 9), none, .conv .u8 (.t 8)⟩,
           ⟨(some 10), none, .bin .add (.t 9) (.c (.int .u8 128))⟩,
           ⟨(some 11), none, .bsl 1 1 [(.int .u8 0)] [(0, (.t 10))]⟩,
           ⟨(some 12), none, .app 1 1 6 (.t 11)⟩,
           ⟨(some 3), none, .take 12⟩])
         (.reg [⟨(some 13), none, .take 0⟩,
           ⟨(some 14), none, .bin .quo (.t 13) (.c (.int .u64 128))⟩,
           ⟨(some 0), none, .take 14⟩]))))))
    (.seq
     (.reg [⟨(some 15), none, .take 3⟩,
       ⟨(some 16), none, .mv (.t 0)⟩,
       ⟨(some 17), none, .conv .u8 (.t 16)⟩,
       ⟨(some 18), none, .bsl 1 1 [(.int .u8 0)] [(0, (.t 17))]⟩,
       ⟨(some 19), none, .app 1 1 15 (.t 18)⟩,
       ⟨(some 2), none, .take 19⟩])
     .ret))))
def ar50 : List AR := [.t 2]
theorem comp50 : Try.f50.body.bind (comp Try.prog 20) = some ac50 := by kernel_rfl
theorem cres50 : compRes Try.prog Try.f50.results.toList = some ar50 := by kernel_rfl
/-- bilander/varnum.wide -/
def ac51 : AC :=
 (.seq
  (.reg [⟨(some 2), none, .mv (.c (.int .i64 0))⟩])
  (.seq
   (.reg [⟨(some 3), none, .mv (.t 0)⟩,
     ⟨(some 4), none, .minmax false (.t 3) (.c (.int .i64 8))⟩,
     ⟨(some 5), none, .minmax true (.c (.int .i64 0)) (.t 4)⟩,
     ⟨(some 2), none, .take 5⟩])
   .ret))
def ar51 : List AR := [.t 2]
theorem comp51 : Try.f51.body.bind (comp Try.prog 6) = some ac51 := by kernel_rfl
theorem cres51 : compRes Try.prog Try.f51.results.toList = some ar51 := by kernel_rfl
/-- bytes.Equal -/
def ac52 : AC :=
 (.seq
  (.reg [⟨(some 4), none, .mv (.c (.bool false))⟩])
  (.seq
   (.reg [⟨(some 5), none, .mv (.t 0)⟩,
     ⟨(some 6), none, .b2s (.t 5)⟩,
     ⟨(some 7), none, .mv (.t 1)⟩,
     ⟨(some 8), none, .b2s (.t 7)⟩,
     ⟨(some 9), none, .bin .eql (.t 6) (.t 8)⟩,
     ⟨(some 4), none, .take 9⟩])
   .ret))
def ar52 : List AR := [.t 4]
theorem comp52 : Try.f52.body.bind (comp Try.prog 10) = some ac52 := by kernel_rfl
theorem cres52 : compRes Try.prog Try.f52.results.toList = some ar52 := by kernel_rfl
/-- bytes.Clone -/
def ac53 : AC :=
 (.seq
  (.reg [⟨(some 2), none, .mv (.c .nils)⟩])
  (.seq
   (.seq
    (.reg [⟨(some 3), none, .mv (.t 0)⟩,
      ⟨(some 4), none, .eqn true false (.t 3)⟩])
    (.cond (.t 4)
     (.seq
      (.reg [⟨(some 2), none, .mv (.c .nils)⟩])
      .ret)
     .skip))
   (.seq
    (.reg [⟨(some 5), none, .bsl 1 0 [(.int .u8 0)] []⟩,
      ⟨(some 6), none, .mv (.t 0)⟩,
      ⟨(some 7), none, .app 1 1 5 (.t 6)⟩,
      ⟨(some 2), none, .take 7⟩])
    .ret)))
def ar53 : List AR := [.t 2]
theorem comp53 : Try.f53.body.bind (comp Try.prog 8) = some ac53 := by kernel_rfl
theorem cres53 : compRes Try.prog Try.f53.results.toList = some ar53 := by kernel_rfl
/-- (*bilander/varnum.Reader).take -/
def ac54 : AC :=
 (.seq
  (.reg [⟨(some 4), none, .mv (.c .nils)⟩])
  (.seq
   (.seq
    (.reg [⟨(some 6), none, .mv (.t 0)⟩,
      ⟨(some 7), none, .nilc (.t 6)⟩,
      ⟨(some 8), none, .faddr (.t 7) 0⟩,
      ⟨(some 9), none, .load none (.t 8)⟩,
      ⟨(some 10), none, .len false (.t 9)⟩,
      ⟨(some 11), none, .mv (.t 1)⟩,
      ⟨(some 12), none, .bin .lss (.t 10) (.t 11)⟩])
    (.cond (.t 12)
     (.seq
      (.reg [⟨(some 13), none, .mv (.t 0)⟩,
        ⟨(some 14), none, .nilc (.t 13)⟩,
        ⟨(some 15), none, .faddr (.t 14) 1⟩,
        ⟨none, none, .store 1 (.t 15) (.c (.int .i64 3))⟩])
      (.seq
       (.reg [⟨(some 4), none, .mv (.c .nils)⟩])
       .ret))
     .skip))
   (.seq
    (.reg [⟨(some 16), none, .mv (.t 0)⟩,
      ⟨(some 17), none, .nilc (.t 16)⟩,
      ⟨(some 18), none, .faddr (.t 17) 0⟩,
      ⟨(some 19), none, .load none (.t 18)⟩,
      ⟨(some 20), none, .mv (.t 1)⟩,
      ⟨(some 21), none, .slc false 1 (.t 19) none (some (.t 20))⟩,
      ⟨(some 5), none, .take 21⟩])
    (.seq
     (.reg [⟨(some 22), none, .mv (.t 0)⟩,
       ⟨(some 23), none, .mv (.t 0)⟩,
       ⟨(some 24), none, .nilc (.t 23)⟩,
       ⟨(some 25), none, .faddr (.t 24) 0⟩,
       ⟨(some 26), none, .load none (.t 25)⟩,
       ⟨(some 27), none, .mv (.t 1)⟩,
       ⟨(some 28), none, .slc false 1 (.t 26) (some (.t 27)) none⟩,
       ⟨(some 29), none, .nilc (.t 22)⟩,
       ⟨(some 30), none, .faddr (.t 29) 0⟩,
       ⟨none, none, .store 1 (.t 30) (.t 28)⟩])
     (.seq
      (.reg [⟨(some 31), none, .take 5⟩,
        ⟨(some 4), none, .take 31⟩])
      .ret)))))
def ar54 : List AR := [.t 4]
theorem comp54 : Try.f54.body.bind (comp Try.prog 32) = some ac54 := by kernel_rfl
theorem cres54 : compRes Try.prog Try.f54.results.toList = some ar54 := by kernel_rfl
end Go.Proofs.Ytabidcdfmkkegaa
