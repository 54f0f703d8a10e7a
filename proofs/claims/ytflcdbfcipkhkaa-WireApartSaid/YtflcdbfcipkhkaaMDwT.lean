import Derived.Test.YtflcdbfcipkhkaaAvL3
import Derived.Test.YtflcdbfcipkhkaaProg
import Derived.KernelRfl
import Derived.Test.YtflcdbfcipkhkaaMDwM

set_option linter.unusedVariables false
set_option linter.unusedSimpArgs false

set_option maxRecDepth 100000
namespace Go.Proofs.Ytflcdbfcipkhkaa
open Go.Av
/-- bilander/bilanderlaw22.WireAsks -/
def ac4 : AC :=
 (.seq
  (.reg [⟨(some 3), none, .box 18 (.t 0)⟩,
    ⟨(some 4), none, .box 18 (.t 1)⟩,
    ⟨(some 6), none, .mv (.c (.bool false))⟩])
  (.seq
   (.seq
    (.reg [⟨(some 11), none, .load (some 18) (.t 3)⟩,
      ⟨(some 12), none, .call 29 [(.t 11)]⟩,
      ⟨(some 13), none, .una .not (.t 12)⟩,
      ⟨(some 14), none, .take 13⟩,
      ⟨(some 15), (some (14, false)), .load (some 18) (.t 4)⟩,
      ⟨(some 16), (some (14, false)), .call 29 [(.t 15)]⟩,
      ⟨(some 17), (some (14, false)), .una .not (.t 16)⟩,
      ⟨(some 18), none, .pick (.t 14) (.c (.bool true)) (.t 17)⟩])
    (.cond (.t 18)
     (.seq
      (.reg [⟨(some 19), none, .call 30 []⟩,
        ⟨(some 6), none, .take 19⟩])
      .ret)
     .skip))
   (.seq
    (.reg [⟨(some 21), none, .load (some 18) (.t 3)⟩,
      ⟨(some 22), none, .call 31 [(.t 21)]⟩,
      ⟨(some 20), none, .take 22⟩,
      ⟨(some 23), none, .ext 20 0⟩,
      ⟨(some 24), none, .ext 20 1⟩,
      ⟨(some 7), none, .take 23⟩,
      ⟨(some 8), none, .take 24⟩])
    (.seq
     (.reg [⟨(some 26), none, .load (some 18) (.t 3)⟩,
       ⟨(some 27), none, .call 32 [(.t 26)]⟩,
       ⟨(some 25), none, .take 27⟩,
       ⟨(some 28), none, .ext 25 0⟩,
       ⟨(some 29), none, .ext 25 1⟩,
       ⟨(some 9), none, .take 28⟩,
       ⟨(some 10), none, .take 29⟩])
     (.seq
      (.dreg [] [⟨(some 30), none, .mv (.t 7)⟩,
        ⟨(some 31), none, .b2s (.t 30)⟩,
        ⟨(some 32), none, .mv (.t 9)⟩,
        ⟨(some 33), none, .b2s (.t 32)⟩,
        ⟨(some 34), none, .bin .eql (.t 31) (.t 33)⟩,
        ⟨(some 35), none, .mv (.t 34)⟩,
        ⟨(some 36), (some (35, true)), .mv (.t 8)⟩,
        ⟨(some 37), (some (35, true)), .mv (.t 10)⟩,
        ⟨(some 38), (some (35, true)), .bin .eql (.t 36) (.t 37)⟩,
        ⟨(some 39), none, .pick (.t 35) (.t 38) (.c (.bool false))⟩,
        ⟨(some 40), none, .mv (.t 39)⟩,
        ⟨(some 41), (some (40, true)), .load (some 18) (.t 3)⟩,
        ⟨(some 42), (some (40, true)), .load (some 18) (.t 4)⟩,
        ⟨(some 43), (some (40, true)), .call 33 [(.t 41), (.t 42)]⟩,
        ⟨(some 44), (some (40, true)), .load (some 18) (.t 3)⟩,
        ⟨(some 45), (some (40, true)), .load (some 18) (.t 4)⟩,
        ⟨(some 46), (some (40, true)), .call 34 [(.t 44), (.t 45)]⟩,
        ⟨(some 47), (some (40, true)), .beq false (.t 43) (.t 46)⟩,
        ⟨(some 48), none, .pick (.t 40) (.t 47) (.c (.bool false))⟩,
        ⟨(some 49), none, .mv (.t 48)⟩,
        ⟨(some 50), (some (49, true)), .mv (.t 2)⟩,
        ⟨(some 51), (some (49, true)), .call 35 [(.t 50)]⟩,
        ⟨(some 52), (some (49, true)), .mv (.t 2)⟩,
        ⟨(some 53), (some (49, true)), .call 36 [(.t 52)]⟩,
        ⟨(some 54), (some (49, true)), .bin .eql (.t 51) (.t 53)⟩,
        ⟨(some 55), none, .pick (.t 49) (.t 54) (.c (.bool false))⟩,
        ⟨(some 56), none, .mv (.t 55)⟩,
        ⟨(some 57), (some (56, true)), .call 30 []⟩,
        ⟨(some 58), none, .pick (.t 56) (.t 57) (.c (.bool false))⟩,
        ⟨(some 6), none, .take 58⟩])
      .ret)))))
def ar4 : List AR := [.t 6]
theorem comp4 : Try.f4.body.bind (comp Try.prog 59) = some ac4 := by kernel_rfl
theorem cres4 : compRes Try.prog Try.f4.results.toList = some ar4 := by kernel_rfl
/-- bilander/bilanderlaw22.WireAnswers -/
def ac5 : AC :=
 (.seq
  (.reg [⟨(some 2), none, .box 9 (.t 0)⟩,
    ⟨(some 3), none, .box 9 (.t 1)⟩,
    ⟨(some 4), none, .mv (.c (.bool false))⟩])
  (.seq
   (.seq
    (.reg [⟨(some 9), none, .load (some 9) (.t 2)⟩,
      ⟨(some 10), none, .call 37 [(.t 9)]⟩,
      ⟨(some 11), none, .una .not (.t 10)⟩,
      ⟨(some 12), none, .take 11⟩,
      ⟨(some 13), (some (12, false)), .load (some 9) (.t 3)⟩,
      ⟨(some 14), (some (12, false)), .call 37 [(.t 13)]⟩,
      ⟨(some 15), (some (12, false)), .una .not (.t 14)⟩,
      ⟨(some 16), none, .pick (.t 12) (.c (.bool true)) (.t 15)⟩])
    (.cond (.t 16)
     (.seq
      (.reg [⟨(some 17), none, .call 30 []⟩,
        ⟨(some 4), none, .take 17⟩])
      .ret)
     .skip))
   (.seq
    (.reg [⟨(some 19), none, .load (some 9) (.t 2)⟩,
      ⟨(some 20), none, .call 38 [(.t 19)]⟩,
      ⟨(some 18), none, .take 20⟩,
      ⟨(some 21), none, .ext 18 0⟩,
      ⟨(some 22), none, .ext 18 1⟩,
      ⟨(some 5), none, .take 21⟩,
      ⟨(some 6), none, .take 22⟩])
    (.seq
     (.reg [⟨(some 24), none, .load (some 9) (.t 2)⟩,
       ⟨(some 25), none, .call 39 [(.t 24)]⟩,
       ⟨(some 23), none, .take 25⟩,
       ⟨(some 26), none, .ext 23 0⟩,
       ⟨(some 27), none, .ext 23 1⟩,
       ⟨(some 7), none, .take 26⟩,
       ⟨(some 8), none, .take 27⟩])
     (.seq
      (.dreg [] [⟨(some 28), none, .mv (.t 5)⟩,
        ⟨(some 29), none, .b2s (.t 28)⟩,
        ⟨(some 30), none, .mv (.t 7)⟩,
        ⟨(some 31), none, .b2s (.t 30)⟩,
        ⟨(some 32), none, .bin .eql (.t 29) (.t 31)⟩,
        ⟨(some 33), none, .mv (.t 32)⟩,
        ⟨(some 34), (some (33, true)), .mv (.t 6)⟩,
        ⟨(some 35), (some (33, true)), .mv (.t 8)⟩,
        ⟨(some 36), (some (33, true)), .bin .eql (.t 34) (.t 35)⟩,
        ⟨(some 37), none, .pick (.t 33) (.t 36) (.c (.bool false))⟩,
        ⟨(some 38), none, .mv (.t 37)⟩,
        ⟨(some 39), (some (38, true)), .load (some 9) (.t 2)⟩,
        ⟨(some 40), (some (38, true)), .load (some 9) (.t 3)⟩,
        ⟨(some 41), (some (38, true)), .call 40 [(.t 39), (.t 40)]⟩,
        ⟨(some 42), (some (38, true)), .load (some 9) (.t 2)⟩,
        ⟨(some 43), (some (38, true)), .load (some 9) (.t 3)⟩,
        ⟨(some 44), (some (38, true)), .call 41 [(.t 42), (.t 43)]⟩,
        ⟨(some 45), (some (38, true)), .beq false (.t 41) (.t 44)⟩,
        ⟨(some 46), none, .pick (.t 38) (.t 45) (.c (.bool false))⟩,
        ⟨(some 47), none, .mv (.t 46)⟩,
        ⟨(some 48), (some (47, true)), .call 30 []⟩,
        ⟨(some 49), none, .pick (.t 47) (.t 48) (.c (.bool false))⟩,
        ⟨(some 4), none, .take 49⟩])
      .ret)))))
def ar5 : List AR := [.t 4]
theorem comp5 : Try.f5.body.bind (comp Try.prog 50) = some ac5 := by kernel_rfl
theorem cres5 : compRes Try.prog Try.f5.results.toList = some ar5 := by kernel_rfl
/-- bilander/bilanderlaw22.WireReads -/
def ac6 : AC :=
 (.seq
  (.reg [⟨(some 4), none, .mv (.c (.bool false))⟩])
  (.seq
   (.seq
    (.reg [⟨(some 13), none, .mv (.t 0)⟩,
      ⟨(some 14), none, .len false (.t 13)⟩,
      ⟨(some 15), none, .bin .gtr (.t 14) (.c (.int .i64 1000))⟩,
      ⟨(some 16), none, .take 15⟩,
      ⟨(some 17), (some (16, false)), .mv (.t 1)⟩,
      ⟨(some 18), (some (16, false)), .len false (.t 17)⟩,
      ⟨(some 19), (some (16, false)), .bin .gtr (.t 18) (.c (.int .i64 1000))⟩,
      ⟨(some 20), none, .pick (.t 16) (.c (.bool true)) (.t 19)⟩])
    (.cond (.t 20)
     (.seq
      (.reg [⟨(some 21), none, .call 30 []⟩,
        ⟨(some 4), none, .take 21⟩])
      .ret)
     .skip))
   (.seq
    (.reg [⟨(some 23), none, .mv (.t 0)⟩,
      ⟨(some 24), none, .call 42 [(.t 23)]⟩,
      ⟨(some 22), none, .take 24⟩,
      ⟨(some 25), none, .extS 22 0⟩,
      ⟨(some 26), none, .ext 22 1⟩,
      ⟨(some 5), none, .alloc [(.int .u8 0), (.str (ByteArray.mk #[])), (.int .i64 0), (.int .i64 0), (.bool false), (.bool false), (.int .i64 0), (.int .i64 0), (.int .i64 0), (.str (ByteArray.mk #[])), (.str (ByteArray.mk #[])), (.int .i64 0), (.int .i64 0), (.int .i64 0), (.int .i64 0), (.int .i64 0), (.int .i64 0), .nils]⟩,
      ⟨none, none, .store 18 (.t 5) (.t 25)⟩,
      ⟨(some 6), none, .take 26⟩])
    (.seq
     (.reg [⟨(some 28), none, .mv (.t 0)⟩,
       ⟨(some 29), none, .call 43 [(.t 28)]⟩,
       ⟨(some 27), none, .take 29⟩,
       ⟨(some 30), none, .extS 27 0⟩,
       ⟨(some 31), none, .ext 27 1⟩,
       ⟨(some 7), none, .alloc [(.int .u8 0), (.str (ByteArray.mk #[])), (.int .i64 0), (.int .i64 0), (.bool false), (.bool false), (.int .i64 0), (.int .i64 0), (.int .i64 0), (.str (ByteArray.mk #[])), (.str (ByteArray.mk #[])), (.int .i64 0), (.int .i64 0), (.int .i64 0), (.int .i64 0), (.int .i64 0), (.int .i64 0), .nils]⟩,
       ⟨none, none, .store 18 (.t 7) (.t 30)⟩,
       ⟨(some 8), none, .take 31⟩])
     (.seq
      (.reg [⟨(some 33), none, .mv (.t 1)⟩,
        ⟨(some 34), none, .call 44 [(.t 33)]⟩,
        ⟨(some 32), none, .take 34⟩,
        ⟨(some 35), none, .extS 32 0⟩,
        ⟨(some 36), none, .ext 32 1⟩,
        ⟨(some 9), none, .alloc [(.int .u8 0), (.int .i64 0), (.int .i64 0), (.int .i64 0), (.bool false), (.int .i64 0), .nils, .nils, .nils]⟩,
        ⟨none, none, .store 9 (.t 9) (.t 35)⟩,
        ⟨(some 10), none, .take 36⟩])
      (.seq
       (.reg [⟨(some 38), none, .mv (.t 1)⟩,
         ⟨(some 39), none, .call 45 [(.t 38)]⟩,
         ⟨(some 37), none, .take 39⟩,
         ⟨(some 40), none, .extS 37 0⟩,
         ⟨(some 41), none, .ext 37 1⟩,
         ⟨(some 11), none, .alloc [(.int .u8 0), (.int .i64 0), (.int .i64 0), (.int .i64 0), (.bool false), (.int .i64 0), .nils, .nils, .nils]⟩,
         ⟨none, none, .store 9 (.t 11) (.t 40)⟩,
         ⟨(some 12), none, .take 41⟩])
       (.seq
        (.reg [⟨(some 42), none, .load (some 18) (.t 5)⟩,
          ⟨(some 43), none, .load (some 18) (.t 7)⟩,
          ⟨(some 44), none, .call 34 [(.t 42), (.t 43)]⟩,
          ⟨(some 45), none, .take 44⟩,
          ⟨(some 46), (some (45, true)), .mv (.t 6)⟩,
          ⟨(some 47), (some (45, true)), .mv (.t 8)⟩,
          ⟨(some 48), (some (45, true)), .bin .eql (.t 46) (.t 47)⟩,
          ⟨(some 49), none, .pick (.t 45) (.t 48) (.c (.bool false))⟩,
          ⟨(some 50), none, .take 49⟩,
          ⟨(some 51), (some (50, true)), .load (some 9) (.t 9)⟩,
          ⟨(some 52), (some (50, true)), .load (some 9) (.t 11)⟩,
          ⟨(some 53), (some (50, true)), .call 41 [(.t 51), (.t 52)]⟩,
          ⟨(some 54), none, .pick (.t 50) (.t 53) (.c (.bool false))⟩,
          ⟨(some 55), none, .take 54⟩,
          ⟨(some 56), (some (55, true)), .mv (.t 10)⟩,
          ⟨(some 57), (some (55, true)), .mv (.t 12)⟩,
          ⟨(some 58), (some (55, true)), .bin .eql (.t 56) (.t 57)⟩,
          ⟨(some 59), none, .pick (.t 55) (.t 58) (.c (.bool false))⟩,
          ⟨(some 60), none, .take 59⟩,
          ⟨(some 61), (some (60, true)), .call 30 []⟩,
          ⟨(some 62), none, .pick (.t 60) (.t 61) (.c (.bool false))⟩,
          ⟨(some 4), none, .take 62⟩])
        .ret)))))))
def ar6 : List AR := [.t 4]
theorem comp6 : Try.f6.body.bind (comp Try.prog 63) = some ac6 := by kernel_rfl
theorem cres6 : compRes Try.prog Try.f6.results.toList = some ar6 := by kernel_rfl
/-- bilander/bilanderlaw22.WireBack -/
def ac7 : AC :=
 (.seq
  (.reg [⟨(some 2), none, .box 18 (.t 0)⟩,
    ⟨(some 3), none, .box 9 (.t 1)⟩,
    ⟨(some 4), none, .mv (.c (.bool false))⟩])
  (.seq
   (.seq
    (.reg [⟨(some 20), none, .load (some 18) (.t 2)⟩,
      ⟨(some 21), none, .call 29 [(.t 20)]⟩,
      ⟨(some 22), none, .una .not (.t 21)⟩,
      ⟨(some 23), none, .take 22⟩,
      ⟨(some 24), (some (23, false)), .load (some 9) (.t 3)⟩,
      ⟨(some 25), (some (23, false)), .call 37 [(.t 24)]⟩,
      ⟨(some 26), (some (23, false)), .una .not (.t 25)⟩,
      ⟨(some 27), none, .pick (.t 23) (.c (.bool true)) (.t 26)⟩])
    (.cond (.t 27)
     (.seq
      (.reg [⟨(some 28), none, .call 30 []⟩,
        ⟨(some 4), none, .take 28⟩])
      .ret)
     .skip))
   (.seq
    (.reg [⟨(some 30), none, .load (some 18) (.t 2)⟩,
      ⟨(some 31), none, .call 31 [(.t 30)]⟩,
      ⟨(some 29), none, .take 31⟩,
      ⟨(some 32), none, .ext 29 0⟩,
      ⟨(some 33), none, .ext 29 1⟩,
      ⟨(some 5), none, .take 32⟩,
      ⟨(some 6), none, .take 33⟩])
    (.seq
     (.seq
      (.reg [⟨(some 34), none, .mv (.t 6)⟩,
        ⟨(some 35), none, .bin .eql (.t 34) (.c (.int .i64 0))⟩])
      (.cond (.t 35)
       (.seq
        (.seq
         (.reg [⟨(some 36), none, .mv (.t 5)⟩,
           ⟨(some 37), none, .len false (.t 36)⟩,
           ⟨(some 38), none, .bin .eql (.t 37) (.c (.int .i64 0))⟩])
         (.cond (.t 38)
          (.seq
           (.reg [⟨(some 4), none, .mv (.c (.bool false))⟩])
           .ret)
          .skip))
        (.seq
         (.reg [⟨(some 40), none, .mv (.t 5)⟩,
           ⟨(some 41), none, .call 42 [(.t 40)]⟩,
           ⟨(some 39), none, .take 41⟩,
           ⟨(some 42), none, .extS 39 0⟩,
           ⟨(some 43), none, .ext 39 1⟩,
           ⟨(some 7), none, .alloc [(.int .u8 0), (.str (ByteArray.mk #[])), (.int .i64 0), (.int .i64 0), (.bool false), (.bool false), (.int .i64 0), (.int .i64 0), (.int .i64 0), (.str (ByteArray.mk #[])), (.str (ByteArray.mk #[])), (.int .i64 0), (.int .i64 0), (.int .i64 0), (.int .i64 0), (.int .i64 0), (.int .i64 0), .nils]⟩,
           ⟨none, none, .store 18 (.t 7) (.t 42)⟩,
           ⟨(some 8), none, .take 43⟩])
         (.seq
          (.reg [⟨(some 45), none, .bsl 1 0 [(.int .u8 0)] []⟩,
            ⟨(some 46), none, .mv (.t 5)⟩,
            ⟨(some 47), none, .app 1 1 45 (.t 46)⟩,
            ⟨(some 48), none, .bsl 1 1 [(.int .u8 0)] [(0, (.c (.int .u8 0)))]⟩,
            ⟨(some 49), none, .app 1 1 47 (.t 48)⟩,
            ⟨(some 50), none, .call 42 [(.t 49)]⟩,
            ⟨(some 44), none, .take 50⟩,
            ⟨(some 51), none, .extS 44 0⟩,
            ⟨(some 52), none, .ext 44 1⟩,
            ⟨(some 9), none, .alloc [(.int .u8 0), (.str (ByteArray.mk #[])), (.int .i64 0), (.int .i64 0), (.bool false), (.bool false), (.int .i64 0), (.int .i64 0), (.int .i64 0), (.str (ByteArray.mk #[])), (.str (ByteArray.mk #[])), (.int .i64 0), (.int .i64 0), (.int .i64 0), (.int .i64 0), (.int .i64 0), (.int .i64 0), .nils]⟩,
            ⟨none, none, .store 18 (.t 9) (.t 51)⟩,
            ⟨(some 10), none, .take 52⟩])
          (.seq
           (.reg [⟨(some 54), none, .mv (.t 5)⟩,
             ⟨(some 55), none, .mv (.t 5)⟩,
             ⟨(some 56), none, .len false (.t 55)⟩,
             ⟨(some 57), none, .bin .sub (.t 56) (.c (.int .i64 1))⟩,
             ⟨(some 58), none, .slc false 1 (.t 54) none (some (.t 57))⟩,
             ⟨(some 59), none, .call 42 [(.t 58)]⟩,
             ⟨(some 53), none, .take 59⟩,
             ⟨(some 60), none, .extS 53 0⟩,
             ⟨(some 61), none, .ext 53 1⟩,
             ⟨(some 11), none, .alloc [(.int .u8 0), (.str (ByteArray.mk #[])), (.int .i64 0), (.int .i64 0), (.bool false), (.bool false), (.int .i64 0), (.int .i64 0), (.int .i64 0), (.str (ByteArray.mk #[])), (.str (ByteArray.mk #[])), (.int .i64 0), (.int .i64 0), (.int .i64 0), (.int .i64 0), (.int .i64 0), (.int .i64 0), .nils]⟩,
             ⟨none, none, .store 18 (.t 11) (.t 60)⟩,
             ⟨(some 12), none, .take 61⟩])
           (.seq
            (.reg [⟨(some 62), none, .mv (.t 8)⟩,
              ⟨(some 63), none, .bin .neq (.t 62) (.c (.int .i64 0))⟩,
              ⟨(some 64), none, .take 63⟩,
              ⟨(some 65), (some (64, false)), .load (some 18) (.t 7)⟩,
              ⟨(some 66), (some (64, false)), .load (some 18) (.t 2)⟩,
              ⟨(some 67), (some (64, false)), .call 33 [(.t 65), (.t 66)]⟩,
              ⟨(some 68), (some (64, false)), .una .not (.t 67)⟩,
              ⟨(some 69), none, .pick (.t 64) (.c (.bool true)) (.t 68)⟩,
              ⟨(some 70), none, .take 69⟩,
              ⟨(some 71), (some (70, false)), .mv (.t 10)⟩,
              ⟨(some 72), (some (70, false)), .bin .neq (.t 71) (.c (.int .i64 4))⟩,
              ⟨(some 73), none, .pick (.t 70) (.c (.bool true)) (.t 72)⟩,
              ⟨(some 74), none, .take 73⟩,
              ⟨(some 75), (some (74, false)), .mv (.t 12)⟩,
              ⟨(some 76), (some (74, false)), .bin .neq (.t 75) (.c (.int .i64 4))⟩,
              ⟨(some 77), none, .pick (.t 74) (.c (.bool true)) (.t 76)⟩])
            (.cond (.t 77)
             (.seq
              (.reg [⟨(some 4), none, .mv (.c (.bool false))⟩])
              .ret)
             .skip))))))
       .skip))
     (.seq
      (.reg [⟨(some 79), none, .load (some 9) (.t 3)⟩,
        ⟨(some 80), none, .call 38 [(.t 79)]⟩,
        ⟨(some 78), none, .take 80⟩,
        ⟨(some 81), none, .ext 78 0⟩,
        ⟨(some 82), none, .ext 78 1⟩,
        ⟨(some 13), none, .take 81⟩,
        ⟨(some 6), none, .take 82⟩])
      (.seq
       (.seq
        (.reg [⟨(some 83), none, .mv (.t 6)⟩,
          ⟨(some 84), none, .bin .eql (.t 83) (.c (.int .i64 0))⟩])
        (.cond (.t 84)
         (.seq
          (.seq
           (.reg [⟨(some 85), none, .mv (.t 13)⟩,
             ⟨(some 86), none, .len false (.t 85)⟩,
             ⟨(some 87), none, .bin .eql (.t 86) (.c (.int .i64 0))⟩])
           (.cond (.t 87)
            (.seq
             (.reg [⟨(some 4), none, .mv (.c (.bool false))⟩])
             .ret)
            .skip))
          (.seq
           (.reg [⟨(some 89), none, .mv (.t 13)⟩,
             ⟨(some 90), none, .call 44 [(.t 89)]⟩,
             ⟨(some 88), none, .take 90⟩,
             ⟨(some 91), none, .extS 88 0⟩,
             ⟨(some 92), none, .ext 88 1⟩,
             ⟨(some 14), none, .alloc [(.int .u8 0), (.int .i64 0), (.int .i64 0), (.int .i64 0), (.bool false), (.int .i64 0), .nils, .nils, .nils]⟩,
             ⟨none, none, .store 9 (.t 14) (.t 91)⟩,
             ⟨(some 15), none, .take 92⟩])
           (.seq
            (.reg [⟨(some 94), none, .bsl 1 0 [(.int .u8 0)] []⟩,
              ⟨(some 95), none, .mv (.t 13)⟩,
              ⟨(some 96), none, .app 1 1 94 (.t 95)⟩,
              ⟨(some 97), none, .bsl 1 1 [(.int .u8 0)] [(0, (.c (.int .u8 0)))]⟩,
              ⟨(some 98), none, .app 1 1 96 (.t 97)⟩,
              ⟨(some 99), none, .call 44 [(.t 98)]⟩,
              ⟨(some 93), none, .take 99⟩,
              ⟨(some 100), none, .extS 93 0⟩,
              ⟨(some 101), none, .ext 93 1⟩,
              ⟨(some 16), none, .alloc [(.int .u8 0), (.int .i64 0), (.int .i64 0), (.int .i64 0), (.bool false), (.int .i64 0), .nils, .nils, .nils]⟩,
              ⟨none, none, .store 9 (.t 16) (.t 100)⟩,
              ⟨(some 17), none, .take 101⟩])
            (.seq
             (.reg [⟨(some 103), none, .mv (.t 13)⟩,
               ⟨(some 104), none, .mv (.t 13)⟩,
               ⟨(some 105), none, .len false (.t 104)⟩,
               ⟨(some 106), none, .bin .sub (.t 105) (.c (.int .i64 1))⟩,
               ⟨(some 107), none, .slc false 1 (.t 103) none (some (.t 106))⟩,
               ⟨(some 108), none, .call 44 [(.t 107)]⟩,
               ⟨(some 102), none, .take 108⟩,
               ⟨(some 109), none, .extS 102 0⟩,
               ⟨(some 110), none, .ext 102 1⟩,
               ⟨(some 18), none, .alloc [(.int .u8 0), (.int .i64 0), (.int .i64 0), (.int .i64 0), (.bool false), (.int .i64 0), .nils, .nils, .nils]⟩,
               ⟨none, none, .store 9 (.t 18) (.t 109)⟩,
               ⟨(some 19), none, .take 110⟩])
             (.seq
              (.reg [⟨(some 111), none, .mv (.t 15)⟩,
                ⟨(some 112), none, .bin .neq (.t 111) (.c (.int .i64 0))⟩,
                ⟨(some 113), none, .take 112⟩,
                ⟨(some 114), (some (113, false)), .load (some 9) (.t 14)⟩,
                ⟨(some 115), (some (113, false)), .load (some 9) (.t 3)⟩,
                ⟨(some 116), (some (113, false)), .call 40 [(.t 114), (.t 115)]⟩,
                ⟨(some 117), (some (113, false)), .una .not (.t 116)⟩,
                ⟨(some 118), none, .pick (.t 113) (.c (.bool true)) (.t 117)⟩,
                ⟨(some 119), none, .take 118⟩,
                ⟨(some 120), (some (119, false)), .mv (.t 17)⟩,
                ⟨(some 121), (some (119, false)), .bin .neq (.t 120) (.c (.int .i64 4))⟩,
                ⟨(some 122), none, .pick (.t 119) (.c (.bool true)) (.t 121)⟩,
                ⟨(some 123), none, .take 122⟩,
                ⟨(some 124), (some (123, false)), .mv (.t 19)⟩,
                ⟨(some 125), (some (123, false)), .bin .neq (.t 124) (.c (.int .i64 4))⟩,
                ⟨(some 126), none, .pick (.t 123) (.c (.bool true)) (.t 125)⟩])
              (.cond (.t 126)
               (.seq
                (.reg [⟨(some 4), none, .mv (.c (.bool false))⟩])
                .ret)
               .skip))))))
         .skip))
       (.seq
        (.reg [⟨(some 127), none, .call 30 []⟩,
          ⟨(some 4), none, .take 127⟩])
        .ret)))))))
def ar7 : List AR := [.t 4]
theorem comp7 : Try.f7.body.bind (comp Try.prog 128) = some ac7 := by kernel_rfl
theorem cres7 : compRes Try.prog Try.f7.results.toList = some ar7 := by kernel_rfl
/-- bilander/bilanderlaw22.WireApart -/
def ac8 : AC :=
 (.seq
  (.reg [⟨(some 3), none, .box 18 (.t 0)⟩,
    ⟨(some 4), none, .box 18 (.t 1)⟩,
    ⟨(some 5), none, .box 18 (.t 2)⟩,
    ⟨(some 6), none, .mv (.c (.bool false))⟩])
  (.seq
   (.seq
    (.reg [⟨(some 13), none, .load (some 18) (.t 3)⟩,
      ⟨(some 14), none, .call 29 [(.t 13)]⟩,
      ⟨(some 15), none, .una .not (.t 14)⟩,
      ⟨(some 16), none, .take 15⟩,
      ⟨(some 17), (some (16, false)), .load (some 18) (.t 4)⟩,
      ⟨(some 18), (some (16, false)), .call 29 [(.t 17)]⟩,
      ⟨(some 19), (some (16, false)), .una .not (.t 18)⟩,
      ⟨(some 20), none, .pick (.t 16) (.c (.bool true)) (.t 19)⟩,
      ⟨(some 21), none, .take 20⟩,
      ⟨(some 22), (some (21, false)), .iaddrA 2 9 (.t 5) (.c (.int .i64 0))⟩,
      ⟨(some 23), (some (21, false)), .load (some 9) (.t 22)⟩,
      ⟨(some 24), (some (21, false)), .call 37 [(.t 23)]⟩,
      ⟨(some 25), (some (21, false)), .una .not (.t 24)⟩,
      ⟨(some 26), none, .pick (.t 21) (.c (.bool true)) (.t 25)⟩,
      ⟨(some 27), none, .take 26⟩,
      ⟨(some 28), (some (27, false)), .iaddrA 2 9 (.t 5) (.c (.int .i64 1))⟩,
      ⟨(some 29), (some (27, false)), .load (some 9) (.t 28)⟩,
      ⟨(some 30), (some (27, false)), .call 37 [(.t 29)]⟩,
      ⟨(some 31), (some (27, false)), .una .not (.t 30)⟩,
      ⟨(some 32), none, .pick (.t 27) (.c (.bool true)) (.t 31)⟩])
    (.cond (.t 32)
     (.seq
      (.reg [⟨(some 33), none, .call 30 []⟩,
        ⟨(some 6), none, .take 33⟩])
      .ret)
     .skip))
   (.seq
    (.reg [⟨(some 35), none, .load (some 18) (.t 3)⟩,
      ⟨(some 36), none, .call 31 [(.t 35)]⟩,
      ⟨(some 34), none, .take 36⟩,
      ⟨(some 37), none, .ext 34 0⟩,
      ⟨(some 38), none, .ext 34 1⟩,
      ⟨(some 7), none, .take 37⟩,
      ⟨(some 8), none, .take 38⟩])
    (.seq
     (.reg [⟨(some 40), none, .load (some 18) (.t 4)⟩,
       ⟨(some 41), none, .call 31 [(.t 40)]⟩,
       ⟨(some 39), none, .take 41⟩,
       ⟨(some 42), none, .ext 39 0⟩,
       ⟨(some 43), none, .ext 39 1⟩,
       ⟨(some 9), none, .take 42⟩,
       ⟨(some 10), none, .take 43⟩])
     (.seq
      (.seq
       (.dreg [] [⟨(some 44), none, .mv (.t 8)⟩,
         ⟨(some 45), none, .bin .eql (.t 44) (.c (.int .i64 0))⟩,
         ⟨(some 46), none, .mv (.t 45)⟩,
         ⟨(some 47), (some (46, true)), .mv (.t 10)⟩,
         ⟨(some 48), (some (46, true)), .bin .eql (.t 47) (.c (.int .i64 0))⟩,
         ⟨(some 49), none, .pick (.t 46) (.t 48) (.c (.bool false))⟩,
         ⟨(some 50), none, .mv (.t 49)⟩,
         ⟨(some 51), (some (50, true)), .mv (.t 7)⟩,
         ⟨(some 52), (some (50, true)), .b2s (.t 51)⟩,
         ⟨(some 53), (some (50, true)), .mv (.t 9)⟩,
         ⟨(some 54), (some (50, true)), .b2s (.t 53)⟩,
         ⟨(some 55), (some (50, true)), .bin .eql (.t 52) (.t 54)⟩,
         ⟨(some 56), (some (50, true)), .load (some 18) (.t 3)⟩,
         ⟨(some 57), (some (50, true)), .load (some 18) (.t 4)⟩,
         ⟨(some 58), (some (50, true)), .call 33 [(.t 56), (.t 57)]⟩,
         ⟨(some 59), (some (50, true)), .beq true (.t 55) (.t 58)⟩,
         ⟨(some 60), none, .pick (.t 50) (.t 59) (.c (.bool false))⟩])
       (.cond (.t 60)
        (.seq
         (.reg [⟨(some 6), none, .mv (.c (.bool false))⟩])
         .ret)
        .skip))
      (.seq
       (.reg [⟨(some 62), none, .iaddrA 2 9 (.t 5) (.c (.int .i64 0))⟩,
         ⟨(some 63), none, .load (some 9) (.t 62)⟩,
         ⟨(some 64), none, .call 38 [(.t 63)]⟩,
         ⟨(some 61), none, .take 64⟩,
         ⟨(some 65), none, .ext 61 0⟩,
         ⟨(some 66), none, .ext 61 1⟩,
         ⟨(some 11), none, .take 65⟩,
         ⟨(some 8), none, .take 66⟩])
       (.seq
        (.reg [⟨(some 68), none, .iaddrA 2 9 (.t 5) (.c (.int .i64 1))⟩,
          ⟨(some 69), none, .load (some 9) (.t 68)⟩,
          ⟨(some 70), none, .call 38 [(.t 69)]⟩,
          ⟨(some 67), none, .take 70⟩,
          ⟨(some 71), none, .ext 67 0⟩,
          ⟨(some 72), none, .ext 67 1⟩,
          ⟨(some 12), none, .take 71⟩,
          ⟨(some 10), none, .take 72⟩])
        (.seq
         (.dreg [] [⟨(some 73), none, .mv (.t 8)⟩,
           ⟨(some 74), none, .bin .neq (.t 73) (.c (.int .i64 0))⟩,
           ⟨(some 75), none, .mv (.t 74)⟩,
           ⟨(some 76), (some (75, false)), .mv (.t 10)⟩,
           ⟨(some 77), (some (75, false)), .bin .neq (.t 76) (.c (.int .i64 0))⟩,
           ⟨(some 78), none, .pick (.t 75) (.c (.bool true)) (.t 77)⟩,
           ⟨(some 79), none, .mv (.t 78)⟩,
           ⟨(some 80), (some (79, false)), .mv (.t 11)⟩,
           ⟨(some 81), (some (79, false)), .b2s (.t 80)⟩,
           ⟨(some 82), (some (79, false)), .mv (.t 12)⟩,
           ⟨(some 83), (some (79, false)), .b2s (.t 82)⟩,
           ⟨(some 84), (some (79, false)), .bin .eql (.t 81) (.t 83)⟩,
           ⟨(some 85), (some (79, false)), .iaddrA 2 9 (.t 5) (.c (.int .i64 0))⟩,
           ⟨(some 86), (some (79, false)), .load (some 9) (.t 85)⟩,
           ⟨(some 87), (some (79, false)), .iaddrA 2 9 (.t 5) (.c (.int .i64 1))⟩,
           ⟨(some 88), (some (79, false)), .load (some 9) (.t 87)⟩,
           ⟨(some 89), (some (79, false)), .call 40 [(.t 86), (.t 88)]⟩,
           ⟨(some 90), (some (79, false)), .beq false (.t 84) (.t 89)⟩,
           ⟨(some 91), none, .pick (.t 79) (.c (.bool true)) (.t 90)⟩,
           ⟨(some 92), none, .mv (.t 91)⟩,
           ⟨(some 93), (some (92, true)), .call 30 []⟩,
           ⟨(some 94), none, .pick (.t 92) (.t 93) (.c (.bool false))⟩,
           ⟨(some 6), none, .take 94⟩])
         .ret))))))))
def ar8 : List AR := [.t 6]
theorem comp8 : Try.f8.body.bind (comp Try.prog 95) = some ac8 := by kernel_rfl
theorem cres8 : compRes Try.prog Try.f8.results.toList = some ar8 := by kernel_rfl
/-- bilander/bilanderlaw22.awake -/
def ac30 : AC :=
 (.seq
  (.reg [⟨(some 0), none, .mv (.c (.bool false))⟩])
  (.seq
   (.reg [⟨(some 11), none, .build [(.int .u8 0), (.str (ByteArray.mk #[])), (.int .i64 0), (.int .i64 0), (.bool false), (.bool false), (.int .i64 0), (.int .i64 0), (.int .i64 0), (.str (ByteArray.mk #[])), (.str (ByteArray.mk #[])), (.int .i64 0), (.int .i64 0), (.int .i64 0), (.int .i64 0), (.int .i64 0), (.int .i64 0), .nils] [(0, 1, (.c (.int .u8 8))), (9, 1, (.c (.str (ByteArray.mk #[103])))), (10, 1, (.c (.str (ByteArray.mk #[97])))), (11, 1, (.c (.int .i64 2)))]⟩,
     ⟨(some 1), none, .alloc [(.int .u8 0), (.str (ByteArray.mk #[])), (.int .i64 0), (.int .i64 0), (.bool false), (.bool false), (.int .i64 0), (.int .i64 0), (.int .i64 0), (.str (ByteArray.mk #[])), (.str (ByteArray.mk #[])), (.int .i64 0), (.int .i64 0), (.int .i64 0), (.int .i64 0), (.int .i64 0), (.int .i64 0), .nils]⟩,
     ⟨none, none, .store 18 (.t 1) (.t 11)⟩])
   (.seq
    (.reg [⟨(some 13), none, .load (some 18) (.t 1)⟩,
      ⟨(some 14), none, .call 31 [(.t 13)]⟩,
      ⟨(some 12), none, .take 14⟩,
      ⟨(some 15), none, .ext 12 0⟩,
      ⟨(some 16), none, .ext 12 1⟩,
      ⟨(some 2), none, .take 15⟩,
      ⟨(some 3), none, .take 16⟩])
    (.seq
     (.reg [⟨(some 18), none, .mv (.t 2)⟩,
       ⟨(some 19), none, .call 42 [(.t 18)]⟩,
       ⟨(some 17), none, .take 19⟩,
       ⟨(some 20), none, .extS 17 0⟩,
       ⟨(some 21), none, .ext 17 1⟩,
       ⟨(some 4), none, .alloc [(.int .u8 0), (.str (ByteArray.mk #[])), (.int .i64 0), (.int .i64 0), (.bool false), (.bool false), (.int .i64 0), (.int .i64 0), (.int .i64 0), (.str (ByteArray.mk #[])), (.str (ByteArray.mk #[])), (.int .i64 0), (.int .i64 0), (.int .i64 0), (.int .i64 0), (.int .i64 0), (.int .i64 0), .nils]⟩,
       ⟨none, none, .store 18 (.t 4) (.t 20)⟩,
       ⟨(some 5), none, .take 21⟩])
     (.seq
      (.reg [⟨(some 22), none, .bsl 1 1 [(.int .i64 0)] [(0, (.c (.int .i64 3)))]⟩,
        ⟨(some 23), none, .build [(.int .u8 0), (.int .i64 0), (.int .i64 0), (.int .i64 0), (.bool false), (.int .i64 0), .nils, .nils, .nils] [(0, 1, (.c (.int .u8 255))), (1, 1, (.c (.int .i64 4))), (7, 1, (.t 22))]⟩,
        ⟨(some 6), none, .alloc [(.int .u8 0), (.int .i64 0), (.int .i64 0), (.int .i64 0), (.bool false), (.int .i64 0), .nils, .nils, .nils]⟩,
        ⟨none, none, .store 9 (.t 6) (.t 23)⟩])
      (.seq
       (.reg [⟨(some 25), none, .load (some 9) (.t 6)⟩,
         ⟨(some 26), none, .call 38 [(.t 25)]⟩,
         ⟨(some 24), none, .take 26⟩,
         ⟨(some 27), none, .ext 24 0⟩,
         ⟨(some 28), none, .ext 24 1⟩,
         ⟨(some 7), none, .take 27⟩,
         ⟨(some 8), none, .take 28⟩])
       (.seq
        (.reg [⟨(some 30), none, .mv (.t 7)⟩,
          ⟨(some 31), none, .call 44 [(.t 30)]⟩,
          ⟨(some 29), none, .take 31⟩,
          ⟨(some 32), none, .extS 29 0⟩,
          ⟨(some 33), none, .ext 29 1⟩,
          ⟨(some 9), none, .alloc [(.int .u8 0), (.int .i64 0), (.int .i64 0), (.int .i64 0), (.bool false), (.int .i64 0), .nils, .nils, .nils]⟩,
          ⟨none, none, .store 9 (.t 9) (.t 32)⟩,
          ⟨(some 10), none, .take 33⟩])
        (.seq
         (.reg [⟨(some 34), none, .mv (.t 3)⟩,
           ⟨(some 35), none, .bin .eql (.t 34) (.c (.int .i64 0))⟩,
           ⟨(some 36), none, .take 35⟩,
           ⟨(some 37), (some (36, true)), .mv (.t 5)⟩,
           ⟨(some 38), (some (36, true)), .bin .eql (.t 37) (.c (.int .i64 0))⟩,
           ⟨(some 39), none, .pick (.t 36) (.t 38) (.c (.bool false))⟩,
           ⟨(some 40), none, .take 39⟩,
           ⟨(some 41), (some (40, true)), .mv (.t 8)⟩,
           ⟨(some 42), (some (40, true)), .bin .eql (.t 41) (.c (.int .i64 0))⟩,
           ⟨(some 43), none, .pick (.t 40) (.t 42) (.c (.bool false))⟩,
           ⟨(some 44), none, .take 43⟩,
           ⟨(some 45), (some (44, true)), .mv (.t 10)⟩,
           ⟨(some 46), (some (44, true)), .bin .eql (.t 45) (.c (.int .i64 0))⟩,
           ⟨(some 47), none, .pick (.t 44) (.t 46) (.c (.bool false))⟩,
           ⟨(some 48), none, .take 47⟩,
           ⟨(some 49), (some (48, true)), .mv (.t 2)⟩,
           ⟨(some 50), (some (48, true)), .b2s (.t 49)⟩,
           ⟨(some 51), (some (48, true)), .bin .eql (.t 50) (.c (.str (ByteArray.mk #[8, 2, 103, 2, 97, 4])))⟩,
           ⟨(some 52), none, .pick (.t 48) (.t 51) (.c (.bool false))⟩,
           ⟨(some 53), none, .take 52⟩,
           ⟨(some 54), (some (53, true)), .load (some 18) (.t 1)⟩,
           ⟨(some 55), (some (53, true)), .load (some 18) (.t 4)⟩,
           ⟨(some 56), (some (53, true)), .call 33 [(.t 54), (.t 55)]⟩,
           ⟨(some 57), none, .pick (.t 53) (.t 56) (.c (.bool false))⟩,
           ⟨(some 58), none, .take 57⟩,
           ⟨(some 59), (some (58, true)), .load (some 18) (.t 1)⟩,
           ⟨(some 60), (some (58, true)), .build [(.int .u8 0), (.str (ByteArray.mk #[])), (.int .i64 0), (.int .i64 0), (.bool false), (.bool false), (.int .i64 0), (.int .i64 0), (.int .i64 0), (.str (ByteArray.mk #[])), (.str (ByteArray.mk #[])), (.int .i64 0), (.int .i64 0), (.int .i64 0), (.int .i64 0), (.int .i64 0), (.int .i64 0), .nils] []⟩,
           ⟨(some 61), (some (58, true)), .call 33 [(.t 59), (.t 60)]⟩,
           ⟨(some 62), (some (58, true)), .una .not (.t 61)⟩,
           ⟨(some 63), none, .pick (.t 58) (.t 62) (.c (.bool false))⟩,
           ⟨(some 64), none, .take 63⟩,
           ⟨(some 65), (some (64, true)), .load (some 9) (.t 6)⟩,
           ⟨(some 66), (some (64, true)), .load (some 9) (.t 9)⟩,
           ⟨(some 67), (some (64, true)), .call 40 [(.t 65), (.t 66)]⟩,
           ⟨(some 68), none, .pick (.t 64) (.t 67) (.c (.bool false))⟩,
           ⟨(some 69), none, .take 68⟩,
           ⟨(some 70), (some (69, true)), .load (some 9) (.t 6)⟩,
           ⟨(some 71), (some (69, true)), .build [(.int .u8 0), (.int .i64 0), (.int .i64 0), (.int .i64 0), (.bool false), (.int .i64 0), .nils, .nils, .nils] []⟩,
           ⟨(some 72), (some (69, true)), .call 40 [(.t 70), (.t 71)]⟩,
           ⟨(some 73), (some (69, true)), .una .not (.t 72)⟩,
           ⟨(some 74), none, .pick (.t 69) (.t 73) (.c (.bool false))⟩,
           ⟨(some 75), none, .take 74⟩,
           ⟨(some 76), (some (75, true)), .faddr (.t 9) 7⟩,
           ⟨(some 77), (some (75, true)), .load none (.t 76)⟩,
           ⟨(some 78), (some (75, true)), .len false (.t 77)⟩,
           ⟨(some 79), (some (75, true)), .bin .eql (.t 78) (.c (.int .i64 1))⟩,
           ⟨(some 80), none, .pick (.t 75) (.t 79) (.c (.bool false))⟩,
           ⟨(some 81), none, .take 80⟩,
           ⟨(some 82), (some (81, true)), .faddr (.t 9) 7⟩,
           ⟨(some 83), (some (81, true)), .load none (.t 82)⟩,
           ⟨(some 84), (some (81, true)), .iaddr 1 (.t 83) (.c (.int .i64 0))⟩,
           ⟨(some 85), (some (81, true)), .load none (.t 84)⟩,
           ⟨(some 86), (some (81, true)), .bin .eql (.t 85) (.c (.int .i64 3))⟩,
           ⟨(some 87), none, .pick (.t 81) (.t 86) (.c (.bool false))⟩,
           ⟨(some 88), none, .take 87⟩,
           ⟨(some 89), (some (88, true)), .faddr (.t 4) 11⟩,
           ⟨(some 90), (some (88, true)), .load none (.t 89)⟩,
           ⟨(some 91), (some (88, true)), .bin .eql (.t 90) (.c (.int .i64 2))⟩,
           ⟨(some 92), none, .pick (.t 88) (.t 91) (.c (.bool false))⟩,
           ⟨(some 93), none, .take 92⟩,
           ⟨(some 94), (some (93, true)), .call 35 [(.c (.int .u8 3))]⟩,
           ⟨(some 95), (some (93, true)), .bin .eql (.t 94) (.c (.str (ByteArray.mk #[116, 105, 102, 98])))⟩,
           ⟨(some 96), none, .pick (.t 93) (.t 95) (.c (.bool false))⟩,
           ⟨(some 97), none, .take 96⟩,
           ⟨(some 98), none, .pick (.t 97) (.c (.bool true)) (.c (.bool false))⟩,
           ⟨(some 99), none, .take 98⟩,
           ⟨(some 100), none, .pick (.t 99) (.c (.bool true)) (.c (.bool false))⟩,
           ⟨(some 101), none, .take 100⟩,
           ⟨(some 102), none, .pick (.t 101) (.c (.bool true)) (.c (.bool false))⟩,
           ⟨(some 0), none, .take 102⟩])
         .ret))))))))
def ar30 : List AR := [.t 0]
theorem comp30 : Try.f30.body.bind (comp Try.prog 103) = some ac30 := by kernel_rfl
theorem cres30 : compRes Try.prog Try.f30.results.toList = some ar30 := by kernel_rfl
end Go.Proofs.Ytflcdbfcipkhkaa

/- Wire: all contracts in one oracle; awake. -/


set_option linter.unusedSimpArgs false
set_option linter.unusedVariables false
set_option maxHeartbeats 8000000
set_option maxRecDepth 100000
namespace Go.Proofs.Ytflcdbfcipkhkaa
open Go.Av

def ePP (p : Rsp × Rsp) : List SV := [p.1.sv, p.2.sv]
theorem ePP_inj (a b : Rsp × Rsp) (h : ePP a = ePP b) : a = b := by simp [ePP] at h; exact Prod.ext (Rsp.sv_inj _ _ h.1) (Rsp.sv_inj _ _ h.2)
def eBy (l : List Nat) : List SV := [.sl 1 (bs l)]
theorem eBy_inj (a b : List Nat) (h : eBy a = eBy b) : a = b := by simp [eBy] at h; exact bs_inj h
noncomputable def RXop (f : FuncId) (l : List SV) : Option (Prop × LV) :=
  match f with
  | 29 => row eQ (fun q => (True, .sv (.bool (lightQ q)))) l
  | 37 => row eP (fun a => (True, .sv (.bool (lightP a)))) l
  | 30 => row (fun _ : Unit => []) (fun _ => (Pure Try.prog 30 [] (.sv (.bool true)), .sv (.bool true))) l
  | 31 => rowN eQ (fun q => (q.ok ∧ q.bt.rs.length < 4611686018427387904, .tup [.own 1 (bs (putQ q)), .sv (.int .i64 (reqE q))])) l
  | 32 => row eQ (fun q => (q.ok ∧ q.bt.rs.length < 4611686018427387904, .tup [.own 1 (bs (putQ q)), .sv (.int .i64 (reqE q))])) l
  | 33 => rowN eQQ (fun p => (p.1.bt.rs.length < 4611686018427387904, .sv (.bool (reqS p.1 p.2)))) l
  | 34 => row eQQ (fun p => (p.1.bt.rs.length < 4611686018427387904, .sv (.bool (reqS p.1 p.2)))) l
  | 35 => row eInt (fun k => (0 ≤ k ∧ k < 256, .sv (.str (usesS k)))) l
  | 36 => row eInt (fun k => (0 ≤ k, .sv (.str (usesS k)))) l
  | 38 => rowP eP (fun a => (a.ok ∧ a.nms.length < 4611686018427387904, .tup [.own 1 (bs (putP a)), .sv (.int .i64 (rspE a))])) l
  | 39 => row eP (fun a => (a.ok ∧ a.nms.length < 4611686018427387904, .tup [.own 1 (bs (putP a)), .sv (.int .i64 (rspE a))])) l
  | 40 => rowP ePP (fun p => (p.1.small, .sv (.bool (rspS p.1 p.2)))) l
  | 41 => row ePP (fun p => (p.1.small, .sv (.bool (rspS p.1 p.2)))) l
  | 42 => row eBy (fun l => (Bytes l ∧ l.length < 100000000, .tup [.sv (getR 8192 l).1.sv, .sv (.int .i64 (getR 8192 l).2)])) l
  | 43 => row eBy (fun l => (Bytes l ∧ l.length < 100000000, .tup [.sv (getR 8192 l).1.sv, .sv (.int .i64 (getR 8192 l).2)])) l
  | 44 => row eBy (fun l => (Bytes l ∧ l.length < 100000000, .tup [.sv (getP l).1.sv, .sv (.int .i64 (getP l).2)])) l
  | 45 => row eBy (fun l => (Bytes l ∧ l.length < 100000000, .tup [.sv (getP l).1.sv, .sv (.int .i64 (getP l).2)])) l
  | _ => none
noncomputable def RXo : Orc := { p := RXop }
theorem RXo_ok : RXo.ok Try.prog := by
  refine ⟨fun f l c rv h hc => ?_, fun _ _ _ _ _ _ h => (by cases h), fun _ _ _ _ h => (by cases h), fun _ h => (by cases h), fun _ _ _ _ _ _ h => (by cases h), fun _ _ _ _ _ _ _ h => (by cases h)⟩
  change RXop f l = _ at h
  unfold RXop at h
  split at h
  · exact row_ok h hc (fun x hp => lightReq x)
  · exact row_ok h hc (fun x hp => lightRsp x)
  · exact row_ok h hc (fun x hp => hp)
  · exact rowN_ok h hc (fun x hp => put_req x hp.1 hp.2)
  · exact row_ok h hc (fun x hp => rput_req x hp.1 hp.2)
  · exact rowN_ok h hc (fun x hp => same_req x.1 x.2 hp)
  · exact row_ok h hc (fun x hp => rsame_req x.1 x.2 hp)
  · exact row_ok h hc (fun x hp => uses_pure x hp.1 hp.2)
  · exact row_ok h hc (fun x hp => ruses_pure x hp)
  · exact rowP_ok h hc (fun x hp => put_rsp x hp.1 hp.2)
  · exact row_ok h hc (fun x hp => rput_rsp x hp.1 hp.2)
  · exact rowP_ok h hc (fun x hp => same_rsp x.1 x.2 hp)
  · exact row_ok h hc (fun x hp => rsame_rsp x.1 x.2 hp)
  · exact row_ok h hc (fun x hp => get_req x hp.1 hp.2)
  · exact row_ok h hc (fun x hp => (by have := rget_req x hp.1 hp.2; rw [getR_eq hp.1] at this; exact this))
  · exact row_ok h hc (fun x hp => get_rsp x hp.1 hp.2)
  · exact row_ok h hc (fun x hp => (by have := rget_rsp x hp.1 hp.2; rw [getP_eq hp.1] at this; exact this))
  · cases h
theorem RXo_29 (q : Req) : RXo.p 29 [qsv q] = some (True, .sv (.bool (lightQ q))) := row_eq eQ_inj _ q
theorem RXo_37 (a : Rsp) : RXo.p 37 [psv a] = some (True, .sv (.bool (lightP a))) := row_eq eP_inj _ a
theorem RXo_30 : RXo.p 30 [] = some (Pure Try.prog 30 [] (.sv (.bool true)), .sv (.bool true)) := row_eq (enc := fun _ : Unit => []) (fun _ _ _ => rfl) _ ()
theorem RXo_31 (q : Req) : RXo.p 31 [qsv q] = some (q.ok ∧ q.bt.rs.length < 4611686018427387904, .tup [.own 1 (bs (putQ q)), .sv (.int .i64 (reqE q))]) := rowN_eq eQ_inj _ q rfl
theorem RXo_32 (q : Req) : RXo.p 32 [qsv q] = some (q.ok ∧ q.bt.rs.length < 4611686018427387904, .tup [.own 1 (bs (putQ q)), .sv (.int .i64 (reqE q))]) := row_eq eQ_inj _ q
theorem RXo_33 (a b : Req) : RXo.p 33 [qsv a, qsv b] = some (a.bt.rs.length < 4611686018427387904, .sv (.bool (reqS a b))) := rowN_eq eQQ_inj _ (a, b) rfl
theorem RXo_34 (a b : Req) : RXo.p 34 [qsv a, qsv b] = some (a.bt.rs.length < 4611686018427387904, .sv (.bool (reqS a b))) := row_eq eQQ_inj _ (a, b)
theorem RXo_35 (k : Int) : RXo.p 35 [.int .u8 k] = some (0 ≤ k ∧ k < 256, .sv (.str (usesS k))) := row_eq eInt_inj _ k
theorem RXo_36 (k : Int) : RXo.p 36 [.int .u8 k] = some (0 ≤ k, .sv (.str (usesS k))) := row_eq eInt_inj _ k
theorem RXo_38 (a : Rsp) : RXo.p 38 [psv a] = some (a.ok ∧ a.nms.length < 4611686018427387904, .tup [.own 1 (bs (putP a)), .sv (.int .i64 (rspE a))]) := rowP_eq eP_inj _ a rfl
theorem RXo_39 (a : Rsp) : RXo.p 39 [psv a] = some (a.ok ∧ a.nms.length < 4611686018427387904, .tup [.own 1 (bs (putP a)), .sv (.int .i64 (rspE a))]) := row_eq eP_inj _ a
theorem RXo_40 (a b : Rsp) : RXo.p 40 [psv a, psv b] = some (a.small, .sv (.bool (rspS a b))) := rowP_eq ePP_inj _ (a, b) rfl
theorem RXo_41 (a b : Rsp) : RXo.p 41 [psv a, psv b] = some (a.small, .sv (.bool (rspS a b))) := row_eq ePP_inj _ (a, b)
theorem RXo_42 (l : List Nat) : RXo.p 42 [.sl 1 (bs l)] = some (Bytes l ∧ l.length < 100000000, .tup [.sv (qsv (getR 8192 l).1), .sv (.int .i64 (getR 8192 l).2)]) := row_eq eBy_inj _ l
theorem RXo_43 (l : List Nat) : RXo.p 43 [.sl 1 (bs l)] = some (Bytes l ∧ l.length < 100000000, .tup [.sv (qsv (getR 8192 l).1), .sv (.int .i64 (getR 8192 l).2)]) := row_eq eBy_inj _ l
theorem RXo_44 (l : List Nat) : RXo.p 44 [.sl 1 (bs l)] = some (Bytes l ∧ l.length < 100000000, .tup [.sv (psv (getP l).1), .sv (.int .i64 (getP l).2)]) := row_eq eBy_inj _ l
theorem RXo_45 (l : List Nat) : RXo.p 45 [.sl 1 (bs l)] = some (Bytes l ∧ l.length < 100000000, .tup [.sv (psv (getP l).1), .sv (.int .i64 (getP l).2)]) := row_eq eBy_inj _ l
def aQ : Req := ⟨8, ⟨#[]⟩, 0, 0, false, false, 0, 0, 0, ⟨#[103]⟩, ⟨#[97]⟩, 2, bat0⟩
def aP : Rsp := ⟨255, 4, 0, 0, false, 0, [], [3], []⟩
theorem z64 : I64 0 := ⟨by decide, by decide⟩
theorem aQ_ok : aQ.ok := ⟨by decide, by decide, z64, z64, z64, z64, z64, ⟨by decide, by decide⟩, bat0_ok⟩
theorem aQ_E : reqE aQ = 0 := by
  have h1 : alienB aQ = false := by
    unfold alienB
    rw [show reqS ((usesN aQ.kd).foldl zeroQ aQ) (kReq aQ.kd) = true from (reqS_iff _ _).2 rfl]
    rfl
  have h2 : ¬ longQ aQ := by unfold longQ; decide
  unfold reqE
  rw [if_neg (by decide), if_neg (by rw [h1]; decide), if_neg h2, if_neg (by decide)]
theorem aQ_put : putQ aQ = [8, 2, 103, 2, 97, 4] := by
  rw [putQ_eq aQ_E]
  have l2 : layN 2 = [2] := layN_small (by decide)
  have l4 : layN 4 = [4] := layN_small (by decide)
  have u : usesN aQ.kd = [103, 107, 110] := rfl
  have t1 : textN aQ.gr = layN 2 ++ [103] := rfl
  have t2 : textN aQ.me = layN 2 ++ [97] := rfl
  have t3 : layN (zig aQ.ge) = layN 4 := rfl
  simp [reqL, u, catF, fieldL, t1, t2, t3, l2, l4]
  rfl
theorem aP_ok : aP.ok := ⟨by decide, by decide, ⟨by decide, by decide⟩, z64, z64, z64, fun b h => (by cases h), fun n h => (by
  have : n = 3 := by simpa [aP] using h
  subst this
  exact ⟨by decide, by decide⟩)⟩
theorem aP_E : rspE aP = 0 := by
  have h2 : ¬ bigP aP := by unfold bigP; decide
  unfold rspE
  rw [if_neg (by decide), if_neg h2, if_neg (by decide)]
  rfl
theorem aP_small : aP.small := ⟨by decide, fun b h => (by cases h), by decide, by decide⟩
theorem wawake : Pure Try.prog 30 [] (.sv (.bool true)) := by
  have e31 : RXo.p 31 [.agg [.int .u8 8, .str (ByteArray.mk #[]), .int .i64 0, .int .i64 0, .bool false, .bool false, .int .i64 0, .int .i64 0, .int .i64 0, .str (ByteArray.mk #[103]), .str (ByteArray.mk #[97]), .int .i64 2, .int .i64 0, .int .i64 0, .int .i64 0, .int .i64 0, .int .i64 0, .nils]] = some (aQ.ok ∧ aQ.bt.rs.length < 4611686018427387904, .tup [.own 1 (bs (putQ aQ)), .sv (.int .i64 (reqE aQ))]) := rowN_eq eQ_inj _ aQ rfl
  have e42 := RXo_42 (putQ aQ)
  have e33a : RXo.p 33 [.agg [.int .u8 8, .str (ByteArray.mk #[]), .int .i64 0, .int .i64 0, .bool false, .bool false, .int .i64 0, .int .i64 0, .int .i64 0, .str (ByteArray.mk #[103]), .str (ByteArray.mk #[97]), .int .i64 2, .int .i64 0, .int .i64 0, .int .i64 0, .int .i64 0, .int .i64 0, .nils], .agg [.int .u8 8, .str (ByteArray.mk #[]), .int .i64 0, .int .i64 0, .bool false, .bool false, .int .i64 0, .int .i64 0, .int .i64 0, .str (ByteArray.mk #[103]), .str (ByteArray.mk #[97]), .int .i64 2, .int .i64 0, .int .i64 0, .int .i64 0, .int .i64 0, .int .i64 0, .sl 6 []]] = some (aQ.bt.rs.length < 4611686018427387904, .sv (.bool (reqS aQ aQ))) := rowN_eq eQQ_inj _ (aQ, aQ) rfl
  have e33b : RXo.p 33 [.agg [.int .u8 8, .str (ByteArray.mk #[]), .int .i64 0, .int .i64 0, .bool false, .bool false, .int .i64 0, .int .i64 0, .int .i64 0, .str (ByteArray.mk #[103]), .str (ByteArray.mk #[97]), .int .i64 2, .int .i64 0, .int .i64 0, .int .i64 0, .int .i64 0, .int .i64 0, .nils], .agg [.int .u8 0, .str (ByteArray.mk #[]), .int .i64 0, .int .i64 0, .bool false, .bool false, .int .i64 0, .int .i64 0, .int .i64 0, .str (ByteArray.mk #[]), .str (ByteArray.mk #[]), .int .i64 0, .int .i64 0, .int .i64 0, .int .i64 0, .int .i64 0, .int .i64 0, .nils]] = some (aQ.bt.rs.length < 4611686018427387904, .sv (.bool (reqS aQ (kReq 0)))) := rowN_eq eQQ_inj _ (aQ, kReq 0) rfl
  have e38 : RXo.p 38 [.agg [.int .u8 255, .int .i64 4, .int .i64 0, .int .i64 0, .bool false, .int .i64 0, .nils, .sl 1 [.int .i64 3], .nils]] = some (aP.ok ∧ aP.nms.length < 4611686018427387904, .tup [.own 1 (bs (putP aP)), .sv (.int .i64 (rspE aP))]) := rowP_eq eP_inj _ aP rfl
  have e44 := RXo_44 (putP aP)
  have e40a : RXo.p 40 [.agg [.int .u8 255, .int .i64 4, .int .i64 0, .int .i64 0, .bool false, .int .i64 0, .nils, .sl 1 [.int .i64 3], .nils], .agg [.int .u8 255, .int .i64 4, .int .i64 0, .int .i64 0, .bool false, .int .i64 0, .sl 6 [], .sl 1 [.int .i64 3], .sl 1 []]] = some (aP.small, .sv (.bool (rspS aP aP))) := rowP_eq ePP_inj _ (aP, aP) rfl
  have e40b : RXo.p 40 [.agg [.int .u8 255, .int .i64 4, .int .i64 0, .int .i64 0, .bool false, .int .i64 0, .nils, .sl 1 [.int .i64 3], .nils], .agg [.int .u8 0, .int .i64 0, .int .i64 0, .int .i64 0, .bool false, .int .i64 0, .nils, .nils, .nils]] = some (aP.small, .sv (.bool (rspS aP rsp0))) := rowP_eq ePP_inj _ (aP, rsp0) rfl
  have e35 := RXo_35 3
  have hR := RXo_ok
  have hnf : RXo.nofz = false := rfl
  rw [show getR 8192 (putQ aQ) = (aQ, 0) by rw [putQ_eq aQ_E]; exact getR_lay aQ_ok aQ_E _ (by decide)] at e42
  rw [show getP (putP aP) = (aP, 0) by rw [putP_eq aP_E]; exact (getP_lay aP_ok aP_E).1] at e44
  rw [aQ_E] at e31
  rw [aP_E] at e38
  rw [(reqS_iff aQ aQ).2 rfl] at e33a
  rw [show reqS aQ (kReq 0) = false by cases h : reqS aQ (kReq 0); rfl; exact absurd (congrArg Req.kd ((reqS_iff _ _).1 h)) (by decide)] at e33b
  rw [(rspS_iff aP aP).2 rfl] at e40a
  rw [show rspS aP rsp0 = false by cases h : rspS aP rsp0; rfl; exact absurd (congrArg Rsp.kd ((rspS_iff _ _).1 h)) (by decide)] at e40b
  have hby : Bytes (putQ aQ) := by rw [putQ_eq aQ_E]; exact reqL_bytes aQ_ok (.inr trivial) aQ_E
  have hpy : Bytes (putP aP) := putP_bytes aP_ok
  have hll : (putQ aQ).length < 100000000 := by rw [putQ_eq aQ_E]; have := reqL_len aQ_ok aQ_E; omega
  have hpl : (putP aP).length < 100000000 := by rw [putP_eq aP_E]; have := rspL_len aP_ok aP_E; omega
  have hxs : (bs (putQ aQ)).map Go.Av.byteOf = [8, 2, 103, 2, 97, 4] := by rw [aQ_put]; rfl
  have hbb := bs_byte (putQ aQ)
  have hq : (qsv aQ) = .agg [.int .u8 8, .str (ByteArray.mk #[]), .int .i64 0, .int .i64 0, .bool false, .bool false, .int .i64 0, .int .i64 0, .int .i64 0, .str (ByteArray.mk #[103]), .str (ByteArray.mk #[97]), .int .i64 2, .int .i64 0, .int .i64 0, .int .i64 0, .int .i64 0, .int .i64 0, .sl 6 []] := rfl
  have hp : (psv aP) = .agg [.int .u8 255, .int .i64 4, .int .i64 0, .int .i64 0, .bool false, .int .i64 0, .sl 6 [], .sl 1 [.int .i64 3], .sl 1 []] := rfl
  have hu : usesS 3 = ByteArray.mk #[116, 105, 102, 98] := rfl
  have ok1 := aQ_ok
  have ok2 := aP_ok
  have ok3 := aP_small
  have n1 : aQ.bt.rs.length < 4611686018427387904 := by decide
  have n2 : aP.nms.length < 4611686018427387904 := by decide
  simp only at e42 e44
  rw [hq] at e42
  rw [hp] at e44
  rw [hu] at e35
  generalize RXo = R at hR e31 e42 e33a e33b e38 e44 e40a e40b e35 hnf
  generalize putQ aQ = X at *
  generalize putP aP = Y at *
  refine pure_go hR Try.func30 Try.ntmps30 comp30 cres30 (by decide) (by simp) ?_
  simp (maxSteps := 800000) [ac30, ar30, e31, e42, e33a, e33b, e38, e44, e40a, e40b, e35, hnf, hby, hpy, hll, hpl, hxs, ok1, ok2, ok3, n1, n2]
  exact hbb
end Go.Proofs.Ytflcdbfcipkhkaa

/- Wire: the laws Asks, Answers, Reads. -/

set_option linter.unusedSimpArgs false
set_option linter.unusedVariables false
set_option maxHeartbeats 8000000
set_option maxRecDepth 100000
namespace Go.Proofs.Ytflcdbfcipkhkaa
open Go.Av

theorem light_len {b : Bat} (h : lightB b = true) : b.rs.length ≤ 40 := by
  unfold lightB at h
  simp only [Bool.and_eq_true, decide_eq_true_eq] at h
  exact h.1
theorem lightQ_len {q : Req} (h : lightQ q = true) : q.bt.rs.length < 4611686018427387904 := by
  simp only [lightQ, Bool.and_eq_true] at h
  have := light_len h.2.2.2
  omega
theorem lightP_small {a : Rsp} (h : lightP a = true) : a.small := by
  simp only [lightP, Bool.and_eq_true, decide_eq_true_eq, lightA] at h
  obtain ⟨h1, h2, ⟨h3, h4⟩, h5⟩ := h
  exact ⟨by omega, fun b hb => by have := light_len (List.all_eq_true.1 h4 b hb); omega, by omega, by omega⟩
theorem law_wasks (p q : Req) (k : Int) (hp : p.ok) (hq : q.ok) (h0 : 0 ≤ k) (h8 : k < 256) : Pure Try.prog 4 [p.sv, q.sv, .int .u8 k] (.sv (.bool true)) := by
  have e29p := RXo_29 p
  have e29q := RXo_29 q
  have e30 := RXo_30
  have e31 := RXo_31 p
  have e32 := RXo_32 p
  have e33 := RXo_33 p q
  have e34 := RXo_34 p q
  have e35 := RXo_35 k
  have e36 := RXo_36 k
  have hw := wawake
  have hR := RXo_ok
  have hnf : RXo.nofz = false := rfl
  generalize RXo = R at hR e29p e29q e30 e31 e32 e33 e34 e35 e36 hnf
  have hbb := bs_byte (putQ p)
  refine pure_go hR Try.func4 Try.ntmps4 comp4 cres4 (by decide) (by simp) ?_
  generalize reqS p q = S at *
  generalize reqE p = E at *
  generalize putQ p = X at *
  cases h1 : lightQ p with
  | false =>
    rw [h1] at e29p
    generalize lightQ q = L at *
    simp (maxSteps := 600000) [ac4, ar4, Req.sv, Req.cells, e29p, e29q, e30, hw, hnf]
  | true =>
  have hl := lightQ_len h1
  rw [h1] at e29p
  cases h2 : lightQ q with
  | false =>
    rw [h2] at e29q
    simp (maxSteps := 600000) [ac4, ar4, Req.sv, Req.cells, e29p, e29q, e30, hw, hnf]
  | true =>
  rw [h2] at e29q
  simp (maxSteps := 600000) [ac4, ar4, Req.sv, Req.cells, e29p, e29q, e30, e31, e32, e33, e34, e35, e36, hw, hnf, hp, hl, h0, h8]
  exact hbb
theorem law_wanswers (p q : Rsp) (hp : p.ok) (hq : q.ok) : Pure Try.prog 5 [p.sv, q.sv] (.sv (.bool true)) := by
  have e37p := RXo_37 p
  have e37q := RXo_37 q
  have e30 := RXo_30
  have e38 := RXo_38 p
  have e39 := RXo_39 p
  have e40 := RXo_40 p q
  have e41 := RXo_41 p q
  have hw := wawake
  have hR := RXo_ok
  have hnf : RXo.nofz = false := rfl
  generalize RXo = R at hR e37p e37q e30 e38 e39 e40 e41 hnf
  have hbb := bs_byte (putP p)
  refine pure_go hR Try.func5 Try.ntmps5 comp5 cres5 (by decide) (by simp) ?_
  generalize rspS p q = S at *
  generalize rspE p = E at *
  generalize putP p = X at *
  cases h1 : lightP p with
  | false =>
    rw [h1] at e37p
    generalize lightP q = L at *
    simp (maxSteps := 600000) [ac5, ar5, Rsp.sv, Rsp.cells, e37p, e37q, e30, hw, hnf]
  | true =>
  have hl := lightP_small h1
  have hl4 := hl.2.2.2
  rw [h1] at e37p
  cases h2 : lightP q with
  | false =>
    rw [h2] at e37q
    simp (maxSteps := 600000) [ac5, ar5, Rsp.sv, Rsp.cells, e37p, e37q, e30, hw, hnf]
  | true =>
  rw [h2] at e37q
  simp (maxSteps := 600000) [ac5, ar5, Rsp.sv, Rsp.cells, e37p, e37q, e30, e38, e39, e40, e41, hw, hnf, hp, hl, hl4]
  exact hbb
theorem getP_small {l : List Nat} (hb : Bytes l) : (getP l).1.small := by
  rcases getP_cases hb with h | ⟨a, h1, h2, h3, h4⟩
  · rw [h]; exact ⟨by decide, fun b h => (by cases h), by decide, by decide⟩
  · rw [h4]
    obtain ⟨k1, k2, k3, k4, k5⟩ := h1
    exact ⟨by simp only; omega, fun b hb => by have := k3 b hb; omega, by simp only; omega, by simp only; omega⟩
theorem getR_small {l : List Nat} (hb : Bytes l) : (getR 8192 l).1.bt.rs.length < 4611686018427387904 := by
  rcases getR_cases 8192 hb with h | ⟨a, h1, h2, h3, h4⟩
  · rw [h]; decide
  · rw [h4]; have := h1.2; simp only; omega
theorem law_wreads (a b : List Nat) (ha : Bytes a) (hb : Bytes b) : Pure Try.prog 6 [.sl 1 (bs a), .sl 1 (bs b)] (.sv (.bool true)) := by
  have e30 := RXo_30
  have e42 := RXo_42 a
  have e43 := RXo_43 a
  have e44 := RXo_44 b
  have e45 := RXo_45 b
  have e34 := RXo_34 (getR 8192 a).1 (getR 8192 a).1
  have e41 := RXo_41 (getP b).1 (getP b).1
  rw [(reqS_iff _ _).2 rfl] at e34
  rw [(rspS_iff _ _).2 rfl] at e41
  have s1 := getR_small ha
  have s2 := getP_small hb
  have hw := wawake
  have hR := RXo_ok
  have hnf : RXo.nofz = false := rfl
  generalize RXo = R at hR e30 e42 e43 e44 e45 e34 e41 hnf
  generalize getR 8192 a = G at *
  generalize getP b = H at *
  refine pure_go hR Try.func6 Try.ntmps6 comp6 cres6 (by decide) (by simp) ?_
  by_cases h1 : (1000 : Int) < a.length
  · simp (maxSteps := 600000) [ac6, ar6, e30, hw, hnf, h1]
  by_cases h2 : (1000 : Int) < b.length
  · simp (maxSteps := 600000) [ac6, ar6, e30, hw, hnf, h1, h2]
  have z1 : a.length < 100000000 := by omega
  have z2 : b.length < 100000000 := by omega
  simp (maxSteps := 600000) [ac6, ar6, e30, e42, e43, e44, e45, e34, e41, hw, hnf, h1, h2, ha, hb, z1, z2, s1, s2]
end Go.Proofs.Ytflcdbfcipkhkaa

/- Wire: the law Apart. -/

set_option linter.unusedSimpArgs false
set_option linter.unusedVariables false
set_option maxHeartbeats 8000000
set_option maxRecDepth 100000
namespace Go.Proofs.Ytflcdbfcipkhkaa
open Go.Av

theorem law_wapart (p q : Req) (a b : Rsp) (hp : p.ok) (hq : q.ok) (ha : a.ok) (hb : b.ok) : Pure Try.prog 8 [p.sv, q.sv, .agg (a.cells ++ b.cells)] (.sv (.bool true)) := by
  have e29p := RXo_29 p
  have e29q := RXo_29 q
  have e37a := RXo_37 a
  have e37b := RXo_37 b
  have e30 := RXo_30
  have e31p := RXo_31 p
  have e31q := RXo_31 q
  have e33 := RXo_33 p q
  have e38a := RXo_38 a
  have e38b := RXo_38 b
  have e40 := RXo_40 a b
  have hw := wawake
  have hR := RXo_ok
  have hnf : RXo.nofz = false := rfl
  generalize RXo = R at hR e29p e29q e37a e37b e30 e31p e31q e33 e38a e38b e40 hnf
  have hbp := bs_byte (putQ p)
  have hbq := bs_byte (putQ q)
  have hba := bs_byte (putP a)
  have hbb := bs_byte (putP b)
  have hsp := bs_str (putQ p)
  have hsq := bs_str (putQ q)
  have hsa := bs_str (putP a)
  have hsb := bs_str (putP b)
  have hS1 : reqE p = 0 → reqE q = 0 → ((sOf (putQ p)).toList == (sOf (putQ q)).toList) = reqS p q := by
    intro h3 h4
    rw [putQ_eq h3, putQ_eq h4, sOf_eq (reqL_bytes hp (.inr trivial) h3) (reqL_bytes hq (.inr trivial) h4)]
    rw [Bool.eq_iff_iff, reqS_iff, decide_eq_true_eq]
    constructor
    · intro z; exact req_prefix hp hq h3 h4 (t := []) (by rw [List.append_nil, z])
    · intro z; rw [z]
  have hS2 : rspE a = 0 → rspE b = 0 → ((sOf (putP a)).toList == (sOf (putP b)).toList) = rspS a b := by
    intro h3 h4
    rw [putP_eq h3, putP_eq h4, sOf_eq (rspL_bytes ha) (rspL_bytes hb)]
    rw [Bool.eq_iff_iff, rspS_iff, decide_eq_true_eq]
    constructor
    · intro z; exact rsp_prefix ha hb h3 h4 (t := []) (by rw [List.append_nil, z])
    · intro z; rw [z]
  refine pure_go hR Try.func8 Try.ntmps8 comp8 cres8 (by decide) (by simp) ?_
  generalize reqS p q = S1 at *
  generalize rspS a b = S2 at *
  generalize putQ p = X1 at *
  generalize putQ q = X2 at *
  generalize putP a = Y1 at *
  generalize putP b = Y2 at *
  have hC1 : (((reqE p == 0) && (reqE q == 0)) && (((sOf X1).toList == (sOf X2).toList) != S1)) = false := by
    by_cases z1 : reqE p = 0
    · by_cases z2 : reqE q = 0
      · rw [hS1 z1 z2]; cases S1 <;> simp
      · simp [z2]
    · simp [z1]
  have hC2 : (((rspE a != 0) || (rspE b != 0)) || (((sOf Y1).toList == (sOf Y2).toList) == S2)) = true := by
    by_cases z1 : rspE a = 0
    · by_cases z2 : rspE b = 0
      · rw [hS2 z1 z2]; cases S2 <;> simp
      · simp [z2]
    · simp [z1]
  clear hS1 hS2
  have hD1 := hC1
  rw [Bool.and_assoc] at hD1
  have hD2 := hC2
  rw [Bool.or_assoc] at hD2
  generalize reqE p = E1 at *
  generalize reqE q = E2 at *
  generalize rspE a = E3 at *
  generalize rspE b = E4 at *
  cases h1 : lightQ p with
  | false =>
    rw [h1] at e29p
    generalize lightQ q = L at *
    generalize lightP a = L2 at *
    generalize lightP b = L3 at *
    simp (maxSteps := 600000) [ac8, ar8, Req.sv, Req.cells, Rsp.sv, Rsp.cells, e29p, e29q, e37a, e37b, e30, hw, hnf]
  | true =>
  have hl := lightQ_len h1
  rw [h1] at e29p
  cases h2 : lightQ q with
  | false =>
    rw [h2] at e29q
    generalize lightP a = L2 at *
    generalize lightP b = L3 at *
    simp (maxSteps := 600000) [ac8, ar8, Req.sv, Req.cells, Rsp.sv, Rsp.cells, e29p, e29q, e37a, e37b, e30, hw, hnf]
  | true =>
  have hl2 := lightQ_len h2
  rw [h2] at e29q
  cases h3 : lightP a with
  | false =>
    rw [h3] at e37a
    generalize lightP b = L3 at *
    simp (maxSteps := 600000) [ac8, ar8, Req.sv, Req.cells, Rsp.sv, Rsp.cells, e29p, e29q, e37a, e37b, e30, hw, hnf]
  | true =>
  have hs := lightP_small h3
  have hs4 := hs.2.2.2
  rw [h3] at e37a
  cases h4 : lightP b with
  | false =>
    rw [h4] at e37b
    simp (maxSteps := 600000) [ac8, ar8, Req.sv, Req.cells, Rsp.sv, Rsp.cells, e29p, e29q, e37a, e37b, e30, hw, hnf]
  | true =>
  have ht := lightP_small h4
  have ht4 := ht.2.2.2
  rw [h4] at e37b
  simp (maxSteps := 600000) [ac8, ar8, Req.sv, Req.cells, Rsp.sv, Rsp.cells, e29p, e29q, e37a, e37b, e30, e31p, e31q, e33, e38a, e38b, e40, hw, hnf, hp, hq, ha, hb, hl, hl2, hs, hs4, ht, ht4, hsp, hsq, hsa, hsb, hC1, hD1, hC2, hD2]
  refine ⟨⟨fun z1 z2 => ⟨⟨z1, z2⟩, hbp⟩, fun z1 z2 => ⟨⟨z1, z2⟩, hbq⟩⟩, fun z1 z2 => ?_, fun _ => ⟨fun z1 z2 => ⟨⟨z1, z2⟩, hba⟩, fun z1 z2 => ⟨⟨z1, z2⟩, hbb⟩⟩⟩
  simpa [z1, z2] using hC1
end Go.Proofs.Ytflcdbfcipkhkaa
