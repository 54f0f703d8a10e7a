import Derived.Test.YtmfkliabjfngmaaAvL3
import Derived.Test.YtmfkliabjfngmaaProg
import Derived.KernelRfl

set_option linter.unusedVariables false
set_option linter.unusedSimpArgs false
set_option maxRecDepth 100000
namespace Go.Proofs.Ytmfkliabjfngmaa
open Go.Av
/-- bilander/bilanderref20.Light -/
def ac23 : AC :=
 (.seq
  (.reg [⟨(some 1), none, .box 3 (.t 0)⟩,
    ⟨(some 2), none, .mv (.c (.bool false))⟩])
  (.seq
   (.seq
    (.reg [⟨(some 4), none, .faddr (.t 1) 2⟩,
      ⟨(some 5), none, .load none (.t 4)⟩,
      ⟨(some 6), none, .len false (.t 5)⟩,
      ⟨(some 7), none, .bin .gtr (.t 6) (.c (.int .i64 30))⟩])
    (.cond (.t 7)
     (.seq
      (.reg [⟨(some 2), none, .mv (.c (.bool false))⟩])
      .ret)
     .skip))
   (.seq
    (.seq
     (.reg [⟨(some 3), none, .mv (.c (.int .i64 0))⟩])
     (.block 0
      (.loop
       (.seq
        (.seq
         (.reg [⟨(some 8), none, .mv (.t 3)⟩,
           ⟨(some 9), none, .faddr (.t 1) 2⟩,
           ⟨(some 10), none, .load none (.t 9)⟩,
           ⟨(some 11), none, .len false (.t 10)⟩,
           ⟨(some 12), none, .bin .lss (.t 8) (.t 11)⟩])
         (.cond (.t 12)
          .skip
          (.exit 0)))
        (.seq
         (.block 1
          (.seq
           (.reg [⟨(some 15), none, .faddr (.t 1) 2⟩,
             ⟨(some 16), none, .load none (.t 15)⟩,
             ⟨(some 17), none, .mv (.t 3)⟩,
             ⟨(some 18), none, .iaddr 3 (.t 16) (.t 17)⟩,
             ⟨(some 19), none, .faddr (.t 18) 0⟩,
             ⟨(some 20), none, .load none (.t 19)⟩,
             ⟨(some 21), none, .len true (.t 20)⟩,
             ⟨(some 22), none, .bin .gtr (.t 21) (.c (.int .i64 60))⟩])
           (.cond (.t 22)
            (.seq
             (.reg [⟨(some 2), none, .mv (.c (.bool false))⟩])
             .ret)
            .skip)))
         (.reg [⟨(some 13), none, .take 3⟩,
           ⟨(some 14), none, .bin .add (.t 13) (.c (.int .i64 1))⟩,
           ⟨(some 3), none, .take 14⟩]))))))
    (.seq
     (.reg [⟨(some 2), none, .mv (.c (.bool true))⟩])
     .ret))))
def ar23 : List AR := [.t 2]
theorem comp23 : Try.f23.body.bind (comp Try.prog 23) = some ac23 := by kernel_rfl
theorem cres23 : compRes Try.prog Try.f23.results.toList = some ar23 := by kernel_rfl
/-- bilander/bilanderlaw20.awake -/
def ac24 : AC :=
 (.seq
  (.reg [⟨(some 0), none, .mv (.c (.bool false))⟩])
  (.seq
   (.reg [⟨(some 19), none, .build [(.int .i64 0), (.int .u8 0), .nils] []⟩,
     ⟨(some 20), none, .call 29 [(.t 19), (.c (.str (ByteArray.mk #[97]))), (.c (.int .i64 1))]⟩,
     ⟨(some 18), none, .take 20⟩,
     ⟨(some 21), none, .extS 18 0⟩,
     ⟨(some 22), none, .ext 18 1⟩,
     ⟨(some 1), none, .alloc [(.int .i64 0), (.int .u8 0), .nils]⟩,
     ⟨none, none, .store 3 (.t 1) (.t 21)⟩,
     ⟨(some 2), none, .take 22⟩])
   (.seq
    (.reg [⟨(some 24), none, .load (some 3) (.t 1)⟩,
      ⟨(some 25), none, .call 29 [(.t 24), (.c (.str (ByteArray.mk #[98]))), (.c (.int .i64 1))]⟩,
      ⟨(some 23), none, .take 25⟩,
      ⟨(some 26), none, .extS 23 0⟩,
      ⟨(some 27), none, .ext 23 1⟩,
      ⟨(some 3), none, .alloc [(.int .i64 0), (.int .u8 0), .nils]⟩,
      ⟨none, none, .store 3 (.t 3) (.t 26)⟩,
      ⟨(some 4), none, .take 27⟩])
    (.seq
     (.reg [⟨(some 29), none, .load (some 3) (.t 3)⟩,
       ⟨(some 30), none, .call 30 [(.t 29), (.c (.str (ByteArray.mk #[97]))), (.c (.int .i64 2)), (.c (.int .i64 3)), (.c (.int .i64 1))]⟩,
       ⟨(some 28), none, .take 30⟩,
       ⟨(some 31), none, .extS 28 0⟩,
       ⟨(some 32), none, .ext 28 1⟩,
       ⟨(some 33), none, .ext 28 2⟩,
       ⟨(some 5), none, .alloc [(.int .i64 0), (.int .u8 0), .nils]⟩,
       ⟨none, none, .store 3 (.t 5) (.t 31)⟩,
       ⟨(some 6), none, .take 32⟩,
       ⟨(some 7), none, .take 33⟩])
     (.seq
      (.reg [⟨(some 35), none, .load (some 3) (.t 5)⟩,
        ⟨(some 36), none, .call 30 [(.t 35), (.c (.str (ByteArray.mk #[98]))), (.c (.int .i64 2)), (.c (.int .i64 3)), (.c (.int .i64 4))]⟩,
        ⟨(some 34), none, .take 36⟩,
        ⟨(some 37), none, .extS 34 0⟩,
        ⟨(some 38), none, .ext 34 1⟩,
        ⟨(some 39), none, .ext 34 2⟩,
        ⟨(some 8), none, .alloc [(.int .i64 0), (.int .u8 0), .nils]⟩,
        ⟨none, none, .store 3 (.t 8) (.t 37)⟩,
        ⟨(some 9), none, .take 38⟩,
        ⟨(some 10), none, .take 39⟩])
      (.seq
       (.reg [⟨(some 41), none, .load (some 3) (.t 8)⟩,
         ⟨(some 42), none, .call 31 [(.t 41), (.c (.str (ByteArray.mk #[97]))), (.c (.int .i64 1)), (.c (.int .i64 1))]⟩,
         ⟨(some 40), none, .take 42⟩,
         ⟨(some 43), none, .extS 40 0⟩,
         ⟨(some 44), none, .ext 40 1⟩,
         ⟨(some 11), none, .alloc [(.int .i64 0), (.int .u8 0), .nils]⟩,
         ⟨none, none, .store 3 (.t 11) (.t 43)⟩,
         ⟨(some 12), none, .take 44⟩])
       (.seq
        (.reg [⟨(some 46), none, .load (some 3) (.t 8)⟩,
          ⟨(some 47), none, .call 32 [(.t 46), (.c (.str (ByteArray.mk #[97])))]⟩,
          ⟨(some 45), none, .take 47⟩,
          ⟨(some 48), none, .extS 45 0⟩,
          ⟨(some 49), none, .ext 45 1⟩,
          ⟨(some 13), none, .alloc [(.int .i64 0), (.int .u8 0), .nils]⟩,
          ⟨none, none, .store 3 (.t 13) (.t 48)⟩,
          ⟨(some 14), none, .take 49⟩])
        (.seq
         (.reg [⟨(some 50), none, .load (some 3) (.t 8)⟩,
           ⟨(some 51), none, .call 33 [(.t 50), (.c (.int .i64 9)), (.c (.int .i64 6))]⟩,
           ⟨(some 15), none, .alloc [(.int .i64 0), (.int .u8 0), .nils]⟩,
           ⟨none, none, .store 3 (.t 15) (.t 51)⟩])
         (.seq
          (.reg [⟨(some 53), none, .load (some 3) (.t 15)⟩,
            ⟨(some 54), none, .call 36 [(.t 53), (.c (.str (ByteArray.mk #[98])))]⟩,
            ⟨(some 52), none, .take 54⟩,
            ⟨(some 55), none, .extS 52 0⟩,
            ⟨(some 56), none, .ext 52 1⟩,
            ⟨(some 16), none, .alloc [(.str (ByteArray.mk #[])), (.int .i64 0), (.bool false)]⟩,
            ⟨none, none, .store 3 (.t 16) (.t 55)⟩,
            ⟨(some 17), none, .take 56⟩])
          (.seq
           (.reg [⟨(some 57), none, .mv (.t 2)⟩,
             ⟨(some 58), none, .bin .eql (.t 57) (.c (.int .i64 0))⟩,
             ⟨(some 59), none, .take 58⟩,
             ⟨(some 60), (some (59, true)), .mv (.t 4)⟩,
             ⟨(some 61), (some (59, true)), .bin .eql (.t 60) (.c (.int .i64 0))⟩,
             ⟨(some 62), none, .pick (.t 59) (.t 61) (.c (.bool false))⟩,
             ⟨(some 63), none, .take 62⟩,
             ⟨(some 64), (some (63, true)), .mv (.t 7)⟩,
             ⟨(some 65), (some (63, true)), .bin .eql (.t 64) (.c (.int .i64 0))⟩,
             ⟨(some 66), none, .pick (.t 63) (.t 65) (.c (.bool false))⟩,
             ⟨(some 67), none, .take 66⟩,
             ⟨(some 68), (some (67, true)), .mv (.t 10)⟩,
             ⟨(some 69), (some (67, true)), .bin .eql (.t 68) (.c (.int .i64 0))⟩,
             ⟨(some 70), none, .pick (.t 67) (.t 69) (.c (.bool false))⟩,
             ⟨(some 71), none, .take 70⟩,
             ⟨(some 72), (some (71, true)), .mv (.t 12)⟩,
             ⟨(some 73), (some (71, true)), .bin .eql (.t 72) (.c (.int .i64 19))⟩,
             ⟨(some 74), none, .pick (.t 71) (.t 73) (.c (.bool false))⟩,
             ⟨(some 75), none, .take 74⟩,
             ⟨(some 76), (some (75, true)), .mv (.t 14)⟩,
             ⟨(some 77), (some (75, true)), .bin .eql (.t 76) (.c (.int .i64 0))⟩,
             ⟨(some 78), none, .pick (.t 75) (.t 77) (.c (.bool false))⟩,
             ⟨(some 79), none, .take 78⟩,
             ⟨(some 80), (some (79, true)), .mv (.t 17)⟩,
             ⟨(some 81), none, .pick (.t 79) (.t 80) (.c (.bool false))⟩,
             ⟨(some 82), none, .take 81⟩,
             ⟨(some 83), (some (82, true)), .faddr (.t 16) 1⟩,
             ⟨(some 84), (some (82, true)), .load none (.t 83)⟩,
             ⟨(some 85), (some (82, true)), .bin .eql (.t 84) (.c (.int .i64 4))⟩,
             ⟨(some 86), none, .pick (.t 82) (.t 85) (.c (.bool false))⟩,
             ⟨(some 87), none, .take 86⟩,
             ⟨(some 88), (some (87, true)), .mv (.t 6)⟩,
             ⟨(some 89), (some (87, true)), .len false (.t 88)⟩,
             ⟨(some 90), (some (87, true)), .bin .eql (.t 89) (.c (.int .i64 2))⟩,
             ⟨(some 91), none, .pick (.t 87) (.t 90) (.c (.bool false))⟩,
             ⟨(some 92), none, .take 91⟩,
             ⟨(some 93), (some (92, true)), .mv (.t 9)⟩,
             ⟨(some 94), (some (92, true)), .len false (.t 93)⟩,
             ⟨(some 95), (some (92, true)), .bin .eql (.t 94) (.c (.int .i64 1))⟩,
             ⟨(some 96), none, .pick (.t 92) (.t 95) (.c (.bool false))⟩,
             ⟨(some 97), none, .take 96⟩,
             ⟨(some 98), (some (97, true)), .faddr (.t 5) 1⟩,
             ⟨(some 99), (some (97, true)), .load none (.t 98)⟩,
             ⟨(some 100), (some (97, true)), .bin .eql (.t 99) (.c (.int .u8 1))⟩,
             ⟨(some 101), none, .pick (.t 97) (.t 100) (.c (.bool false))⟩,
             ⟨(some 102), none, .take 101⟩,
             ⟨(some 103), (some (102, true)), .faddr (.t 8) 1⟩,
             ⟨(some 104), (some (102, true)), .load none (.t 103)⟩,
             ⟨(some 105), (some (102, true)), .bin .eql (.t 104) (.c (.int .u8 2))⟩,
             ⟨(some 106), none, .pick (.t 102) (.t 105) (.c (.bool false))⟩,
             ⟨(some 107), none, .take 106⟩,
             ⟨(some 108), (some (107, true)), .faddr (.t 13) 0⟩,
             ⟨(some 109), (some (107, true)), .load none (.t 108)⟩,
             ⟨(some 110), (some (107, true)), .bin .eql (.t 109) (.c (.int .i64 3))⟩,
             ⟨(some 111), none, .pick (.t 107) (.t 110) (.c (.bool false))⟩,
             ⟨(some 112), none, .take 111⟩,
             ⟨(some 113), (some (112, true)), .load (some 3) (.t 15)⟩,
             ⟨(some 114), (some (112, true)), .call 35 [(.t 113)]⟩,
             ⟨(some 115), (some (112, true)), .len false (.t 114)⟩,
             ⟨(some 116), (some (112, true)), .bin .eql (.t 115) (.c (.int .i64 1))⟩,
             ⟨(some 117), none, .pick (.t 112) (.t 116) (.c (.bool false))⟩,
             ⟨(some 118), none, .take 117⟩,
             ⟨(some 119), (some (118, true)), .faddr (.t 15) 1⟩,
             ⟨(some 120), (some (118, true)), .load none (.t 119)⟩,
             ⟨(some 121), (some (118, true)), .bin .eql (.t 120) (.c (.int .u8 1))⟩,
             ⟨(some 122), none, .pick (.t 118) (.t 121) (.c (.bool false))⟩,
             ⟨(some 123), none, .take 122⟩,
             ⟨(some 124), (some (123, true)), .load (some 3) (.t 15)⟩,
             ⟨(some 125), (some (123, true)), .call 34 [(.t 124)]⟩,
             ⟨(some 126), (some (123, true)), .bin .eql (.t 125) (.c (.int .i64 0))⟩,
             ⟨(some 127), none, .pick (.t 123) (.t 126) (.c (.bool false))⟩,
             ⟨(some 128), none, .take 127⟩,
             ⟨(some 129), (some (128, true)), .load (some 3) (.t 15)⟩,
             ⟨(some 130), (some (128, true)), .load (some 3) (.t 15)⟩,
             ⟨(some 131), (some (128, true)), .call 43 [(.t 129), (.t 130)]⟩,
             ⟨(some 132), none, .pick (.t 128) (.t 131) (.c (.bool false))⟩,
             ⟨(some 133), none, .take 132⟩,
             ⟨(some 134), (some (133, true)), .load (some 3) (.t 15)⟩,
             ⟨(some 135), (some (133, true)), .load (some 3) (.t 8)⟩,
             ⟨(some 136), (some (133, true)), .call 43 [(.t 134), (.t 135)]⟩,
             ⟨(some 137), (some (133, true)), .una .not (.t 136)⟩,
             ⟨(some 138), none, .pick (.t 133) (.t 137) (.c (.bool false))⟩,
             ⟨(some 139), none, .take 138⟩,
             ⟨(some 140), none, .pick (.t 139) (.c (.bool true)) (.c (.bool false))⟩,
             ⟨(some 141), none, .take 140⟩,
             ⟨(some 142), none, .pick (.t 141) (.c (.bool true)) (.c (.bool false))⟩,
             ⟨(some 143), none, .take 142⟩,
             ⟨(some 144), none, .pick (.t 143) (.c (.bool true)) (.c (.bool false))⟩,
             ⟨(some 145), none, .take 144⟩,
             ⟨(some 146), none, .pick (.t 145) (.c (.bool true)) (.c (.bool false))⟩,
             ⟨(some 147), none, .take 146⟩,
             ⟨(some 148), none, .pick (.t 147) (.c (.bool true)) (.c (.bool false))⟩,
             ⟨(some 149), none, .take 148⟩,
             ⟨(some 150), none, .pick (.t 149) (.c (.bool true)) (.c (.bool false))⟩,
             ⟨(some 151), none, .take 150⟩,
             ⟨(some 152), none, .pick (.t 151) (.c (.bool true)) (.c (.bool false))⟩,
             ⟨(some 153), none, .take 152⟩,
             ⟨(some 154), none, .pick (.t 153) (.c (.bool true)) (.c (.bool false))⟩,
             ⟨(some 155), none, .take 154⟩,
             ⟨(some 156), none, .pick (.t 155) (.c (.bool true)) (.c (.bool false))⟩,
             ⟨(some 0), none, .take 156⟩])
           .ret))))))))))
def ar24 : List AR := [.t 0]
theorem comp24 : Try.f24.body.bind (comp Try.prog 157) = some ac24 := by kernel_rfl
theorem cres24 : compRes Try.prog Try.f24.results.toList = some ar24 := by kernel_rfl
/-- bilander/bilanderlaw20.own -/
def ac25 : AC :=
 (.seq
  (.reg [⟨(some 1), none, .box 3 (.t 0)⟩,
    ⟨(some 2), none, .alloc [(.int .i64 0), (.int .u8 0), .nils]⟩])
  (.seq
   (.reg [⟨(some 3), none, .mv (.c .nils)⟩])
   (.seq
    (.seq
     (.reg [⟨(some 4), none, .mv (.c (.int .i64 0))⟩])
     (.block 0
      (.loop
       (.seq
        (.seq
         (.reg [⟨(some 5), none, .mv (.t 4)⟩,
           ⟨(some 6), none, .faddr (.t 1) 2⟩,
           ⟨(some 7), none, .load none (.t 6)⟩,
           ⟨(some 8), none, .len false (.t 7)⟩,
           ⟨(some 9), none, .bin .lss (.t 5) (.t 8)⟩])
         (.cond (.t 9)
          .skip
          (.exit 0)))
        (.seq
         (.block 1
          (.reg [⟨(some 12), none, .take 3⟩,
            ⟨(some 13), none, .faddr (.t 1) 2⟩,
            ⟨(some 14), none, .load none (.t 13)⟩,
            ⟨(some 15), none, .mv (.t 4)⟩,
            ⟨(some 16), none, .iaddr 3 (.t 14) (.t 15)⟩,
            ⟨(some 17), none, .load (some 3) (.t 16)⟩,
            ⟨(some 18), none, .bsl 3 1 [(.str (ByteArray.mk #[])), (.int .i64 0), (.bool false)] [(0, (.t 17))]⟩,
            ⟨(some 19), none, .app 3 32 12 (.t 18)⟩,
            ⟨(some 3), none, .take 19⟩]))
         (.reg [⟨(some 10), none, .take 4⟩,
           ⟨(some 11), none, .bin .add (.t 10) (.c (.int .i64 1))⟩,
           ⟨(some 4), none, .take 11⟩]))))))
    (.seq
     (.reg [⟨(some 20), none, .faddr (.t 1) 0⟩,
       ⟨(some 21), none, .load none (.t 20)⟩,
       ⟨(some 22), none, .faddr (.t 1) 1⟩,
       ⟨(some 23), none, .load none (.t 22)⟩,
       ⟨(some 24), none, .mv (.t 3)⟩,
       ⟨(some 25), none, .build [(.int .i64 0), (.int .u8 0), .nils] [(0, 1, (.t 21)), (1, 1, (.t 23)), (2, 1, (.t 24))]⟩,
       ⟨none, none, .store 3 (.t 2) (.t 25)⟩])
     .ret))))
def ar25 : List AR := [.c 2 (some 3)]
theorem comp25 : Try.f25.body.bind (comp Try.prog 26) = some ac25 := by kernel_rfl
theorem cres25 : compRes Try.prog Try.f25.results.toList = some ar25 := by kernel_rfl
/-- bilander/bilanderlaw20.do -/
def ac26 : AC :=
 (.seq
  (.reg [⟨(some 3), none, .box 3 (.t 0)⟩,
    ⟨(some 4), none, .box 3 (.t 1)⟩,
    ⟨(some 5), none, .box 5 (.t 2)⟩,
    ⟨(some 6), none, .alloc [(.int .i64 0), (.int .u8 0), .nils]⟩,
    ⟨(some 7), none, .alloc [(.int .i64 0), (.int .u8 0), .nils]⟩,
    ⟨(some 8), none, .mv (.c (.bool false))⟩])
  (.seq
   (.reg [⟨(some 9), none, .mv (.c (.int .i64 0))⟩,
     ⟨(some 10), none, .mv (.c (.int .i64 0))⟩])
   (.seq
    (.dreg [(3, 3), (4, 4), (11, 11), (12, 12)] [⟨(some 15), none, .load (some 3) (.t 3)⟩,
      ⟨(some 16), none, .load (some 3) (.t 4)⟩,
      ⟨(some 11), none, .alloc [(.int .i64 0), (.int .u8 0), .nils]⟩,
      ⟨(some 12), none, .alloc [(.int .i64 0), (.int .u8 0), .nils]⟩,
      ⟨none, none, .store 3 (.t 11) (.t 15)⟩,
      ⟨none, none, .store 3 (.t 12) (.t 16)⟩])
    (.seq
     (.seq
      (.reg [⟨(some 17), none, .faddr (.t 5) 0⟩,
        ⟨(some 18), none, .load none (.t 17)⟩,
        ⟨(some 19), none, .bin .rem (.t 18) (.c (.int .u8 5))⟩])
      (.block 0
       (.seq
        (.reg [⟨(some 33), none, .bin .eql (.t 19) (.c (.int .u8 0))⟩,
          ⟨(some 32), none, .take 33⟩])
        (.cond (.t 32)
         (.seq
          (.reg [⟨(some 35), none, .load (some 3) (.t 3)⟩,
            ⟨(some 36), none, .faddr (.t 5) 1⟩,
            ⟨(some 37), none, .load none (.t 36)⟩,
            ⟨(some 38), none, .faddr (.t 5) 4⟩,
            ⟨(some 39), none, .load none (.t 38)⟩,
            ⟨(some 40), none, .call 29 [(.t 35), (.t 37), (.t 39)]⟩,
            ⟨(some 34), none, .take 40⟩,
            ⟨(some 41), none, .extS 34 0⟩,
            ⟨(some 42), none, .ext 34 1⟩,
            ⟨none, none, .store 3 (.t 11) (.t 41)⟩,
            ⟨(some 9), none, .take 42⟩])
          (.reg [⟨(some 44), none, .load (some 3) (.t 4)⟩,
            ⟨(some 45), none, .faddr (.t 5) 1⟩,
            ⟨(some 46), none, .load none (.t 45)⟩,
            ⟨(some 47), none, .faddr (.t 5) 4⟩,
            ⟨(some 48), none, .load none (.t 47)⟩,
            ⟨(some 49), none, .call 44 [(.t 44), (.t 46), (.t 48)]⟩,
            ⟨(some 43), none, .take 49⟩,
            ⟨(some 50), none, .extS 43 0⟩,
            ⟨(some 51), none, .ext 43 1⟩,
            ⟨none, none, .store 3 (.t 12) (.t 50)⟩,
            ⟨(some 10), none, .take 51⟩]))
         (.seq
          (.reg [⟨(some 53), none, .bin .eql (.t 19) (.c (.int .u8 1))⟩,
            ⟨(some 52), none, .take 53⟩])
          (.cond (.t 52)
           (.seq
            (.reg [⟨(some 13), none, .mv (.c .nils)⟩,
              ⟨(some 14), none, .mv (.c .nils)⟩])
            (.seq
             (.reg [⟨(some 55), none, .load (some 3) (.t 3)⟩,
               ⟨(some 56), none, .faddr (.t 5) 1⟩,
               ⟨(some 57), none, .load none (.t 56)⟩,
               ⟨(some 58), none, .faddr (.t 5) 2⟩,
               ⟨(some 59), none, .load none (.t 58)⟩,
               ⟨(some 60), none, .faddr (.t 5) 3⟩,
               ⟨(some 61), none, .load none (.t 60)⟩,
               ⟨(some 62), none, .faddr (.t 5) 4⟩,
               ⟨(some 63), none, .load none (.t 62)⟩,
               ⟨(some 64), none, .call 30 [(.t 55), (.t 57), (.t 59), (.t 61), (.t 63)]⟩,
               ⟨(some 54), none, .take 64⟩,
               ⟨(some 65), none, .extS 54 0⟩,
               ⟨(some 66), none, .ext 54 1⟩,
               ⟨(some 67), none, .ext 54 2⟩,
               ⟨none, none, .store 3 (.t 11) (.t 65)⟩,
               ⟨(some 13), none, .take 66⟩,
               ⟨(some 9), none, .take 67⟩])
             (.seq
              (.reg [⟨(some 69), none, .load (some 3) (.t 4)⟩,
                ⟨(some 70), none, .faddr (.t 5) 1⟩,
                ⟨(some 71), none, .load none (.t 70)⟩,
                ⟨(some 72), none, .faddr (.t 5) 2⟩,
                ⟨(some 73), none, .load none (.t 72)⟩,
                ⟨(some 74), none, .faddr (.t 5) 3⟩,
                ⟨(some 75), none, .load none (.t 74)⟩,
                ⟨(some 76), none, .faddr (.t 5) 4⟩,
                ⟨(some 77), none, .load none (.t 76)⟩,
                ⟨(some 78), none, .call 45 [(.t 69), (.t 71), (.t 73), (.t 75), (.t 77)]⟩,
                ⟨(some 68), none, .take 78⟩,
                ⟨(some 79), none, .extS 68 0⟩,
                ⟨(some 80), none, .ext 68 1⟩,
                ⟨(some 81), none, .ext 68 2⟩,
                ⟨none, none, .store 3 (.t 12) (.t 79)⟩,
                ⟨(some 14), none, .take 80⟩,
                ⟨(some 10), none, .take 81⟩])
              (.seq
               (.reg [⟨(some 82), none, .mv (.t 13)⟩,
                 ⟨(some 83), none, .mv (.t 14)⟩,
                 ⟨(some 84), none, .call 19 [(.t 82), (.t 83)]⟩,
                 ⟨(some 85), none, .una .not (.t 84)⟩])
               (.cond (.t 85)
                (.seq
                 (.dreg [(3, 3), (4, 4), (6, 6), (7, 7)] [⟨(some 86), none, .load (some 3) (.t 3)⟩,
                   ⟨(some 87), none, .load (some 3) (.t 4)⟩,
                   ⟨none, none, .store 3 (.t 6) (.t 86)⟩,
                   ⟨none, none, .store 3 (.t 7) (.t 87)⟩,
                   ⟨(some 8), none, .mv (.c (.bool false))⟩])
                 .ret)
                .skip)))))
           (.seq
            (.reg [⟨(some 89), none, .bin .eql (.t 19) (.c (.int .u8 2))⟩,
              ⟨(some 88), none, .take 89⟩])
            (.cond (.t 88)
             (.seq
              (.reg [⟨(some 91), none, .load (some 3) (.t 3)⟩,
                ⟨(some 92), none, .faddr (.t 5) 1⟩,
                ⟨(some 93), none, .load none (.t 92)⟩,
                ⟨(some 94), none, .faddr (.t 5) 2⟩,
                ⟨(some 95), none, .load none (.t 94)⟩,
                ⟨(some 96), none, .faddr (.t 5) 4⟩,
                ⟨(some 97), none, .load none (.t 96)⟩,
                ⟨(some 98), none, .call 31 [(.t 91), (.t 93), (.t 95), (.t 97)]⟩,
                ⟨(some 90), none, .take 98⟩,
                ⟨(some 99), none, .extS 90 0⟩,
                ⟨(some 100), none, .ext 90 1⟩,
                ⟨none, none, .store 3 (.t 11) (.t 99)⟩,
                ⟨(some 9), none, .take 100⟩])
              (.reg [⟨(some 102), none, .load (some 3) (.t 4)⟩,
                ⟨(some 103), none, .faddr (.t 5) 1⟩,
                ⟨(some 104), none, .load none (.t 103)⟩,
                ⟨(some 105), none, .faddr (.t 5) 2⟩,
                ⟨(some 106), none, .load none (.t 105)⟩,
                ⟨(some 107), none, .faddr (.t 5) 4⟩,
                ⟨(some 108), none, .load none (.t 107)⟩,
                ⟨(some 109), none, .call 46 [(.t 102), (.t 104), (.t 106), (.t 108)]⟩,
                ⟨(some 101), none, .take 109⟩,
                ⟨(some 110), none, .extS 101 0⟩,
                ⟨(some 111), none, .ext 101 1⟩,
                ⟨none, none, .store 3 (.t 12) (.t 110)⟩,
                ⟨(some 10), none, .take 111⟩]))
             (.seq
              (.reg [⟨(some 113), none, .bin .eql (.t 19) (.c (.int .u8 3))⟩,
                ⟨(some 112), none, .take 113⟩])
              (.cond (.t 112)
               (.seq
                (.reg [⟨(some 115), none, .load (some 3) (.t 3)⟩,
                  ⟨(some 116), none, .faddr (.t 5) 1⟩,
                  ⟨(some 117), none, .load none (.t 116)⟩,
                  ⟨(some 118), none, .call 32 [(.t 115), (.t 117)]⟩,
                  ⟨(some 114), none, .take 118⟩,
                  ⟨(some 119), none, .extS 114 0⟩,
                  ⟨(some 120), none, .ext 114 1⟩,
                  ⟨none, none, .store 3 (.t 11) (.t 119)⟩,
                  ⟨(some 9), none, .take 120⟩])
                (.reg [⟨(some 122), none, .load (some 3) (.t 4)⟩,
                  ⟨(some 123), none, .faddr (.t 5) 1⟩,
                  ⟨(some 124), none, .load none (.t 123)⟩,
                  ⟨(some 125), none, .call 47 [(.t 122), (.t 124)]⟩,
                  ⟨(some 121), none, .take 125⟩,
                  ⟨(some 126), none, .extS 121 0⟩,
                  ⟨(some 127), none, .ext 121 1⟩,
                  ⟨none, none, .store 3 (.t 12) (.t 126)⟩,
                  ⟨(some 10), none, .take 127⟩]))
               (.seq
                (.reg [⟨(some 20), none, .load (some 3) (.t 3)⟩,
                  ⟨(some 21), none, .faddr (.t 5) 4⟩,
                  ⟨(some 22), none, .load none (.t 21)⟩,
                  ⟨(some 23), none, .faddr (.t 5) 2⟩,
                  ⟨(some 24), none, .load none (.t 23)⟩,
                  ⟨(some 25), none, .call 33 [(.t 20), (.t 22), (.t 24)]⟩,
                  ⟨none, none, .store 3 (.t 11) (.t 25)⟩])
                (.reg [⟨(some 26), none, .load (some 3) (.t 4)⟩,
                  ⟨(some 27), none, .faddr (.t 5) 4⟩,
                  ⟨(some 28), none, .load none (.t 27)⟩,
                  ⟨(some 29), none, .faddr (.t 5) 2⟩,
                  ⟨(some 30), none, .load none (.t 29)⟩,
                  ⟨(some 31), none, .call 48 [(.t 26), (.t 28), (.t 30)]⟩,
                  ⟨none, none, .store 3 (.t 12) (.t 31)⟩]))))))))))))
     (.seq
      (.seq
       (.reg [⟨(some 128), none, .mv (.t 10)⟩,
         ⟨(some 129), none, .bin .neq (.t 128) (.c (.int .i64 0))⟩])
       (.cond (.t 129)
        (.seq
         (.dreg [(3, 3), (4, 4), (6, 6), (7, 7)] [⟨(some 130), none, .load (some 3) (.t 3)⟩,
           ⟨(some 131), none, .load (some 3) (.t 4)⟩,
           ⟨(some 132), none, .mv (.t 9)⟩,
           ⟨(some 133), none, .mv (.t 10)⟩,
           ⟨(some 134), none, .bin .eql (.t 132) (.t 133)⟩,
           ⟨none, none, .store 3 (.t 6) (.t 130)⟩,
           ⟨none, none, .store 3 (.t 7) (.t 131)⟩,
           ⟨(some 8), none, .take 134⟩])
         .ret)
        .skip))
      (.seq
       (.dreg [(11, 11), (12, 12), (6, 6), (7, 7)] [⟨(some 135), none, .load (some 3) (.t 11)⟩,
         ⟨(some 136), none, .load (some 3) (.t 12)⟩,
         ⟨(some 137), none, .mv (.t 9)⟩,
         ⟨(some 138), none, .mv (.t 10)⟩,
         ⟨(some 139), none, .bin .eql (.t 137) (.t 138)⟩,
         ⟨(some 140), none, .mv (.t 139)⟩,
         ⟨(some 141), (some (140, true)), .load (some 3) (.t 11)⟩,
         ⟨(some 142), (some (140, true)), .call 28 [(.t 141)]⟩,
         ⟨(some 143), (some (140, true)), .load (some 3) (.t 12)⟩,
         ⟨(some 144), (some (140, true)), .call 27 [(.t 142), (.t 143)]⟩,
         ⟨(some 145), none, .pick (.t 140) (.t 144) (.c (.bool false))⟩,
         ⟨none, none, .store 3 (.t 6) (.t 135)⟩,
         ⟨none, none, .store 3 (.t 7) (.t 136)⟩,
         ⟨(some 8), none, .take 145⟩])
       .ret))))))
def ar26 : List AR := [.c 6 (some 3), .c 7 (some 3), .t 8]
theorem comp26 : Try.f26.body.bind (comp Try.prog 146) = some ac26 := by kernel_rfl
theorem cres26 : compRes Try.prog Try.f26.results.toList = some ar26 := by kernel_rfl
/-- bilander/bilanderref20.Same -/
def ac27 : AC :=
 (.seq
  (.reg [⟨(some 2), none, .box 3 (.t 0)⟩,
    ⟨(some 3), none, .box 3 (.t 1)⟩,
    ⟨(some 4), none, .mv (.c (.bool false))⟩])
  (.seq
   (.seq
    (.reg [⟨(some 6), none, .faddr (.t 2) 0⟩,
      ⟨(some 7), none, .load none (.t 6)⟩,
      ⟨(some 8), none, .faddr (.t 3) 0⟩,
      ⟨(some 9), none, .load none (.t 8)⟩,
      ⟨(some 10), none, .bin .neq (.t 7) (.t 9)⟩,
      ⟨(some 11), none, .take 10⟩,
      ⟨(some 12), (some (11, false)), .faddr (.t 2) 1⟩,
      ⟨(some 13), (some (11, false)), .load none (.t 12)⟩,
      ⟨(some 14), (some (11, false)), .faddr (.t 3) 1⟩,
      ⟨(some 15), (some (11, false)), .load none (.t 14)⟩,
      ⟨(some 16), (some (11, false)), .bin .neq (.t 13) (.t 15)⟩,
      ⟨(some 17), none, .pick (.t 11) (.c (.bool true)) (.t 16)⟩,
      ⟨(some 18), none, .take 17⟩,
      ⟨(some 19), (some (18, false)), .faddr (.t 2) 2⟩,
      ⟨(some 20), (some (18, false)), .load none (.t 19)⟩,
      ⟨(some 21), (some (18, false)), .len false (.t 20)⟩,
      ⟨(some 22), (some (18, false)), .faddr (.t 3) 2⟩,
      ⟨(some 23), (some (18, false)), .load none (.t 22)⟩,
      ⟨(some 24), (some (18, false)), .len false (.t 23)⟩,
      ⟨(some 25), (some (18, false)), .bin .neq (.t 21) (.t 24)⟩,
      ⟨(some 26), none, .pick (.t 18) (.c (.bool true)) (.t 25)⟩])
    (.cond (.t 26)
     (.seq
      (.reg [⟨(some 4), none, .mv (.c (.bool false))⟩])
      .ret)
     .skip))
   (.seq
    (.seq
     (.reg [⟨(some 5), none, .mv (.c (.int .i64 0))⟩])
     (.block 0
      (.loop
       (.seq
        (.seq
         (.reg [⟨(some 27), none, .mv (.t 5)⟩,
           ⟨(some 28), none, .faddr (.t 2) 2⟩,
           ⟨(some 29), none, .load none (.t 28)⟩,
           ⟨(some 30), none, .len false (.t 29)⟩,
           ⟨(some 31), none, .bin .lss (.t 27) (.t 30)⟩])
         (.cond (.t 31)
          .skip
          (.exit 0)))
        (.seq
         (.block 1
          (.seq
           (.dreg [] [⟨(some 34), none, .faddr (.t 2) 2⟩,
             ⟨(some 35), none, .load none (.t 34)⟩,
             ⟨(some 36), none, .mv (.t 5)⟩,
             ⟨(some 37), none, .iaddr 3 (.t 35) (.t 36)⟩,
             ⟨(some 38), none, .load (some 3) (.t 37)⟩,
             ⟨(some 39), none, .faddr (.t 3) 2⟩,
             ⟨(some 40), none, .load none (.t 39)⟩,
             ⟨(some 41), none, .mv (.t 5)⟩,
             ⟨(some 42), none, .iaddr 3 (.t 40) (.t 41)⟩,
             ⟨(some 43), none, .load (some 3) (.t 42)⟩,
             ⟨(some 44), none, .eqs [2, 1, 0] true (.t 38) (.t 43)⟩])
           (.cond (.t 44)
            (.seq
             (.reg [⟨(some 4), none, .mv (.c (.bool false))⟩])
             .ret)
            .skip)))
         (.reg [⟨(some 32), none, .take 5⟩,
           ⟨(some 33), none, .bin .add (.t 32) (.c (.int .i64 1))⟩,
           ⟨(some 5), none, .take 33⟩]))))))
    (.seq
     (.reg [⟨(some 4), none, .mv (.c (.bool true))⟩])
     .ret))))
def ar27 : List AR := [.t 4]
theorem comp27 : Try.f27.body.bind (comp Try.prog 45) = some ac27 := by kernel_rfl
theorem cres27 : compRes Try.prog Try.f27.results.toList = some ar27 := by kernel_rfl
/-- bilander/bilanderlaw20.as -/
def ac28 : AC :=
 (.seq
  (.reg [⟨(some 1), none, .box 3 (.t 0)⟩,
    ⟨(some 2), none, .alloc [(.int .i64 0), (.int .u8 0), .nils]⟩])
  (.seq
   (.reg [⟨(some 3), none, .mv (.c .nils)⟩])
   (.seq
    (.seq
     (.reg [⟨(some 4), none, .mv (.c (.int .i64 0))⟩])
     (.block 0
      (.loop
       (.seq
        (.seq
         (.reg [⟨(some 5), none, .mv (.t 4)⟩,
           ⟨(some 6), none, .faddr (.t 1) 2⟩,
           ⟨(some 7), none, .load none (.t 6)⟩,
           ⟨(some 8), none, .len false (.t 7)⟩,
           ⟨(some 9), none, .bin .lss (.t 5) (.t 8)⟩])
         (.cond (.t 9)
          .skip
          (.exit 0)))
        (.seq
         (.block 1
          (.reg [⟨(some 12), none, .take 3⟩,
            ⟨(some 13), none, .faddr (.t 1) 2⟩,
            ⟨(some 14), none, .load none (.t 13)⟩,
            ⟨(some 15), none, .mv (.t 4)⟩,
            ⟨(some 16), none, .iaddr 3 (.t 14) (.t 15)⟩,
            ⟨(some 17), none, .load (some 3) (.t 16)⟩,
            ⟨(some 18), none, .bsl 3 1 [(.str (ByteArray.mk #[])), (.int .i64 0), (.bool false)] [(0, (.t 17))]⟩,
            ⟨(some 19), none, .app 3 32 12 (.t 18)⟩,
            ⟨(some 3), none, .take 19⟩]))
         (.reg [⟨(some 10), none, .take 4⟩,
           ⟨(some 11), none, .bin .add (.t 10) (.c (.int .i64 1))⟩,
           ⟨(some 4), none, .take 11⟩]))))))
    (.seq
     (.reg [⟨(some 20), none, .faddr (.t 1) 0⟩,
       ⟨(some 21), none, .load none (.t 20)⟩,
       ⟨(some 22), none, .faddr (.t 1) 1⟩,
       ⟨(some 23), none, .load none (.t 22)⟩,
       ⟨(some 24), none, .mv (.t 3)⟩,
       ⟨(some 25), none, .build [(.int .i64 0), (.int .u8 0), .nils] [(0, 1, (.t 21)), (1, 1, (.t 23)), (2, 1, (.t 24))]⟩,
       ⟨none, none, .store 3 (.t 2) (.t 25)⟩])
     .ret))))
def ar28 : List AR := [.c 2 (some 3)]
theorem comp28 : Try.f28.body.bind (comp Try.prog 26) = some ac28 := by kernel_rfl
theorem cres28 : compRes Try.prog Try.f28.results.toList = some ar28 := by kernel_rfl
/-- bilander/group.Join -/
def ac29 : AC :=
 (.seq
  (.reg [⟨(some 3), none, .box 3 (.t 0)⟩,
    ⟨(some 4), none, .box 1 (.t 1)⟩,
    ⟨(some 6), none, .alloc [(.int .i64 0), (.int .u8 0), .nils]⟩,
    ⟨(some 7), none, .mv (.c (.int .i64 0))⟩])
  (.seq
   (.seq
    (.reg [⟨(some 11), none, .load (some 3) (.t 3)⟩,
      ⟨(some 12), none, .call 34 [(.t 11)]⟩,
      ⟨(some 8), none, .take 12⟩])
    (.seq
     (.reg [⟨(some 13), none, .mv (.t 8)⟩,
       ⟨(some 14), none, .bin .neq (.t 13) (.c (.int .i64 0))⟩])
     (.cond (.t 14)
      (.seq
       (.reg [⟨(some 15), none, .build [(.int .i64 0), (.int .u8 0), .nils] []⟩,
         ⟨(some 16), none, .take 8⟩,
         ⟨none, none, .store 3 (.t 6) (.t 15)⟩,
         ⟨(some 7), none, .take 16⟩])
       .ret)
      .skip)))
   (.seq
    (.reg [⟨(some 17), none, .load (some 3) (.t 3)⟩,
      ⟨(some 18), none, .load none (.t 4)⟩,
      ⟨(some 19), none, .call 49 [(.t 17), (.t 18)]⟩,
      ⟨(some 9), none, .take 19⟩])
    (.seq
     (.block 0
      (.seq
       (.reg [⟨(some 21), none, .load none (.t 4)⟩,
         ⟨(some 22), none, .call 50 [(.t 21)]⟩,
         ⟨(some 23), none, .una .not (.t 22)⟩,
         ⟨(some 20), none, .take 23⟩])
       (.cond (.t 20)
        (.seq
         (.reg [⟨(some 24), none, .build [(.int .i64 0), (.int .u8 0), .nils] []⟩,
           ⟨none, none, .store 3 (.t 6) (.t 24)⟩,
           ⟨(some 7), none, .mv (.c (.int .i64 6))⟩])
         .ret)
        (.seq
         (.reg [⟨(some 26), none, .mv (.t 2)⟩,
           ⟨(some 27), none, .call 51 [(.t 26)]⟩,
           ⟨(some 28), none, .una .not (.t 27)⟩,
           ⟨(some 25), none, .take 28⟩])
         (.cond (.t 25)
          (.seq
           (.reg [⟨(some 29), none, .build [(.int .i64 0), (.int .u8 0), .nils] []⟩,
             ⟨none, none, .store 3 (.t 6) (.t 29)⟩,
             ⟨(some 7), none, .mv (.c (.int .i64 11))⟩])
           .ret)
          (.seq
           (.reg [⟨(some 31), none, .mv (.t 9)⟩,
             ⟨(some 32), none, .bin .geq (.t 31) (.c (.int .i64 0))⟩,
             ⟨(some 30), none, .take 32⟩])
           (.cond (.t 30)
            (.seq
             (.reg [⟨(some 33), none, .load (some 3) (.t 3)⟩,
               ⟨(some 34), none, .mv (.t 9)⟩,
               ⟨(some 35), none, .mv (.t 2)⟩,
               ⟨(some 36), none, .call 52 [(.t 33), (.t 34), (.t 35), (.c (.fn 53 [] []))]⟩,
               ⟨none, none, .store 3 (.t 6) (.t 36)⟩,
               ⟨(some 7), none, .mv (.c (.int .i64 0))⟩])
             .ret)
            (.seq
             (.reg [⟨(some 38), none, .faddr (.t 3) 2⟩,
               ⟨(some 39), none, .load none (.t 38)⟩,
               ⟨(some 40), none, .len false (.t 39)⟩,
               ⟨(some 41), none, .bin .geq (.t 40) (.c (.int .i64 16))⟩,
               ⟨(some 37), none, .take 41⟩])
             (.cond (.t 37)
              (.seq
               (.reg [⟨(some 42), none, .build [(.int .i64 0), (.int .u8 0), .nils] []⟩,
                 ⟨none, none, .store 3 (.t 6) (.t 42)⟩,
                 ⟨(some 7), none, .mv (.c (.int .i64 9))⟩])
               .ret)
              (.seq
               (.reg [⟨(some 44), none, .faddr (.t 3) 0⟩,
                 ⟨(some 45), none, .load none (.t 44)⟩,
                 ⟨(some 46), none, .bin .geq (.t 45) (.c (.int .i64 1099511627776))⟩,
                 ⟨(some 43), none, .take 46⟩])
               (.cond (.t 43)
                (.seq
                 (.reg [⟨(some 47), none, .build [(.int .i64 0), (.int .u8 0), .nils] []⟩,
                   ⟨none, none, .store 3 (.t 6) (.t 47)⟩,
                   ⟨(some 7), none, .mv (.c (.int .i64 11))⟩])
                 .ret)
                .skip)))))))))))
     (.seq
      (.seq
       (.frz [4])
       (.reg [⟨(some 48), none, .faddr (.t 3) 2⟩,
         ⟨(some 49), none, .load none (.t 48)⟩,
         ⟨(some 50), none, .mkfn 55 [] [(.t 4)]⟩,
         ⟨(some 51), none, .call 54 [(.t 49), (.t 50)]⟩,
         ⟨(some 10), none, .take 51⟩]))
      (.seq
       (.seq
        (.reg [⟨(some 52), none, .mv (.t 10)⟩,
          ⟨(some 53), none, .bin .lss (.t 52) (.c (.int .i64 0))⟩])
        (.cond (.t 53)
         (.reg [⟨(some 54), none, .faddr (.t 3) 2⟩,
           ⟨(some 55), none, .load none (.t 54)⟩,
           ⟨(some 56), none, .len false (.t 55)⟩,
           ⟨(some 10), none, .take 56⟩])
         .skip))
       (.seq
        (.dreg [] [⟨(some 57), none, .load (some 3) (.t 3)⟩,
          ⟨(some 58), none, .faddr (.t 3) 2⟩,
          ⟨(some 59), none, .load none (.t 58)⟩,
          ⟨(some 60), none, .call 58 [(.t 59)]⟩,
          ⟨(some 61), none, .mv (.t 10)⟩,
          ⟨(some 62), none, .load none (.t 4)⟩,
          ⟨(some 63), none, .mv (.t 2)⟩,
          ⟨(some 64), none, .build [(.str (ByteArray.mk #[])), (.int .i64 0), (.bool false)] [(0, 1, (.t 62)), (1, 1, (.t 63))]⟩,
          ⟨(some 65), none, .bsl 3 1 [(.str (ByteArray.mk #[])), (.int .i64 0), (.bool false)] [(0, (.t 64))]⟩,
          ⟨(some 66), none, .call 57 [(.t 60), (.t 61), (.t 65)]⟩,
          ⟨(some 67), none, .call 56 [(.t 57), (.t 66)]⟩,
          ⟨none, none, .store 3 (.t 6) (.t 67)⟩,
          ⟨(some 7), none, .mv (.c (.int .i64 0))⟩])
        .ret)))))))
def ar29 : List AR := [.c 6 (some 3), .t 7]
theorem comp29 : Try.f29.body.bind (comp Try.prog 68) = some ac29 := by kernel_rfl
theorem cres29 : compRes Try.prog Try.f29.results.toList = some ar29 := by kernel_rfl
/-- bilander/group.Sync -/
def ac30 : AC :=
 (.seq
  (.reg [⟨(some 5), none, .box 3 (.t 0)⟩,
    ⟨(some 10), none, .alloc [(.int .i64 0), (.int .u8 0), .nils]⟩,
    ⟨(some 11), none, .mv (.c .nils)⟩,
    ⟨(some 12), none, .mv (.c (.int .i64 0))⟩])
  (.seq
   (.reg [⟨(some 16), none, .load (some 3) (.t 5)⟩,
     ⟨(some 17), none, .mv (.t 1)⟩,
     ⟨(some 18), none, .mv (.t 2)⟩,
     ⟨(some 19), none, .mv (.t 4)⟩,
     ⟨(some 20), none, .call 59 [(.t 16), (.t 17), (.t 18), (.t 19), (.c (.fn 60 [] []))]⟩,
     ⟨(some 15), none, .take 20⟩,
     ⟨(some 21), none, .extS 15 0⟩,
     ⟨(some 22), none, .ext 15 1⟩,
     ⟨(some 13), none, .alloc [(.int .i64 0), (.int .u8 0), .nils]⟩,
     ⟨none, none, .store 3 (.t 13) (.t 21)⟩,
     ⟨(some 14), none, .take 22⟩])
   (.seq
    (.seq
     (.reg [⟨(some 23), none, .mv (.t 14)⟩,
       ⟨(some 24), none, .bin .neq (.t 23) (.c (.int .i64 0))⟩])
     (.cond (.t 24)
      (.seq
       (.reg [⟨(some 25), none, .build [(.int .i64 0), (.int .u8 0), .nils] []⟩,
         ⟨(some 26), none, .take 14⟩,
         ⟨none, none, .store 3 (.t 10) (.t 25)⟩,
         ⟨(some 11), none, .mv (.c .nils)⟩,
         ⟨(some 12), none, .take 26⟩])
       .ret)
      .skip))
    (.seq
     (.dreg [] [⟨(some 27), none, .load (some 3) (.t 13)⟩,
       ⟨(some 28), none, .load (some 3) (.t 13)⟩,
       ⟨(some 29), none, .call 35 [(.t 28)]⟩,
       ⟨(some 30), none, .mv (.t 3)⟩,
       ⟨(some 31), none, .mv (.t 1)⟩,
       ⟨(some 32), none, .call 20 [(.t 29), (.t 30), (.t 31)]⟩,
       ⟨none, none, .store 3 (.t 10) (.t 27)⟩,
       ⟨(some 11), none, .take 32⟩,
       ⟨(some 12), none, .mv (.c (.int .i64 0))⟩])
     .ret))))
def ar30 : List AR := [.c 10 (some 3), .t 11, .t 12]
theorem comp30 : Try.f30.body.bind (comp Try.prog 33) = some ac30 := by kernel_rfl
theorem cres30 : compRes Try.prog Try.f30.results.toList = some ar30 := by kernel_rfl
/-- bilander/group.Beat -/
def ac31 : AC :=
 (.seq
  (.reg [⟨(some 4), none, .box 3 (.t 0)⟩,
    ⟨(some 8), none, .alloc [(.int .i64 0), (.int .u8 0), .nils]⟩,
    ⟨(some 9), none, .mv (.c (.int .i64 0))⟩])
  (.seq
   (.reg [⟨(some 10), none, .load (some 3) (.t 4)⟩,
     ⟨(some 11), none, .mv (.t 1)⟩,
     ⟨(some 12), none, .mv (.t 2)⟩,
     ⟨(some 13), none, .mv (.t 3)⟩,
     ⟨(some 14), none, .call 59 [(.t 10), (.t 11), (.t 12), (.t 13), (.c (.fn 61 [] []))]⟩,
     ⟨(some 15), none, .extS 14 0⟩,
     ⟨(some 16), none, .ext 14 1⟩,
     ⟨none, none, .store 3 (.t 8) (.t 15)⟩,
     ⟨(some 9), none, .take 16⟩])
   .ret))
def ar31 : List AR := [.c 8 (some 3), .t 9]
theorem comp31 : Try.f31.body.bind (comp Try.prog 17) = some ac31 := by kernel_rfl
theorem cres31 : compRes Try.prog Try.f31.results.toList = some ar31 := by kernel_rfl
/-- bilander/group.Leave -/
def ac32 : AC :=
 (.seq
  (.reg [⟨(some 2), none, .box 3 (.t 0)⟩,
    ⟨(some 4), none, .alloc [(.int .i64 0), (.int .u8 0), .nils]⟩,
    ⟨(some 5), none, .mv (.c (.int .i64 0))⟩])
  (.seq
   (.seq
    (.reg [⟨(some 8), none, .load (some 3) (.t 2)⟩,
      ⟨(some 9), none, .call 34 [(.t 8)]⟩,
      ⟨(some 6), none, .take 9⟩])
    (.seq
     (.reg [⟨(some 10), none, .mv (.t 6)⟩,
       ⟨(some 11), none, .bin .neq (.t 10) (.c (.int .i64 0))⟩])
     (.cond (.t 11)
      (.seq
       (.reg [⟨(some 12), none, .build [(.int .i64 0), (.int .u8 0), .nils] []⟩,
         ⟨(some 13), none, .take 6⟩,
         ⟨none, none, .store 3 (.t 4) (.t 12)⟩,
         ⟨(some 5), none, .take 13⟩])
       .ret)
      .skip)))
   (.seq
    (.reg [⟨(some 14), none, .load (some 3) (.t 2)⟩,
      ⟨(some 15), none, .mv (.t 1)⟩,
      ⟨(some 16), none, .call 49 [(.t 14), (.t 15)]⟩,
      ⟨(some 7), none, .take 16⟩])
    (.seq
     (.block 0
      (.seq
       (.reg [⟨(some 18), none, .mv (.t 7)⟩,
         ⟨(some 19), none, .bin .lss (.t 18) (.c (.int .i64 0))⟩,
         ⟨(some 17), none, .take 19⟩])
       (.cond (.t 17)
        (.seq
         (.reg [⟨(some 20), none, .build [(.int .i64 0), (.int .u8 0), .nils] []⟩,
           ⟨none, none, .store 3 (.t 4) (.t 20)⟩,
           ⟨(some 5), none, .mv (.c (.int .i64 20))⟩])
         .ret)
        (.seq
         (.reg [⟨(some 22), none, .faddr (.t 2) 0⟩,
           ⟨(some 23), none, .load none (.t 22)⟩,
           ⟨(some 24), none, .bin .geq (.t 23) (.c (.int .i64 1099511627776))⟩,
           ⟨(some 21), none, .take 24⟩])
         (.cond (.t 21)
          (.seq
           (.reg [⟨(some 25), none, .build [(.int .i64 0), (.int .u8 0), .nils] []⟩,
             ⟨none, none, .store 3 (.t 4) (.t 25)⟩,
             ⟨(some 5), none, .mv (.c (.int .i64 11))⟩])
           .ret)
          .skip)))))
     (.seq
      (.dreg [] [⟨(some 26), none, .load (some 3) (.t 2)⟩,
        ⟨(some 27), none, .faddr (.t 2) 2⟩,
        ⟨(some 28), none, .load none (.t 27)⟩,
        ⟨(some 29), none, .call 58 [(.t 28)]⟩,
        ⟨(some 30), none, .mv (.t 7)⟩,
        ⟨(some 31), none, .mv (.t 7)⟩,
        ⟨(some 32), none, .bin .add (.t 31) (.c (.int .i64 1))⟩,
        ⟨(some 33), none, .call 62 [(.t 29), (.t 30), (.t 32)]⟩,
        ⟨(some 34), none, .call 56 [(.t 26), (.t 33)]⟩,
        ⟨none, none, .store 3 (.t 4) (.t 34)⟩,
        ⟨(some 5), none, .mv (.c (.int .i64 0))⟩])
      .ret)))))
def ar32 : List AR := [.c 4 (some 3), .t 5]
theorem comp32 : Try.f32.body.bind (comp Try.prog 35) = some ac32 := by kernel_rfl
theorem cres32 : compRes Try.prog Try.f32.results.toList = some ar32 := by kernel_rfl
/-- bilander/group.Tick -/
def ac33 : AC :=
 (.seq
  (.reg [⟨(some 3), none, .box 3 (.t 0)⟩,
    ⟨(some 4), none, .box 1 (.t 1)⟩,
    ⟨(some 5), none, .box 1 (.t 2)⟩,
    ⟨(some 6), none, .alloc [(.int .i64 0), (.int .u8 0), .nils]⟩])
  (.seq
   (.reg [⟨(some 9), none, .load (some 3) (.t 3)⟩,
     ⟨(some 7), none, .alloc [(.int .i64 0), (.int .u8 0), .nils]⟩,
     ⟨none, none, .store 3 (.t 7) (.t 9)⟩])
   (.seq
    (.reg [⟨(some 10), none, .faddr (.t 3) 2⟩,
      ⟨(some 11), none, .load none (.t 10)⟩,
      ⟨(some 12), none, .call 58 [(.t 11)]⟩,
      ⟨(some 13), none, .faddr (.t 7) 2⟩,
      ⟨none, none, .store 1 (.t 13) (.t 12)⟩])
    (.seq
     (.seq
      (.reg [⟨(some 14), none, .load (some 3) (.t 3)⟩,
        ⟨(some 15), none, .call 34 [(.t 14)]⟩,
        ⟨(some 16), none, .bin .neq (.t 15) (.c (.int .i64 0))⟩,
        ⟨(some 17), none, .take 16⟩,
        ⟨(some 18), (some (17, false)), .faddr (.t 3) 0⟩,
        ⟨(some 19), (some (17, false)), .load none (.t 18)⟩,
        ⟨(some 20), (some (17, false)), .bin .geq (.t 19) (.c (.int .i64 1099511627776))⟩,
        ⟨(some 21), none, .pick (.t 17) (.c (.bool true)) (.t 20)⟩,
        ⟨(some 22), none, .take 21⟩,
        ⟨(some 23), (some (22, false)), .load none (.t 4)⟩,
        ⟨(some 24), (some (22, false)), .bin .lss (.t 23) (.c (.int .i64 0))⟩,
        ⟨(some 25), none, .pick (.t 22) (.c (.bool true)) (.t 24)⟩])
      (.cond (.t 25)
       (.seq
        (.reg [⟨(some 26), none, .load (some 3) (.t 7)⟩,
          ⟨none, none, .store 3 (.t 6) (.t 26)⟩])
        .ret)
       .skip))
     (.seq
      (.seq
       (.frz [4, 5])
       (.reg [⟨(some 27), none, .faddr (.t 3) 2⟩,
         ⟨(some 28), none, .load none (.t 27)⟩,
         ⟨(some 29), none, .call 58 [(.t 28)]⟩,
         ⟨(some 30), none, .mkfn 64 [] [(.t 4), (.t 5)]⟩,
         ⟨(some 31), none, .call 63 [(.t 29), (.t 30)]⟩,
         ⟨(some 8), none, .take 31⟩]))
      (.seq
       (.seq
        (.reg [⟨(some 32), none, .mv (.t 8)⟩,
          ⟨(some 33), none, .len false (.t 32)⟩,
          ⟨(some 34), none, .faddr (.t 3) 2⟩,
          ⟨(some 35), none, .load none (.t 34)⟩,
          ⟨(some 36), none, .len false (.t 35)⟩,
          ⟨(some 37), none, .bin .eql (.t 33) (.t 36)⟩])
        (.cond (.t 37)
         (.seq
          (.reg [⟨(some 38), none, .load (some 3) (.t 7)⟩,
            ⟨none, none, .store 3 (.t 6) (.t 38)⟩])
          .ret)
         .skip))
       (.seq
        (.reg [⟨(some 39), none, .load (some 3) (.t 3)⟩,
          ⟨(some 40), none, .mv (.t 8)⟩,
          ⟨(some 41), none, .call 56 [(.t 39), (.t 40)]⟩,
          ⟨none, none, .store 3 (.t 6) (.t 41)⟩])
        .ret)))))))
def ar33 : List AR := [.c 6 (some 3)]
theorem comp33 : Try.f33.body.bind (comp Try.prog 42) = some ac33 := by kernel_rfl
theorem cres33 : compRes Try.prog Try.f33.results.toList = some ar33 := by kernel_rfl
/-- bilander/group.Check -/
def ac34 : AC :=
 (.seq
  (.reg [⟨(some 1), none, .box 3 (.t 0)⟩,
    ⟨(some 2), none, .mv (.c (.int .i64 0))⟩])
  (.seq
   (.seq
    (.dreg [] [⟨(some 5), none, .faddr (.t 1) 2⟩,
      ⟨(some 6), none, .load none (.t 5)⟩,
      ⟨(some 7), none, .len false (.t 6)⟩,
      ⟨(some 8), none, .bin .gtr (.t 7) (.c (.int .i64 16))⟩,
      ⟨(some 9), none, .mv (.t 8)⟩,
      ⟨(some 10), (some (9, false)), .faddr (.t 1) 0⟩,
      ⟨(some 11), (some (9, false)), .load none (.t 10)⟩,
      ⟨(some 12), (some (9, false)), .call 51 [(.t 11)]⟩,
      ⟨(some 13), (some (9, false)), .una .not (.t 12)⟩,
      ⟨(some 14), none, .pick (.t 9) (.c (.bool true)) (.t 13)⟩,
      ⟨(some 15), none, .mv (.t 14)⟩,
      ⟨(some 16), (some (15, false)), .faddr (.t 1) 1⟩,
      ⟨(some 17), (some (15, false)), .load none (.t 16)⟩,
      ⟨(some 18), (some (15, false)), .faddr (.t 1) 2⟩,
      ⟨(some 19), (some (15, false)), .load none (.t 18)⟩,
      ⟨(some 20), (some (15, false)), .call 65 [(.t 19)]⟩,
      ⟨(some 21), (some (15, false)), .bin .neq (.t 17) (.t 20)⟩,
      ⟨(some 22), none, .pick (.t 15) (.c (.bool true)) (.t 21)⟩])
    (.cond (.t 22)
     (.seq
      (.reg [⟨(some 2), none, .mv (.c (.int .i64 4))⟩])
      .ret)
     .skip))
   (.seq
    (.seq
     (.reg [⟨(some 23), none, .faddr (.t 1) 2⟩,
       ⟨(some 24), none, .load none (.t 23)⟩,
       ⟨(some 25), none, .len false (.t 24)⟩,
       ⟨(some 26), none, .mv (.c (.int .i64 0))⟩])
     (.block 0
      (.loop
       (.seq
        (.reg [⟨(some 27), none, .bin .lss (.t 26) (.t 25)⟩])
        (.seq
         (.cond (.t 27)
          .skip
          (.exit 0))
         (.seq
          (.block 1
           (.seq
            (.reg [⟨(some 28), none, .take 26⟩,
              ⟨(some 29), none, .iaddr 3 (.t 24) (.t 26)⟩,
              ⟨(some 30), none, .load (some 3) (.t 29)⟩,
              ⟨(some 4), none, .alloc [(.str (ByteArray.mk #[])), (.int .i64 0), (.bool false)]⟩,
              ⟨(some 3), none, .take 28⟩,
              ⟨none, none, .store 3 (.t 4) (.t 30)⟩])
            (.seq
             (.dreg [] [⟨(some 31), none, .faddr (.t 4) 0⟩,
               ⟨(some 32), none, .load none (.t 31)⟩,
               ⟨(some 33), none, .call 50 [(.t 32)]⟩,
               ⟨(some 34), none, .una .not (.t 33)⟩,
               ⟨(some 35), none, .mv (.t 34)⟩,
               ⟨(some 36), (some (35, false)), .faddr (.t 4) 1⟩,
               ⟨(some 37), (some (35, false)), .load none (.t 36)⟩,
               ⟨(some 38), (some (35, false)), .call 51 [(.t 37)]⟩,
               ⟨(some 39), (some (35, false)), .una .not (.t 38)⟩,
               ⟨(some 40), none, .pick (.t 35) (.c (.bool true)) (.t 39)⟩,
               ⟨(some 41), none, .mv (.t 40)⟩,
               ⟨(some 42), (some (41, false)), .mv (.t 3)⟩,
               ⟨(some 43), (some (41, false)), .bin .gtr (.t 42) (.c (.int .i64 0))⟩,
               ⟨(some 44), (some (41, false)), .mv (.t 43)⟩,
               ⟨(some 45), (some (44, true)), .faddr (.t 1) 2⟩,
               ⟨(some 46), (some (44, true)), .load none (.t 45)⟩,
               ⟨(some 47), (some (44, true)), .mv (.t 3)⟩,
               ⟨(some 48), (some (44, true)), .bin .sub (.t 47) (.c (.int .i64 1))⟩,
               ⟨(some 49), (some (44, true)), .iaddr 3 (.t 46) (.t 48)⟩,
               ⟨(some 50), (some (44, true)), .faddr (.t 49) 0⟩,
               ⟨(some 51), (some (44, true)), .load none (.t 50)⟩,
               ⟨(some 52), (some (44, true)), .faddr (.t 4) 0⟩,
               ⟨(some 53), (some (44, true)), .load none (.t 52)⟩,
               ⟨(some 54), (some (44, true)), .bin .geq (.t 51) (.t 53)⟩,
               ⟨(some 55), (some (41, false)), .pick (.t 44) (.t 54) (.c (.bool false))⟩,
               ⟨(some 56), none, .pick (.t 41) (.c (.bool true)) (.t 55)⟩])
             (.cond (.t 56)
              (.seq
               (.reg [⟨(some 2), none, .mv (.c (.int .i64 4))⟩])
               .ret)
              .skip))))
          (.reg [⟨(some 57), none, .bin .add (.t 26) (.c (.int .i64 1))⟩,
            ⟨(some 26), none, .take 57⟩])))))))
    (.seq
     (.reg [⟨(some 2), none, .mv (.c (.int .i64 0))⟩])
     .ret))))
def ar34 : List AR := [.t 2]
theorem comp34 : Try.f34.body.bind (comp Try.prog 58) = some ac34 := by kernel_rfl
theorem cres34 : compRes Try.prog Try.f34.results.toList = some ar34 := by kernel_rfl
/-- bilander/group.Names -/
def ac35 : AC :=
 (.seq
  (.reg [⟨(some 1), none, .box 3 (.t 0)⟩,
    ⟨(some 2), none, .mv (.c .nils)⟩])
  (.seq
   (.reg [⟨(some 3), none, .mv (.c .nils)⟩])
   (.seq
    (.seq
     (.reg [⟨(some 6), none, .faddr (.t 1) 2⟩,
       ⟨(some 7), none, .load none (.t 6)⟩,
       ⟨(some 8), none, .len false (.t 7)⟩,
       ⟨(some 9), none, .mv (.c (.int .i64 0))⟩])
     (.block 0
      (.loop
       (.seq
        (.reg [⟨(some 10), none, .bin .lss (.t 9) (.t 8)⟩])
        (.seq
         (.cond (.t 10)
          .skip
          (.exit 0))
         (.seq
          (.block 1
           (.seq
            (.reg [⟨(some 11), none, .iaddr 3 (.t 7) (.t 9)⟩,
              ⟨(some 12), none, .load (some 3) (.t 11)⟩,
              ⟨(some 5), none, .alloc [(.str (ByteArray.mk #[])), (.int .i64 0), (.bool false)]⟩,
              ⟨none, none, .store 3 (.t 5) (.t 12)⟩])
            (.reg [⟨(some 13), none, .take 3⟩,
              ⟨(some 14), none, .faddr (.t 5) 0⟩,
              ⟨(some 15), none, .load none (.t 14)⟩,
              ⟨(some 16), none, .bsl 1 1 [(.str (ByteArray.mk #[]))] [(0, (.t 15))]⟩,
              ⟨(some 17), none, .app 1 16 13 (.t 16)⟩,
              ⟨(some 3), none, .take 17⟩])))
          (.reg [⟨(some 18), none, .bin .add (.t 9) (.c (.int .i64 1))⟩,
            ⟨(some 9), none, .take 18⟩])))))))
    (.seq
     (.reg [⟨(some 19), none, .take 3⟩,
       ⟨(some 2), none, .take 19⟩])
     .ret))))
def ar35 : List AR := [.t 2]
theorem comp35 : Try.f35.body.bind (comp Try.prog 20) = some ac35 := by kernel_rfl
theorem cres35 : compRes Try.prog Try.f35.results.toList = some ar35 := by kernel_rfl
/-- bilander/group.Find -/
def ac36 : AC :=
 (.seq
  (.reg [⟨(some 2), none, .box 3 (.t 0)⟩,
    ⟨(some 4), none, .alloc [(.str (ByteArray.mk #[])), (.int .i64 0), (.bool false)]⟩,
    ⟨(some 5), none, .mv (.c (.bool false))⟩])
  (.seq
   (.reg [⟨(some 7), none, .load (some 3) (.t 2)⟩,
     ⟨(some 8), none, .mv (.t 1)⟩,
     ⟨(some 9), none, .call 49 [(.t 7), (.t 8)]⟩,
     ⟨(some 6), none, .take 9⟩])
   (.seq
    (.seq
     (.reg [⟨(some 10), none, .mv (.t 6)⟩,
       ⟨(some 11), none, .bin .lss (.t 10) (.c (.int .i64 0))⟩])
     (.cond (.t 11)
      (.seq
       (.reg [⟨(some 12), none, .build [(.str (ByteArray.mk #[])), (.int .i64 0), (.bool false)] []⟩,
         ⟨none, none, .store 3 (.t 4) (.t 12)⟩,
         ⟨(some 5), none, .mv (.c (.bool false))⟩])
       .ret)
      .skip))
    (.seq
     (.reg [⟨(some 13), none, .faddr (.t 2) 2⟩,
       ⟨(some 14), none, .load none (.t 13)⟩,
       ⟨(some 15), none, .mv (.t 6)⟩,
       ⟨(some 16), none, .iaddr 3 (.t 14) (.t 15)⟩,
       ⟨(some 17), none, .load (some 3) (.t 16)⟩,
       ⟨none, none, .store 3 (.t 4) (.t 17)⟩,
       ⟨(some 5), none, .mv (.c (.bool true))⟩])
     .ret))))
def ar36 : List AR := [.c 4 (some 3), .t 5]
theorem comp36 : Try.f36.body.bind (comp Try.prog 18) = some ac36 := by kernel_rfl
theorem cres36 : compRes Try.prog Try.f36.results.toList = some ar36 := by kernel_rfl
/-- bilander/group.Same -/
def ac43 : AC :=
 (.seq
  (.reg [⟨(some 2), none, .box 3 (.t 0)⟩,
    ⟨(some 3), none, .box 3 (.t 1)⟩,
    ⟨(some 4), none, .mv (.c (.bool false))⟩])
  (.seq
   (.reg [⟨(some 5), none, .faddr (.t 2) 0⟩,
     ⟨(some 6), none, .load none (.t 5)⟩,
     ⟨(some 7), none, .faddr (.t 3) 0⟩,
     ⟨(some 8), none, .load none (.t 7)⟩,
     ⟨(some 9), none, .bin .eql (.t 6) (.t 8)⟩,
     ⟨(some 10), none, .take 9⟩,
     ⟨(some 11), (some (10, true)), .faddr (.t 2) 1⟩,
     ⟨(some 12), (some (10, true)), .load none (.t 11)⟩,
     ⟨(some 13), (some (10, true)), .faddr (.t 3) 1⟩,
     ⟨(some 14), (some (10, true)), .load none (.t 13)⟩,
     ⟨(some 15), (some (10, true)), .bin .eql (.t 12) (.t 14)⟩,
     ⟨(some 16), none, .pick (.t 10) (.t 15) (.c (.bool false))⟩,
     ⟨(some 17), none, .take 16⟩,
     ⟨(some 18), (some (17, true)), .faddr (.t 2) 2⟩,
     ⟨(some 19), (some (17, true)), .load none (.t 18)⟩,
     ⟨(some 20), (some (17, true)), .faddr (.t 3) 2⟩,
     ⟨(some 21), (some (17, true)), .load none (.t 20)⟩,
     ⟨(some 22), (some (17, true)), .call 70 [(.t 19), (.t 21)]⟩,
     ⟨(some 23), none, .pick (.t 17) (.t 22) (.c (.bool false))⟩,
     ⟨(some 4), none, .take 23⟩])
   .ret))
def ar43 : List AR := [.t 4]
theorem comp43 : Try.f43.body.bind (comp Try.prog 24) = some ac43 := by kernel_rfl
theorem cres43 : compRes Try.prog Try.f43.results.toList = some ar43 := by kernel_rfl
/-- bilander/bilanderref20.Join -/
def ac44 : AC :=
 (.seq
  (.reg [⟨(some 3), none, .box 3 (.t 0)⟩,
    ⟨(some 6), none, .alloc [(.int .i64 0), (.int .u8 0), .nils]⟩,
    ⟨(some 7), none, .mv (.c (.int .i64 0))⟩])
  (.seq
   (.reg [⟨(some 12), none, .load (some 3) (.t 3)⟩,
     ⟨(some 13), none, .mv (.t 1)⟩,
     ⟨(some 14), none, .call 71 [(.t 12), (.t 13)]⟩,
     ⟨(some 8), none, .take 14⟩])
   (.seq
    (.block 0
     (.seq
      (.reg [⟨(some 16), none, .load (some 3) (.t 3)⟩,
        ⟨(some 17), none, .call 72 [(.t 16)]⟩,
        ⟨(some 18), none, .bin .neq (.t 17) (.c (.int .i64 0))⟩,
        ⟨(some 15), none, .take 18⟩])
      (.cond (.t 15)
       (.seq
        (.reg [⟨(some 19), none, .load (some 3) (.t 3)⟩,
          ⟨none, none, .store 3 (.t 6) (.t 19)⟩,
          ⟨(some 7), none, .mv (.c (.int .i64 4))⟩])
        .ret)
       (.seq
        (.reg [⟨(some 21), none, .mv (.t 1)⟩,
          ⟨(some 22), none, .call 73 [(.t 21)]⟩,
          ⟨(some 23), none, .una .not (.t 22)⟩,
          ⟨(some 20), none, .take 23⟩])
        (.cond (.t 20)
         (.seq
          (.reg [⟨(some 24), none, .load (some 3) (.t 3)⟩,
            ⟨none, none, .store 3 (.t 6) (.t 24)⟩,
            ⟨(some 7), none, .mv (.c (.int .i64 6))⟩])
          .ret)
         (.seq
          (.reg [⟨(some 26), none, .mv (.t 2)⟩,
            ⟨(some 27), none, .call 74 [(.t 26)]⟩,
            ⟨(some 28), none, .una .not (.t 27)⟩,
            ⟨(some 25), none, .take 28⟩])
          (.cond (.t 25)
           (.seq
            (.reg [⟨(some 29), none, .load (some 3) (.t 3)⟩,
              ⟨none, none, .store 3 (.t 6) (.t 29)⟩,
              ⟨(some 7), none, .mv (.c (.int .i64 11))⟩])
            .ret)
           (.seq
            (.reg [⟨(some 31), none, .mv (.t 8)⟩,
              ⟨(some 32), none, .bin .geq (.t 31) (.c (.int .i64 0))⟩,
              ⟨(some 30), none, .take 32⟩])
            (.cond (.t 30)
             (.seq
              (.reg [⟨(some 33), none, .faddr (.t 3) 2⟩,
                ⟨(some 34), none, .load none (.t 33)⟩,
                ⟨(some 35), none, .mv (.t 8)⟩,
                ⟨(some 36), none, .iaddr 3 (.t 34) (.t 35)⟩,
                ⟨(some 37), none, .load (some 3) (.t 36)⟩,
                ⟨(some 9), none, .alloc [(.str (ByteArray.mk #[])), (.int .i64 0), (.bool false)]⟩,
                ⟨none, none, .store 3 (.t 9) (.t 37)⟩])
              (.seq
               (.reg [⟨(some 38), none, .faddr (.t 9) 1⟩,
                 ⟨(some 39), none, .load none (.t 38)⟩,
                 ⟨(some 40), none, .mv (.t 2)⟩,
                 ⟨(some 41), none, .minmax true (.t 39) (.t 40)⟩,
                 ⟨(some 42), none, .faddr (.t 9) 1⟩,
                 ⟨none, none, .store 1 (.t 42) (.t 41)⟩])
               (.seq
                (.reg [⟨(some 43), none, .load (some 3) (.t 3)⟩,
                  ⟨(some 44), none, .mv (.t 8)⟩,
                  ⟨(some 45), none, .load (some 3) (.t 9)⟩,
                  ⟨(some 46), none, .call 75 [(.t 43), (.t 44), (.t 45)]⟩,
                  ⟨none, none, .store 3 (.t 6) (.t 46)⟩,
                  ⟨(some 7), none, .mv (.c (.int .i64 0))⟩])
                .ret)))
             (.seq
              (.reg [⟨(some 48), none, .faddr (.t 3) 2⟩,
                ⟨(some 49), none, .load none (.t 48)⟩,
                ⟨(some 50), none, .len false (.t 49)⟩,
                ⟨(some 51), none, .bin .geq (.t 50) (.c (.int .i64 16))⟩,
                ⟨(some 47), none, .take 51⟩])
              (.cond (.t 47)
               (.seq
                (.reg [⟨(some 52), none, .load (some 3) (.t 3)⟩,
                  ⟨none, none, .store 3 (.t 6) (.t 52)⟩,
                  ⟨(some 7), none, .mv (.c (.int .i64 9))⟩])
                .ret)
               (.seq
                (.reg [⟨(some 54), none, .faddr (.t 3) 0⟩,
                  ⟨(some 55), none, .load none (.t 54)⟩,
                  ⟨(some 56), none, .bin .geq (.t 55) (.c (.int .i64 1099511627776))⟩,
                  ⟨(some 53), none, .take 56⟩])
                (.cond (.t 53)
                 (.seq
                  (.reg [⟨(some 57), none, .load (some 3) (.t 3)⟩,
                    ⟨none, none, .store 3 (.t 6) (.t 57)⟩,
                    ⟨(some 7), none, .mv (.c (.int .i64 11))⟩])
                  .ret)
                 .skip)))))))))))))
    (.seq
     (.reg [⟨(some 10), none, .mv (.c (.int .i64 0))⟩])
     (.seq
      (.block 1
       (.loop
        (.seq
         (.seq
          (.reg [⟨(some 58), none, .mv (.t 10)⟩,
            ⟨(some 59), none, .faddr (.t 3) 2⟩,
            ⟨(some 60), none, .load none (.t 59)⟩,
            ⟨(some 61), none, .len false (.t 60)⟩,
            ⟨(some 62), none, .bin .lss (.t 58) (.t 61)⟩,
            ⟨(some 63), none, .take 62⟩,
            ⟨(some 64), (some (63, true)), .faddr (.t 3) 2⟩,
            ⟨(some 65), (some (63, true)), .load none (.t 64)⟩,
            ⟨(some 66), (some (63, true)), .mv (.t 10)⟩,
            ⟨(some 67), (some (63, true)), .iaddr 3 (.t 65) (.t 66)⟩,
            ⟨(some 68), (some (63, true)), .faddr (.t 67) 0⟩,
            ⟨(some 69), (some (63, true)), .load none (.t 68)⟩,
            ⟨(some 70), (some (63, true)), .mv (.t 1)⟩,
            ⟨(some 71), (some (63, true)), .bin .lss (.t 69) (.t 70)⟩,
            ⟨(some 72), none, .pick (.t 63) (.t 71) (.c (.bool false))⟩])
          (.cond (.t 72)
           .skip
           (.exit 1)))
         (.block 2
          (.reg [⟨(some 73), none, .take 10⟩,
            ⟨(some 74), none, .bin .add (.t 73) (.c (.int .i64 1))⟩,
            ⟨(some 10), none, .take 74⟩])))))
      (.seq
       (.reg [⟨(some 11), none, .mv (.c .nils)⟩])
       (.seq
        (.dreg [] [⟨(some 75), none, .take 11⟩,
          ⟨(some 76), none, .faddr (.t 3) 2⟩,
          ⟨(some 77), none, .load none (.t 76)⟩,
          ⟨(some 78), none, .mv (.t 10)⟩,
          ⟨(some 79), none, .slc false 3 (.t 77) none (some (.t 78))⟩,
          ⟨(some 80), none, .app 3 32 75 (.t 79)⟩,
          ⟨(some 81), none, .mv (.t 1)⟩,
          ⟨(some 82), none, .mv (.t 2)⟩,
          ⟨(some 83), none, .build [(.str (ByteArray.mk #[])), (.int .i64 0), (.bool false)] [(0, 1, (.t 81)), (1, 1, (.t 82))]⟩,
          ⟨(some 84), none, .bsl 3 1 [(.str (ByteArray.mk #[])), (.int .i64 0), (.bool false)] [(0, (.t 83))]⟩,
          ⟨(some 85), none, .app 3 32 80 (.t 84)⟩,
          ⟨(some 86), none, .faddr (.t 3) 2⟩,
          ⟨(some 87), none, .load none (.t 86)⟩,
          ⟨(some 88), none, .mv (.t 10)⟩,
          ⟨(some 89), none, .slc false 3 (.t 87) (some (.t 88)) none⟩,
          ⟨(some 90), none, .app 3 32 85 (.t 89)⟩,
          ⟨(some 11), none, .take 90⟩])
        (.seq
         (.reg [⟨(some 91), none, .load (some 3) (.t 3)⟩,
           ⟨(some 92), none, .mv (.t 11)⟩,
           ⟨(some 93), none, .call 76 [(.t 91), (.t 92)]⟩,
           ⟨none, none, .store 3 (.t 6) (.t 93)⟩,
           ⟨(some 7), none, .mv (.c (.int .i64 0))⟩])
         .ret))))))))
def ar44 : List AR := [.c 6 (some 3), .t 7]
theorem comp44 : Try.f44.body.bind (comp Try.prog 94) = some ac44 := by kernel_rfl
theorem cres44 : compRes Try.prog Try.f44.results.toList = some ar44 := by kernel_rfl
/-- bilander/bilanderref20.Sync -/
def ac45 : AC :=
 (.seq
  (.reg [⟨(some 5), none, .box 3 (.t 0)⟩,
    ⟨(some 10), none, .alloc [(.int .i64 0), (.int .u8 0), .nils]⟩,
    ⟨(some 11), none, .mv (.c .nils)⟩,
    ⟨(some 12), none, .mv (.c (.int .i64 0))⟩])
  (.seq
   (.reg [⟨(some 18), none, .load (some 3) (.t 5)⟩,
     ⟨(some 19), none, .mv (.t 1)⟩,
     ⟨(some 20), none, .mv (.t 2)⟩,
     ⟨(some 21), none, .mv (.t 4)⟩,
     ⟨(some 22), none, .call 46 [(.t 18), (.t 19), (.t 20), (.t 21)]⟩,
     ⟨(some 17), none, .take 22⟩,
     ⟨(some 23), none, .extS 17 0⟩,
     ⟨(some 24), none, .ext 17 1⟩,
     ⟨(some 13), none, .alloc [(.int .i64 0), (.int .u8 0), .nils]⟩,
     ⟨none, none, .store 3 (.t 13) (.t 23)⟩,
     ⟨(some 14), none, .take 24⟩])
   (.seq
    (.seq
     (.reg [⟨(some 25), none, .mv (.t 14)⟩,
       ⟨(some 26), none, .bin .neq (.t 25) (.c (.int .i64 0))⟩])
     (.cond (.t 26)
      (.seq
       (.reg [⟨(some 27), none, .load (some 3) (.t 5)⟩,
         ⟨(some 28), none, .take 14⟩,
         ⟨none, none, .store 3 (.t 10) (.t 27)⟩,
         ⟨(some 11), none, .mv (.c .nils)⟩,
         ⟨(some 12), none, .take 28⟩])
       .ret)
      .skip))
    (.seq
     (.reg [⟨(some 29), none, .load (some 3) (.t 13)⟩,
       ⟨(some 30), none, .mv (.t 1)⟩,
       ⟨(some 31), none, .call 71 [(.t 29), (.t 30)]⟩,
       ⟨(some 15), none, .take 31⟩])
     (.seq
      (.reg [⟨(some 32), none, .faddr (.t 13) 2⟩,
        ⟨(some 33), none, .load none (.t 32)⟩,
        ⟨(some 34), none, .mv (.t 15)⟩,
        ⟨(some 35), none, .iaddr 3 (.t 33) (.t 34)⟩,
        ⟨(some 36), none, .load (some 3) (.t 35)⟩,
        ⟨(some 16), none, .alloc [(.str (ByteArray.mk #[])), (.int .i64 0), (.bool false)]⟩,
        ⟨none, none, .store 3 (.t 16) (.t 36)⟩])
      (.seq
       (.reg [⟨(some 37), none, .faddr (.t 16) 2⟩,
         ⟨none, none, .store 1 (.t 37) (.c (.bool true))⟩])
       (.seq
        (.reg [⟨(some 38), none, .load (some 3) (.t 13)⟩,
          ⟨(some 39), none, .mv (.t 15)⟩,
          ⟨(some 40), none, .load (some 3) (.t 16)⟩,
          ⟨(some 41), none, .call 75 [(.t 38), (.t 39), (.t 40)]⟩,
          ⟨none, none, .store 3 (.t 13) (.t 41)⟩])
        (.seq
         (.seq
          (.reg [⟨(some 42), none, .load (some 3) (.t 13)⟩,
            ⟨(some 43), none, .call 77 [(.t 42)]⟩])
          (.cond (.t 43)
           (.reg [⟨(some 44), none, .faddr (.t 13) 1⟩,
             ⟨none, none, .store 1 (.t 44) (.c (.int .u8 2))⟩])
           .skip))
         (.seq
          (.dreg [] [⟨(some 45), none, .load (some 3) (.t 13)⟩,
            ⟨(some 46), none, .load (some 3) (.t 13)⟩,
            ⟨(some 47), none, .call 78 [(.t 46)]⟩,
            ⟨(some 48), none, .mv (.t 3)⟩,
            ⟨(some 49), none, .mv (.t 1)⟩,
            ⟨(some 50), none, .call 21 [(.t 47), (.t 48), (.t 49)]⟩,
            ⟨none, none, .store 3 (.t 10) (.t 45)⟩,
            ⟨(some 11), none, .take 50⟩,
            ⟨(some 12), none, .mv (.c (.int .i64 0))⟩])
          .ret)))))))))
def ar45 : List AR := [.c 10 (some 3), .t 11, .t 12]
theorem comp45 : Try.f45.body.bind (comp Try.prog 51) = some ac45 := by kernel_rfl
theorem cres45 : compRes Try.prog Try.f45.results.toList = some ar45 := by kernel_rfl
/-- bilander/bilanderref20.Beat -/
def ac46 : AC :=
 (.seq
  (.reg [⟨(some 4), none, .box 3 (.t 0)⟩,
    ⟨(some 8), none, .alloc [(.int .i64 0), (.int .u8 0), .nils]⟩,
    ⟨(some 9), none, .mv (.c (.int .i64 0))⟩])
  (.seq
   (.reg [⟨(some 12), none, .load (some 3) (.t 4)⟩,
     ⟨(some 13), none, .mv (.t 1)⟩,
     ⟨(some 14), none, .call 71 [(.t 12), (.t 13)]⟩,
     ⟨(some 10), none, .take 14⟩])
   (.seq
    (.block 0
     (.seq
      (.reg [⟨(some 16), none, .load (some 3) (.t 4)⟩,
        ⟨(some 17), none, .call 72 [(.t 16)]⟩,
        ⟨(some 18), none, .bin .neq (.t 17) (.c (.int .i64 0))⟩,
        ⟨(some 15), none, .take 18⟩])
      (.cond (.t 15)
       (.seq
        (.reg [⟨(some 19), none, .load (some 3) (.t 4)⟩,
          ⟨none, none, .store 3 (.t 8) (.t 19)⟩,
          ⟨(some 9), none, .mv (.c (.int .i64 4))⟩])
        .ret)
       (.seq
        (.reg [⟨(some 21), none, .mv (.t 3)⟩,
          ⟨(some 22), none, .call 74 [(.t 21)]⟩,
          ⟨(some 23), none, .una .not (.t 22)⟩,
          ⟨(some 20), none, .take 23⟩])
        (.cond (.t 20)
         (.seq
          (.reg [⟨(some 24), none, .load (some 3) (.t 4)⟩,
            ⟨none, none, .store 3 (.t 8) (.t 24)⟩,
            ⟨(some 9), none, .mv (.c (.int .i64 11))⟩])
          .ret)
         (.seq
          (.reg [⟨(some 26), none, .mv (.t 10)⟩,
            ⟨(some 27), none, .bin .lss (.t 26) (.c (.int .i64 0))⟩,
            ⟨(some 25), none, .take 27⟩])
          (.cond (.t 25)
           (.seq
            (.reg [⟨(some 28), none, .load (some 3) (.t 4)⟩,
              ⟨none, none, .store 3 (.t 8) (.t 28)⟩,
              ⟨(some 9), none, .mv (.c (.int .i64 20))⟩])
            .ret)
           (.seq
            (.reg [⟨(some 30), none, .mv (.t 2)⟩,
              ⟨(some 31), none, .faddr (.t 4) 0⟩,
              ⟨(some 32), none, .load none (.t 31)⟩,
              ⟨(some 33), none, .bin .neq (.t 30) (.t 32)⟩,
              ⟨(some 29), none, .take 33⟩])
            (.cond (.t 29)
             (.seq
              (.reg [⟨(some 34), none, .load (some 3) (.t 4)⟩,
                ⟨none, none, .store 3 (.t 8) (.t 34)⟩,
                ⟨(some 9), none, .mv (.c (.int .i64 19))⟩])
              .ret)
             .skip)))))))))
    (.seq
     (.reg [⟨(some 35), none, .faddr (.t 4) 2⟩,
       ⟨(some 36), none, .load none (.t 35)⟩,
       ⟨(some 37), none, .mv (.t 10)⟩,
       ⟨(some 38), none, .iaddr 3 (.t 36) (.t 37)⟩,
       ⟨(some 39), none, .load (some 3) (.t 38)⟩,
       ⟨(some 11), none, .alloc [(.str (ByteArray.mk #[])), (.int .i64 0), (.bool false)]⟩,
       ⟨none, none, .store 3 (.t 11) (.t 39)⟩])
     (.seq
      (.reg [⟨(some 40), none, .faddr (.t 11) 1⟩,
        ⟨(some 41), none, .load none (.t 40)⟩,
        ⟨(some 42), none, .mv (.t 3)⟩,
        ⟨(some 43), none, .minmax true (.t 41) (.t 42)⟩,
        ⟨(some 44), none, .faddr (.t 11) 1⟩,
        ⟨none, none, .store 1 (.t 44) (.t 43)⟩])
      (.seq
       (.reg [⟨(some 45), none, .load (some 3) (.t 4)⟩,
         ⟨(some 46), none, .mv (.t 10)⟩,
         ⟨(some 47), none, .load (some 3) (.t 11)⟩,
         ⟨(some 48), none, .call 75 [(.t 45), (.t 46), (.t 47)]⟩,
         ⟨none, none, .store 3 (.t 8) (.t 48)⟩,
         ⟨(some 9), none, .mv (.c (.int .i64 0))⟩])
       .ret))))))
def ar46 : List AR := [.c 8 (some 3), .t 9]
theorem comp46 : Try.f46.body.bind (comp Try.prog 49) = some ac46 := by kernel_rfl
theorem cres46 : compRes Try.prog Try.f46.results.toList = some ar46 := by kernel_rfl
/-- bilander/bilanderref20.Leave -/
def ac47 : AC :=
 (.seq
  (.reg [⟨(some 2), none, .box 3 (.t 0)⟩,
    ⟨(some 4), none, .alloc [(.int .i64 0), (.int .u8 0), .nils]⟩,
    ⟨(some 5), none, .mv (.c (.int .i64 0))⟩])
  (.seq
   (.reg [⟨(some 8), none, .load (some 3) (.t 2)⟩,
     ⟨(some 9), none, .mv (.t 1)⟩,
     ⟨(some 10), none, .call 71 [(.t 8), (.t 9)]⟩,
     ⟨(some 6), none, .take 10⟩])
   (.seq
    (.block 0
     (.seq
      (.reg [⟨(some 12), none, .load (some 3) (.t 2)⟩,
        ⟨(some 13), none, .call 72 [(.t 12)]⟩,
        ⟨(some 14), none, .bin .neq (.t 13) (.c (.int .i64 0))⟩,
        ⟨(some 11), none, .take 14⟩])
      (.cond (.t 11)
       (.seq
        (.reg [⟨(some 15), none, .load (some 3) (.t 2)⟩,
          ⟨none, none, .store 3 (.t 4) (.t 15)⟩,
          ⟨(some 5), none, .mv (.c (.int .i64 4))⟩])
        .ret)
       (.seq
        (.reg [⟨(some 17), none, .mv (.t 6)⟩,
          ⟨(some 18), none, .bin .lss (.t 17) (.c (.int .i64 0))⟩,
          ⟨(some 16), none, .take 18⟩])
        (.cond (.t 16)
         (.seq
          (.reg [⟨(some 19), none, .load (some 3) (.t 2)⟩,
            ⟨none, none, .store 3 (.t 4) (.t 19)⟩,
            ⟨(some 5), none, .mv (.c (.int .i64 20))⟩])
          .ret)
         (.seq
          (.reg [⟨(some 21), none, .faddr (.t 2) 0⟩,
            ⟨(some 22), none, .load none (.t 21)⟩,
            ⟨(some 23), none, .bin .geq (.t 22) (.c (.int .i64 1099511627776))⟩,
            ⟨(some 20), none, .take 23⟩])
          (.cond (.t 20)
           (.seq
            (.reg [⟨(some 24), none, .load (some 3) (.t 2)⟩,
              ⟨none, none, .store 3 (.t 4) (.t 24)⟩,
              ⟨(some 5), none, .mv (.c (.int .i64 11))⟩])
            .ret)
           .skip)))))))
    (.seq
     (.reg [⟨(some 7), none, .mv (.c .nils)⟩])
     (.seq
      (.dreg [] [⟨(some 25), none, .load (some 3) (.t 2)⟩,
        ⟨(some 26), none, .mv (.t 7)⟩,
        ⟨(some 27), none, .faddr (.t 2) 2⟩,
        ⟨(some 28), none, .load none (.t 27)⟩,
        ⟨(some 29), none, .mv (.t 6)⟩,
        ⟨(some 30), none, .slc false 3 (.t 28) none (some (.t 29))⟩,
        ⟨(some 31), none, .app 3 32 26 (.t 30)⟩,
        ⟨(some 32), none, .faddr (.t 2) 2⟩,
        ⟨(some 33), none, .load none (.t 32)⟩,
        ⟨(some 34), none, .mv (.t 6)⟩,
        ⟨(some 35), none, .bin .add (.t 34) (.c (.int .i64 1))⟩,
        ⟨(some 36), none, .slc false 3 (.t 33) (some (.t 35)) none⟩,
        ⟨(some 37), none, .app 3 32 31 (.t 36)⟩,
        ⟨(some 38), none, .call 76 [(.t 25), (.t 37)]⟩,
        ⟨none, none, .store 3 (.t 4) (.t 38)⟩,
        ⟨(some 5), none, .mv (.c (.int .i64 0))⟩])
      .ret)))))
def ar47 : List AR := [.c 4 (some 3), .t 5]
theorem comp47 : Try.f47.body.bind (comp Try.prog 39) = some ac47 := by kernel_rfl
theorem cres47 : compRes Try.prog Try.f47.results.toList = some ar47 := by kernel_rfl
/-- bilander/bilanderref20.Tick -/
def ac48 : AC :=
 (.seq
  (.reg [⟨(some 3), none, .box 3 (.t 0)⟩,
    ⟨(some 6), none, .alloc [(.int .i64 0), (.int .u8 0), .nils]⟩])
  (.seq
   (.seq
    (.reg [⟨(some 9), none, .load (some 3) (.t 3)⟩,
      ⟨(some 10), none, .call 72 [(.t 9)]⟩,
      ⟨(some 11), none, .bin .neq (.t 10) (.c (.int .i64 0))⟩,
      ⟨(some 12), none, .take 11⟩,
      ⟨(some 13), (some (12, false)), .faddr (.t 3) 0⟩,
      ⟨(some 14), (some (12, false)), .load none (.t 13)⟩,
      ⟨(some 15), (some (12, false)), .bin .geq (.t 14) (.c (.int .i64 1099511627776))⟩,
      ⟨(some 16), none, .pick (.t 12) (.c (.bool true)) (.t 15)⟩])
    (.cond (.t 16)
     (.seq
      (.reg [⟨(some 17), none, .load (some 3) (.t 3)⟩,
        ⟨none, none, .store 3 (.t 6) (.t 17)⟩])
      .ret)
     .skip))
   (.seq
    (.reg [⟨(some 7), none, .mv (.c .nils)⟩])
    (.seq
     (.seq
      (.reg [⟨(some 8), none, .mv (.c (.int .i64 0))⟩])
      (.block 0
       (.loop
        (.seq
         (.seq
          (.reg [⟨(some 18), none, .mv (.t 8)⟩,
            ⟨(some 19), none, .faddr (.t 3) 2⟩,
            ⟨(some 20), none, .load none (.t 19)⟩,
            ⟨(some 21), none, .len false (.t 20)⟩,
            ⟨(some 22), none, .bin .lss (.t 18) (.t 21)⟩])
          (.cond (.t 22)
           .skip
           (.exit 0)))
         (.seq
          (.block 1
           (.seq
            (.reg [⟨(some 25), none, .mv (.t 1)⟩,
              ⟨(some 26), none, .bin .lss (.t 25) (.c (.int .i64 0))⟩,
              ⟨(some 27), none, .take 26⟩,
              ⟨(some 28), (some (27, false)), .mv (.t 1)⟩,
              ⟨(some 29), (some (27, false)), .faddr (.t 3) 2⟩,
              ⟨(some 30), (some (27, false)), .load none (.t 29)⟩,
              ⟨(some 31), (some (27, false)), .mv (.t 8)⟩,
              ⟨(some 32), (some (27, false)), .iaddr 3 (.t 30) (.t 31)⟩,
              ⟨(some 33), (some (27, false)), .faddr (.t 32) 1⟩,
              ⟨(some 34), (some (27, false)), .load none (.t 33)⟩,
              ⟨(some 35), (some (27, false)), .bin .sub (.t 28) (.t 34)⟩,
              ⟨(some 36), (some (27, false)), .mv (.t 2)⟩,
              ⟨(some 37), (some (27, false)), .minmax true (.c (.int .i64 0)) (.t 36)⟩,
              ⟨(some 38), (some (27, false)), .bin .leq (.t 35) (.t 37)⟩,
              ⟨(some 39), none, .pick (.t 27) (.c (.bool true)) (.t 38)⟩])
            (.cond (.t 39)
             (.reg [⟨(some 40), none, .take 7⟩,
               ⟨(some 41), none, .faddr (.t 3) 2⟩,
               ⟨(some 42), none, .load none (.t 41)⟩,
               ⟨(some 43), none, .mv (.t 8)⟩,
               ⟨(some 44), none, .iaddr 3 (.t 42) (.t 43)⟩,
               ⟨(some 45), none, .load (some 3) (.t 44)⟩,
               ⟨(some 46), none, .bsl 3 1 [(.str (ByteArray.mk #[])), (.int .i64 0), (.bool false)] [(0, (.t 45))]⟩,
               ⟨(some 47), none, .app 3 32 40 (.t 46)⟩,
               ⟨(some 7), none, .take 47⟩])
             .skip)))
          (.reg [⟨(some 23), none, .take 8⟩,
            ⟨(some 24), none, .bin .add (.t 23) (.c (.int .i64 1))⟩,
            ⟨(some 8), none, .take 24⟩]))))))
     (.seq
      (.seq
       (.reg [⟨(some 48), none, .mv (.t 7)⟩,
         ⟨(some 49), none, .len false (.t 48)⟩,
         ⟨(some 50), none, .faddr (.t 3) 2⟩,
         ⟨(some 51), none, .load none (.t 50)⟩,
         ⟨(some 52), none, .len false (.t 51)⟩,
         ⟨(some 53), none, .bin .eql (.t 49) (.t 52)⟩])
       (.cond (.t 53)
        (.seq
         (.reg [⟨(some 54), none, .load (some 3) (.t 3)⟩,
           ⟨none, none, .store 3 (.t 6) (.t 54)⟩])
         .ret)
        .skip))
      (.seq
       (.reg [⟨(some 55), none, .load (some 3) (.t 3)⟩,
         ⟨(some 56), none, .mv (.t 7)⟩,
         ⟨(some 57), none, .call 76 [(.t 55), (.t 56)]⟩,
         ⟨none, none, .store 3 (.t 6) (.t 57)⟩])
       .ret))))))
def ar48 : List AR := [.c 6 (some 3)]
theorem comp48 : Try.f48.body.bind (comp Try.prog 58) = some ac48 := by kernel_rfl
theorem cres48 : compRes Try.prog Try.f48.results.toList = some ar48 := by kernel_rfl
/-- bilander/group.place -/
def ac49 : AC :=
 (.seq
  (.reg [⟨(some 2), none, .box 3 (.t 0)⟩,
    ⟨(some 3), none, .box 1 (.t 1)⟩,
    ⟨(some 4), none, .mv (.c (.int .i64 0))⟩])
  (.seq
   (.seq
    (.frz [3])
    (.reg [⟨(some 5), none, .faddr (.t 2) 2⟩,
      ⟨(some 6), none, .load none (.t 5)⟩,
      ⟨(some 7), none, .mkfn 79 [] [(.t 3)]⟩,
      ⟨(some 8), none, .call 54 [(.t 6), (.t 7)]⟩,
      ⟨(some 4), none, .take 8⟩]))
   .ret))
def ar49 : List AR := [.t 4]
theorem comp49 : Try.f49.body.bind (comp Try.prog 9) = some ac49 := by kernel_rfl
theorem cres49 : compRes Try.prog Try.f49.results.toList = some ar49 := by kernel_rfl
/-- bilander/group.name -/
def ac50 : AC :=
 (.seq
  (.reg [⟨(some 2), none, .mv (.c (.bool false))⟩])
  (.seq
   (.reg [⟨(some 3), none, .mv (.t 0)⟩,
     ⟨(some 4), none, .bin .neq (.t 3) (.c (.str (ByteArray.mk #[])))⟩,
     ⟨(some 5), none, .take 4⟩,
     ⟨(some 6), (some (5, true)), .mv (.t 0)⟩,
     ⟨(some 7), (some (5, true)), .len true (.t 6)⟩,
     ⟨(some 8), (some (5, true)), .bin .leq (.t 7) (.c (.int .i64 32))⟩,
     ⟨(some 9), none, .pick (.t 5) (.t 8) (.c (.bool false))⟩,
     ⟨(some 2), none, .take 9⟩])
   .ret))
def ar50 : List AR := [.t 2]
theorem comp50 : Try.f50.body.bind (comp Try.prog 10) = some ac50 := by kernel_rfl
theorem cres50 : compRes Try.prog Try.f50.results.toList = some ar50 := by kernel_rfl
/-- bilander/group.time -/
def ac51 : AC :=
 (.seq
  (.reg [⟨(some 2), none, .mv (.c (.bool false))⟩])
  (.seq
   (.reg [⟨(some 3), none, .mv (.t 0)⟩,
     ⟨(some 4), none, .bin .geq (.t 3) (.c (.int .i64 0))⟩,
     ⟨(some 5), none, .take 4⟩,
     ⟨(some 6), (some (5, true)), .mv (.t 0)⟩,
     ⟨(some 7), (some (5, true)), .bin .leq (.t 6) (.c (.int .i64 1099511627776))⟩,
     ⟨(some 8), none, .pick (.t 5) (.t 7) (.c (.bool false))⟩,
     ⟨(some 2), none, .take 8⟩])
   .ret))
def ar51 : List AR := [.t 2]
theorem comp51 : Try.f51.body.bind (comp Try.prog 9) = some ac51 := by kernel_rfl
theorem cres51 : compRes Try.prog Try.f51.results.toList = some ar51 := by kernel_rfl
/-- bilander/group.seen -/
def ac52 : AC :=
 (.seq
  (.reg [⟨(some 4), none, .box 3 (.t 0)⟩,
    ⟨(some 8), none, .alloc [(.int .i64 0), (.int .u8 0), .nils]⟩])
  (.seq
   (.reg [⟨(some 10), none, .faddr (.t 4) 2⟩,
     ⟨(some 11), none, .load none (.t 10)⟩,
     ⟨(some 12), none, .call 58 [(.t 11)]⟩,
     ⟨(some 13), none, .faddr (.t 4) 2⟩,
     ⟨none, none, .store 1 (.t 13) (.t 12)⟩])
   (.seq
    (.reg [⟨(some 14), none, .faddr (.t 4) 2⟩,
      ⟨(some 15), none, .load none (.t 14)⟩,
      ⟨(some 16), none, .mv (.t 1)⟩,
      ⟨(some 17), none, .iaddr 3 (.t 15) (.t 16)⟩,
      ⟨(some 9), none, .take 17⟩])
    (.seq
     (.reg [⟨(some 18), none, .mv (.t 9)⟩,
       ⟨(some 19), none, .mv (.t 9)⟩,
       ⟨(some 20), none, .nilc (.t 19)⟩,
       ⟨(some 21), none, .faddr (.t 20) 1⟩,
       ⟨(some 22), none, .load none (.t 21)⟩,
       ⟨(some 23), none, .mv (.t 2)⟩,
       ⟨(some 24), none, .minmax true (.t 22) (.t 23)⟩,
       ⟨(some 25), none, .nilc (.t 18)⟩,
       ⟨(some 26), none, .faddr (.t 25) 1⟩,
       ⟨none, none, .store 1 (.t 26) (.t 24)⟩])
     (.seq
      (.reg [⟨(some 27), none, .mv (.t 3)⟩,
        ⟨(some 28), none, .mv (.t 9)⟩,
        ⟨(some 29), none, .callV (.t 27) [(.t 28)]⟩])
      (.seq
       (.reg [⟨(some 30), none, .faddr (.t 4) 2⟩,
         ⟨(some 31), none, .load none (.t 30)⟩,
         ⟨(some 32), none, .call 65 [(.t 31)]⟩,
         ⟨(some 33), none, .faddr (.t 4) 1⟩,
         ⟨none, none, .store 1 (.t 33) (.t 32)⟩])
       (.seq
        (.reg [⟨(some 34), none, .load (some 3) (.t 4)⟩,
          ⟨none, none, .store 3 (.t 8) (.t 34)⟩])
        .ret)))))))
def ar52 : List AR := [.c 8 (some 3)]
theorem comp52 : Try.f52.body.bind (comp Try.prog 35) = some ac52 := by kernel_rfl
theorem cres52 : compRes Try.prog Try.f52.results.toList = some ar52 := by kernel_rfl
/-- bilander/group.Join$1 -/
def ac53 : AC :=
 .skip
def ar53 : List AR := []
theorem comp53 : Try.f53.body.bind (comp Try.prog 2) = some ac53 := by kernel_rfl
theorem cres53 : compRes Try.prog Try.f53.results.toList = some ar53 := by kernel_rfl
/-- slices.IndexFunc[[]bilander/group.Member,bilander/group.Member] -/
def ac54 : AC :=
 (.seq
  (.reg [⟨(some 4), none, .mv (.c (.int .i64 0))⟩])
  (.seq
   (.seq
    (.reg [⟨(some 6), none, .mv (.t 0)⟩,
      ⟨(some 7), none, .len false (.t 6)⟩,
      ⟨(some 8), none, .mv (.c (.int .i64 0))⟩])
    (.block 0
     (.loop
      (.seq
       (.reg [⟨(some 9), none, .bin .lss (.t 8) (.t 7)⟩])
       (.seq
        (.cond (.t 9)
         .skip
         (.exit 0))
        (.seq
         (.block 1
          (.seq
           (.reg [⟨(some 10), none, .take 8⟩,
             ⟨(some 5), none, .take 10⟩])
           (.seq
            (.reg [⟨(some 11), none, .mv (.t 1)⟩,
              ⟨(some 12), none, .mv (.t 0)⟩,
              ⟨(some 13), none, .mv (.t 5)⟩,
              ⟨(some 14), none, .iaddr 3 (.t 12) (.t 13)⟩,
              ⟨(some 15), none, .load (some 3) (.t 14)⟩,
              ⟨(some 16), none, .callV (.t 11) [(.t 15)]⟩])
            (.cond (.t 16)
             (.seq
              (.reg [⟨(some 17), none, .take 5⟩,
                ⟨(some 4), none, .take 17⟩])
              .ret)
             .skip))))
         (.reg [⟨(some 18), none, .bin .add (.t 8) (.c (.int .i64 1))⟩,
           ⟨(some 8), none, .take 18⟩])))))))
   (.seq
    (.reg [⟨(some 4), none, .mv (.c (.int .i64 (-1)))⟩])
    .ret)))
def ar54 : List AR := [.t 4]
theorem comp54 : Try.f54.body.bind (comp Try.prog 19) = some ac54 := by kernel_rfl
theorem cres54 : compRes Try.prog Try.f54.results.toList = some ar54 := by kernel_rfl
/-- bilander/group.Join$2 -/
def ac55 : AC :=
 (.seq
  (.reg [⟨(some 2), none, .box 3 (.t 0)⟩,
    ⟨(some 3), none, .mv (.c (.bool false))⟩])
  (.seq
   (.reg [⟨(some 4), none, .faddr (.t 2) 0⟩,
     ⟨(some 5), none, .load none (.t 4)⟩,
     ⟨(some 6), none, .load none (.t 1)⟩,
     ⟨(some 7), none, .bin .gtr (.t 5) (.t 6)⟩,
     ⟨(some 3), none, .take 7⟩])
   .ret))
def ar55 : List AR := [.t 3]
theorem comp55 : Try.f55.body.bind (comp Try.prog 8) = some ac55 := by kernel_rfl
theorem cres55 : compRes Try.prog Try.f55.results.toList = some ar55 := by kernel_rfl
/-- bilander/group.turn -/
def ac56 : AC :=
 (.seq
  (.reg [⟨(some 2), none, .box 3 (.t 0)⟩,
    ⟨(some 4), none, .alloc [(.int .i64 0), (.int .u8 0), .nils]⟩])
  (.seq
   (.reg [⟨(some 6), none, .take 1⟩,
     ⟨(some 7), none, .call 58 [(.t 6)]⟩,
     ⟨(some 1), none, .take 7⟩])
   (.seq
    (.seq
     (.reg [⟨(some 8), none, .mv (.t 1)⟩,
       ⟨(some 9), none, .len false (.t 8)⟩,
       ⟨(some 10), none, .mv (.c (.int .i64 0))⟩])
     (.block 0
      (.loop
       (.seq
        (.reg [⟨(some 11), none, .bin .lss (.t 10) (.t 9)⟩])
        (.seq
         (.cond (.t 11)
          .skip
          (.exit 0))
         (.seq
          (.block 1
           (.seq
            (.reg [⟨(some 12), none, .take 10⟩,
              ⟨(some 5), none, .take 12⟩])
            (.reg [⟨(some 13), none, .mv (.t 1)⟩,
              ⟨(some 14), none, .mv (.t 5)⟩,
              ⟨(some 15), none, .iaddr 3 (.t 13) (.t 14)⟩,
              ⟨(some 16), none, .faddr (.t 15) 2⟩,
              ⟨none, none, .store 1 (.t 16) (.c (.bool false))⟩])))
          (.reg [⟨(some 17), none, .bin .add (.t 10) (.c (.int .i64 1))⟩,
            ⟨(some 10), none, .take 17⟩])))))))
    (.seq
     (.dreg [] [⟨(some 18), none, .faddr (.t 2) 0⟩,
       ⟨(some 19), none, .load none (.t 18)⟩,
       ⟨(some 20), none, .bin .add (.t 19) (.c (.int .i64 1))⟩,
       ⟨(some 21), none, .mv (.t 1)⟩,
       ⟨(some 22), none, .call 65 [(.t 21)]⟩,
       ⟨(some 23), none, .mv (.t 1)⟩,
       ⟨(some 24), none, .build [(.int .i64 0), (.int .u8 0), .nils] [(0, 1, (.t 20)), (1, 1, (.t 22)), (2, 1, (.t 23))]⟩,
       ⟨none, none, .store 3 (.t 4) (.t 24)⟩])
     .ret))))
def ar56 : List AR := [.c 4 (some 3)]
theorem comp56 : Try.f56.body.bind (comp Try.prog 25) = some ac56 := by kernel_rfl
theorem cres56 : compRes Try.prog Try.f56.results.toList = some ar56 := by kernel_rfl
/-- slices.Clone[[]bilander/group.Member,bilander/group.Member] -/
def ac58 : AC :=
 (.seq
  (.reg [⟨(some 2), none, .mv (.c .nils)⟩])
  (.seq
   (.seq
    (.reg [⟨(some 3), none, .mv (.t 0)⟩,
      ⟨(some 4), none, .eqn true false (.t 3)⟩])
    (.cond (.t 4)
     (.seq
      (.reg [⟨(some 2), none, .mv (.c .nils)⟩])
      .ret)
     .skip))
   (.seq
    (.reg [⟨(some 5), none, .bsl 3 0 [(.str (ByteArray.mk #[])), (.int .i64 0), (.bool false)] []⟩,
      ⟨(some 6), none, .mv (.t 0)⟩,
      ⟨(some 7), none, .app 3 32 5 (.t 6)⟩,
      ⟨(some 2), none, .take 7⟩])
    .ret)))
def ar58 : List AR := [.t 2]
theorem comp58 : Try.f58.body.bind (comp Try.prog 8) = some ac58 := by kernel_rfl
theorem cres58 : compRes Try.prog Try.f58.results.toList = some ar58 := by kernel_rfl
/-- bilander/group.beat -/
def ac59 : AC :=
 (.seq
  (.reg [⟨(some 5), none, .box 3 (.t 0)⟩,
    ⟨(some 10), none, .alloc [(.int .i64 0), (.int .u8 0), .nils]⟩,
    ⟨(some 11), none, .mv (.c (.int .i64 0))⟩])
  (.seq
   (.seq
    (.reg [⟨(some 14), none, .load (some 3) (.t 5)⟩,
      ⟨(some 15), none, .call 34 [(.t 14)]⟩,
      ⟨(some 12), none, .take 15⟩])
    (.seq
     (.reg [⟨(some 16), none, .mv (.t 12)⟩,
       ⟨(some 17), none, .bin .neq (.t 16) (.c (.int .i64 0))⟩])
     (.cond (.t 17)
      (.seq
       (.reg [⟨(some 18), none, .build [(.int .i64 0), (.int .u8 0), .nils] []⟩,
         ⟨(some 19), none, .take 12⟩,
         ⟨none, none, .store 3 (.t 10) (.t 18)⟩,
         ⟨(some 11), none, .take 19⟩])
       .ret)
      .skip)))
   (.seq
    (.reg [⟨(some 20), none, .load (some 3) (.t 5)⟩,
      ⟨(some 21), none, .mv (.t 1)⟩,
      ⟨(some 22), none, .call 49 [(.t 20), (.t 21)]⟩,
      ⟨(some 13), none, .take 22⟩])
    (.seq
     (.block 0
      (.seq
       (.reg [⟨(some 24), none, .mv (.t 3)⟩,
         ⟨(some 25), none, .call 51 [(.t 24)]⟩,
         ⟨(some 26), none, .una .not (.t 25)⟩,
         ⟨(some 23), none, .take 26⟩])
       (.cond (.t 23)
        (.seq
         (.reg [⟨(some 27), none, .build [(.int .i64 0), (.int .u8 0), .nils] []⟩,
           ⟨none, none, .store 3 (.t 10) (.t 27)⟩,
           ⟨(some 11), none, .mv (.c (.int .i64 11))⟩])
         .ret)
        (.seq
         (.reg [⟨(some 29), none, .mv (.t 13)⟩,
           ⟨(some 30), none, .bin .lss (.t 29) (.c (.int .i64 0))⟩,
           ⟨(some 28), none, .take 30⟩])
         (.cond (.t 28)
          (.seq
           (.reg [⟨(some 31), none, .build [(.int .i64 0), (.int .u8 0), .nils] []⟩,
             ⟨none, none, .store 3 (.t 10) (.t 31)⟩,
             ⟨(some 11), none, .mv (.c (.int .i64 20))⟩])
           .ret)
          (.seq
           (.reg [⟨(some 33), none, .mv (.t 2)⟩,
             ⟨(some 34), none, .faddr (.t 5) 0⟩,
             ⟨(some 35), none, .load none (.t 34)⟩,
             ⟨(some 36), none, .bin .neq (.t 33) (.t 35)⟩,
             ⟨(some 32), none, .take 36⟩])
           (.cond (.t 32)
            (.seq
             (.reg [⟨(some 37), none, .build [(.int .i64 0), (.int .u8 0), .nils] []⟩,
               ⟨none, none, .store 3 (.t 10) (.t 37)⟩,
               ⟨(some 11), none, .mv (.c (.int .i64 19))⟩])
             .ret)
            .skip)))))))
     (.seq
      (.reg [⟨(some 38), none, .load (some 3) (.t 5)⟩,
        ⟨(some 39), none, .mv (.t 13)⟩,
        ⟨(some 40), none, .mv (.t 3)⟩,
        ⟨(some 41), none, .mv (.t 4)⟩,
        ⟨(some 42), none, .call 52 [(.t 38), (.t 39), (.t 40), (.t 41)]⟩,
        ⟨none, none, .store 3 (.t 10) (.t 42)⟩,
        ⟨(some 11), none, .mv (.c (.int .i64 0))⟩])
      .ret)))))
def ar59 : List AR := [.c 10 (some 3), .t 11]
theorem comp59 : Try.f59.body.bind (comp Try.prog 43) = some ac59 := by kernel_rfl
theorem cres59 : compRes Try.prog Try.f59.results.toList = some ar59 := by kernel_rfl
/-- bilander/group.Sync$1 -/
def ac60 : AC :=
 (.reg [⟨(some 2), none, .mv (.t 0)⟩,
   ⟨(some 3), none, .nilc (.t 2)⟩,
   ⟨(some 4), none, .faddr (.t 3) 2⟩,
   ⟨none, none, .store 1 (.t 4) (.c (.bool true))⟩])
def ar60 : List AR := []
theorem comp60 : Try.f60.body.bind (comp Try.prog 5) = some ac60 := by kernel_rfl
theorem cres60 : compRes Try.prog Try.f60.results.toList = some ar60 := by kernel_rfl
/-- bilander/group.Beat$1 -/
def ac61 : AC :=
 .skip
def ar61 : List AR := []
theorem comp61 : Try.f61.body.bind (comp Try.prog 2) = some ac61 := by kernel_rfl
theorem cres61 : compRes Try.prog Try.f61.results.toList = some ar61 := by kernel_rfl
/-- bilander/group.Tick$1 -/
def ac64 : AC :=
 (.seq
  (.reg [⟨(some 3), none, .box 3 (.t 0)⟩,
    ⟨(some 4), none, .mv (.c (.bool false))⟩])
  (.seq
   (.reg [⟨(some 5), none, .load none (.t 1)⟩,
     ⟨(some 6), none, .faddr (.t 3) 1⟩,
     ⟨(some 7), none, .load none (.t 6)⟩,
     ⟨(some 8), none, .bin .sub (.t 5) (.t 7)⟩,
     ⟨(some 9), none, .load none (.t 2)⟩,
     ⟨(some 10), none, .minmax true (.c (.int .i64 0)) (.t 9)⟩,
     ⟨(some 11), none, .bin .gtr (.t 8) (.t 10)⟩,
     ⟨(some 4), none, .take 11⟩])
   .ret))
def ar64 : List AR := [.t 4]
theorem comp64 : Try.f64.body.bind (comp Try.prog 12) = some ac64 := by kernel_rfl
theorem cres64 : compRes Try.prog Try.f64.results.toList = some ar64 := by kernel_rfl
/-- bilander/group.phase -/
def ac65 : AC :=
 (.seq
  (.reg [⟨(some 2), none, .mv (.c (.int .u8 0))⟩])
  (.seq
   (.block 0
    (.seq
     (.reg [⟨(some 4), none, .mv (.t 0)⟩,
       ⟨(some 5), none, .len false (.t 4)⟩,
       ⟨(some 6), none, .bin .eql (.t 5) (.c (.int .i64 0))⟩,
       ⟨(some 3), none, .take 6⟩])
     (.cond (.t 3)
      (.seq
       (.reg [⟨(some 2), none, .mv (.c (.int .u8 0))⟩])
       .ret)
      (.seq
       (.reg [⟨(some 8), none, .mv (.t 0)⟩,
         ⟨(some 9), none, .call 82 [(.t 8), (.c (.fn 83 [] []))]⟩,
         ⟨(some 7), none, .take 9⟩])
       (.cond (.t 7)
        (.seq
         (.reg [⟨(some 2), none, .mv (.c (.int .u8 1))⟩])
         .ret)
        .skip)))))
   (.seq
    (.reg [⟨(some 2), none, .mv (.c (.int .u8 2))⟩])
    .ret)))
def ar65 : List AR := [.t 2]
theorem comp65 : Try.f65.body.bind (comp Try.prog 10) = some ac65 := by kernel_rfl
theorem cres65 : compRes Try.prog Try.f65.results.toList = some ar65 := by kernel_rfl
/-- slices.Equal[[]bilander/group.Member,bilander/group.Member] -/
def ac70 : AC :=
 (.seq
  (.reg [⟨(some 4), none, .mv (.c (.bool false))⟩])
  (.seq
   (.seq
    (.reg [⟨(some 6), none, .mv (.t 0)⟩,
      ⟨(some 7), none, .len false (.t 6)⟩,
      ⟨(some 8), none, .mv (.t 1)⟩,
      ⟨(some 9), none, .len false (.t 8)⟩,
      ⟨(some 10), none, .bin .neq (.t 7) (.t 9)⟩])
    (.cond (.t 10)
     (.seq
      (.reg [⟨(some 4), none, .mv (.c (.bool false))⟩])
      .ret)
     .skip))
   (.seq
    (.seq
     (.reg [⟨(some 11), none, .mv (.t 0)⟩,
       ⟨(some 12), none, .len false (.t 11)⟩,
       ⟨(some 13), none, .mv (.c (.int .i64 0))⟩])
     (.block 0
      (.loop
       (.seq
        (.reg [⟨(some 14), none, .bin .lss (.t 13) (.t 12)⟩])
        (.seq
         (.cond (.t 14)
          .skip
          (.exit 0))
         (.seq
          (.block 1
           (.seq
            (.reg [⟨(some 15), none, .take 13⟩,
              ⟨(some 5), none, .take 15⟩])
            (.seq
             (.dreg [] [⟨(some 16), none, .mv (.t 0)⟩,
               ⟨(some 17), none, .mv (.t 5)⟩,
               ⟨(some 18), none, .iaddr 3 (.t 16) (.t 17)⟩,
               ⟨(some 19), none, .load (some 3) (.t 18)⟩,
               ⟨(some 20), none, .mv (.t 1)⟩,
               ⟨(some 21), none, .mv (.t 5)⟩,
               ⟨(some 22), none, .iaddr 3 (.t 20) (.t 21)⟩,
               ⟨(some 23), none, .load (some 3) (.t 22)⟩,
               ⟨(some 24), none, .eqs [2, 1, 0] true (.t 19) (.t 23)⟩])
             (.cond (.t 24)
              (.seq
               (.reg [⟨(some 4), none, .mv (.c (.bool false))⟩])
               .ret)
              .skip))))
          (.reg [⟨(some 25), none, .bin .add (.t 13) (.c (.int .i64 1))⟩,
            ⟨(some 13), none, .take 25⟩])))))))
    (.seq
     (.reg [⟨(some 4), none, .mv (.c (.bool true))⟩])
     .ret))))
def ar70 : List AR := [.t 4]
theorem comp70 : Try.f70.body.bind (comp Try.prog 26) = some ac70 := by kernel_rfl
theorem cres70 : compRes Try.prog Try.f70.results.toList = some ar70 := by kernel_rfl
/-- bilander/bilanderref20.place -/
def ac71 : AC :=
 (.seq
  (.reg [⟨(some 2), none, .box 3 (.t 0)⟩,
    ⟨(some 4), none, .mv (.c (.int .i64 0))⟩])
  (.seq
   (.seq
    (.reg [⟨(some 5), none, .mv (.c (.int .i64 0))⟩])
    (.block 0
     (.loop
      (.seq
       (.seq
        (.reg [⟨(some 6), none, .mv (.t 5)⟩,
          ⟨(some 7), none, .faddr (.t 2) 2⟩,
          ⟨(some 8), none, .load none (.t 7)⟩,
          ⟨(some 9), none, .len false (.t 8)⟩,
          ⟨(some 10), none, .bin .lss (.t 6) (.t 9)⟩])
        (.cond (.t 10)
         .skip
         (.exit 0)))
       (.seq
        (.block 1
         (.seq
          (.reg [⟨(some 13), none, .faddr (.t 2) 2⟩,
            ⟨(some 14), none, .load none (.t 13)⟩,
            ⟨(some 15), none, .mv (.t 5)⟩,
            ⟨(some 16), none, .iaddr 3 (.t 14) (.t 15)⟩,
            ⟨(some 17), none, .faddr (.t 16) 0⟩,
            ⟨(some 18), none, .load none (.t 17)⟩,
            ⟨(some 19), none, .mv (.t 1)⟩,
            ⟨(some 20), none, .bin .eql (.t 18) (.t 19)⟩])
          (.cond (.t 20)
           (.seq
            (.reg [⟨(some 21), none, .take 5⟩,
              ⟨(some 4), none, .take 21⟩])
            .ret)
           .skip)))
        (.reg [⟨(some 11), none, .take 5⟩,
          ⟨(some 12), none, .bin .add (.t 11) (.c (.int .i64 1))⟩,
          ⟨(some 5), none, .take 12⟩]))))))
   (.seq
    (.reg [⟨(some 4), none, .mv (.c (.int .i64 (-1)))⟩])
    .ret)))
def ar71 : List AR := [.t 4]
theorem comp71 : Try.f71.body.bind (comp Try.prog 22) = some ac71 := by kernel_rfl
theorem cres71 : compRes Try.prog Try.f71.results.toList = some ar71 := by kernel_rfl
/-- bilander/bilanderref20.Check -/
def ac72 : AC :=
 (.seq
  (.reg [⟨(some 1), none, .box 3 (.t 0)⟩,
    ⟨(some 2), none, .mv (.c (.int .i64 0))⟩])
  (.seq
   (.seq
    (.reg [⟨(some 5), none, .faddr (.t 1) 2⟩,
      ⟨(some 6), none, .load none (.t 5)⟩,
      ⟨(some 7), none, .len false (.t 6)⟩,
      ⟨(some 8), none, .bin .gtr (.t 7) (.c (.int .i64 16))⟩,
      ⟨(some 9), none, .take 8⟩,
      ⟨(some 10), (some (9, false)), .faddr (.t 1) 0⟩,
      ⟨(some 11), (some (9, false)), .load none (.t 10)⟩,
      ⟨(some 12), (some (9, false)), .call 74 [(.t 11)]⟩,
      ⟨(some 13), (some (9, false)), .una .not (.t 12)⟩,
      ⟨(some 14), none, .pick (.t 9) (.c (.bool true)) (.t 13)⟩,
      ⟨(some 15), none, .take 14⟩,
      ⟨(some 16), (some (15, false)), .faddr (.t 1) 1⟩,
      ⟨(some 17), (some (15, false)), .load none (.t 16)⟩,
      ⟨(some 18), (some (15, false)), .bin .gtr (.t 17) (.c (.int .u8 2))⟩,
      ⟨(some 19), none, .pick (.t 15) (.c (.bool true)) (.t 18)⟩])
    (.cond (.t 19)
     (.seq
      (.reg [⟨(some 2), none, .mv (.c (.int .i64 4))⟩])
      .ret)
     .skip))
   (.seq
    (.seq
     (.reg [⟨(some 3), none, .mv (.c (.int .i64 0))⟩])
     (.block 0
      (.loop
       (.seq
        (.seq
         (.reg [⟨(some 20), none, .mv (.t 3)⟩,
           ⟨(some 21), none, .faddr (.t 1) 2⟩,
           ⟨(some 22), none, .load none (.t 21)⟩,
           ⟨(some 23), none, .len false (.t 22)⟩,
           ⟨(some 24), none, .bin .lss (.t 20) (.t 23)⟩])
         (.cond (.t 24)
          .skip
          (.exit 0)))
        (.seq
         (.block 1
          (.seq
           (.reg [⟨(some 27), none, .faddr (.t 1) 2⟩,
             ⟨(some 28), none, .load none (.t 27)⟩,
             ⟨(some 29), none, .mv (.t 3)⟩,
             ⟨(some 30), none, .iaddr 3 (.t 28) (.t 29)⟩,
             ⟨(some 31), none, .load (some 3) (.t 30)⟩,
             ⟨(some 4), none, .alloc [(.str (ByteArray.mk #[])), (.int .i64 0), (.bool false)]⟩,
             ⟨none, none, .store 3 (.t 4) (.t 31)⟩])
           (.seq
            (.dreg [] [⟨(some 32), none, .faddr (.t 4) 0⟩,
              ⟨(some 33), none, .load none (.t 32)⟩,
              ⟨(some 34), none, .call 73 [(.t 33)]⟩,
              ⟨(some 35), none, .una .not (.t 34)⟩,
              ⟨(some 36), none, .mv (.t 35)⟩,
              ⟨(some 37), (some (36, false)), .faddr (.t 4) 1⟩,
              ⟨(some 38), (some (36, false)), .load none (.t 37)⟩,
              ⟨(some 39), (some (36, false)), .call 74 [(.t 38)]⟩,
              ⟨(some 40), (some (36, false)), .una .not (.t 39)⟩,
              ⟨(some 41), none, .pick (.t 36) (.c (.bool true)) (.t 40)⟩,
              ⟨(some 42), none, .mv (.t 41)⟩,
              ⟨(some 43), (some (42, false)), .mv (.t 3)⟩,
              ⟨(some 44), (some (42, false)), .bin .gtr (.t 43) (.c (.int .i64 0))⟩,
              ⟨(some 45), (some (42, false)), .mv (.t 44)⟩,
              ⟨(some 46), (some (45, true)), .faddr (.t 1) 2⟩,
              ⟨(some 47), (some (45, true)), .load none (.t 46)⟩,
              ⟨(some 48), (some (45, true)), .mv (.t 3)⟩,
              ⟨(some 49), (some (45, true)), .bin .sub (.t 48) (.c (.int .i64 1))⟩,
              ⟨(some 50), (some (45, true)), .iaddr 3 (.t 47) (.t 49)⟩,
              ⟨(some 51), (some (45, true)), .faddr (.t 50) 0⟩,
              ⟨(some 52), (some (45, true)), .load none (.t 51)⟩,
              ⟨(some 53), (some (45, true)), .faddr (.t 4) 0⟩,
              ⟨(some 54), (some (45, true)), .load none (.t 53)⟩,
              ⟨(some 55), (some (45, true)), .bin .geq (.t 52) (.t 54)⟩,
              ⟨(some 56), (some (42, false)), .pick (.t 45) (.t 55) (.c (.bool false))⟩,
              ⟨(some 57), none, .pick (.t 42) (.c (.bool true)) (.t 56)⟩])
            (.cond (.t 57)
             (.seq
              (.reg [⟨(some 2), none, .mv (.c (.int .i64 4))⟩])
              .ret)
             .skip))))
         (.reg [⟨(some 25), none, .take 3⟩,
           ⟨(some 26), none, .bin .add (.t 25) (.c (.int .i64 1))⟩,
           ⟨(some 3), none, .take 26⟩]))))))
    (.seq
     (.seq
      (.dreg [] [⟨(some 58), none, .faddr (.t 1) 1⟩,
        ⟨(some 59), none, .load none (.t 58)⟩,
        ⟨(some 60), none, .bin .eql (.t 59) (.c (.int .u8 0))⟩,
        ⟨(some 61), none, .faddr (.t 1) 2⟩,
        ⟨(some 62), none, .load none (.t 61)⟩,
        ⟨(some 63), none, .len false (.t 62)⟩,
        ⟨(some 64), none, .bin .eql (.t 63) (.c (.int .i64 0))⟩,
        ⟨(some 65), none, .beq true (.t 60) (.t 64)⟩,
        ⟨(some 66), none, .mv (.t 65)⟩,
        ⟨(some 67), (some (66, false)), .faddr (.t 1) 1⟩,
        ⟨(some 68), (some (66, false)), .load none (.t 67)⟩,
        ⟨(some 69), (some (66, false)), .bin .eql (.t 68) (.c (.int .u8 2))⟩,
        ⟨(some 70), (some (66, false)), .load (some 3) (.t 1)⟩,
        ⟨(some 71), (some (66, false)), .call 77 [(.t 70)]⟩,
        ⟨(some 72), (some (66, false)), .beq true (.t 69) (.t 71)⟩,
        ⟨(some 73), none, .pick (.t 66) (.c (.bool true)) (.t 72)⟩])
      (.cond (.t 73)
       (.seq
        (.reg [⟨(some 2), none, .mv (.c (.int .i64 4))⟩])
        .ret)
       .skip))
     (.seq
      (.reg [⟨(some 2), none, .mv (.c (.int .i64 0))⟩])
      .ret)))))
def ar72 : List AR := [.t 2]
theorem comp72 : Try.f72.body.bind (comp Try.prog 74) = some ac72 := by kernel_rfl
theorem cres72 : compRes Try.prog Try.f72.results.toList = some ar72 := by kernel_rfl
/-- bilander/bilanderref20.name -/
def ac73 : AC :=
 (.seq
  (.reg [⟨(some 2), none, .mv (.c (.bool false))⟩])
  (.seq
   (.reg [⟨(some 3), none, .mv (.t 0)⟩,
     ⟨(some 4), none, .len true (.t 3)⟩,
     ⟨(some 5), none, .bin .geq (.t 4) (.c (.int .i64 1))⟩,
     ⟨(some 6), none, .take 5⟩,
     ⟨(some 7), (some (6, true)), .mv (.t 0)⟩,
     ⟨(some 8), (some (6, true)), .len true (.t 7)⟩,
     ⟨(some 9), (some (6, true)), .bin .leq (.t 8) (.c (.int .i64 32))⟩,
     ⟨(some 10), none, .pick (.t 6) (.t 9) (.c (.bool false))⟩,
     ⟨(some 2), none, .take 10⟩])
   .ret))
def ar73 : List AR := [.t 2]
theorem comp73 : Try.f73.body.bind (comp Try.prog 11) = some ac73 := by kernel_rfl
theorem cres73 : compRes Try.prog Try.f73.results.toList = some ar73 := by kernel_rfl
/-- bilander/bilanderref20.time -/
def ac74 : AC :=
 (.seq
  (.reg [⟨(some 2), none, .mv (.c (.bool false))⟩])
  (.seq
   (.reg [⟨(some 3), none, .mv (.t 0)⟩,
     ⟨(some 4), none, .bin .geq (.t 3) (.c (.int .i64 0))⟩,
     ⟨(some 5), none, .take 4⟩,
     ⟨(some 6), (some (5, true)), .mv (.t 0)⟩,
     ⟨(some 7), (some (5, true)), .bin .leq (.t 6) (.c (.int .i64 1099511627776))⟩,
     ⟨(some 8), none, .pick (.t 5) (.t 7) (.c (.bool false))⟩,
     ⟨(some 2), none, .take 8⟩])
   .ret))
def ar74 : List AR := [.t 2]
theorem comp74 : Try.f74.body.bind (comp Try.prog 9) = some ac74 := by kernel_rfl
theorem cres74 : compRes Try.prog Try.f74.results.toList = some ar74 := by kernel_rfl
/-- bilander/bilanderref20.with -/
def ac75 : AC :=
 (.seq
  (.reg [⟨(some 3), none, .box 3 (.t 0)⟩,
    ⟨(some 5), none, .box 3 (.t 2)⟩,
    ⟨(some 6), none, .alloc [(.int .i64 0), (.int .u8 0), .nils]⟩])
  (.seq
   (.reg [⟨(some 7), none, .mv (.c .nils)⟩])
   (.seq
    (.reg [⟨(some 8), none, .take 7⟩,
      ⟨(some 9), none, .faddr (.t 3) 2⟩,
      ⟨(some 10), none, .load none (.t 9)⟩,
      ⟨(some 11), none, .app 3 32 8 (.t 10)⟩,
      ⟨(some 12), none, .faddr (.t 3) 2⟩,
      ⟨none, none, .storeO (.t 12) 11⟩])
    (.seq
     (.reg [⟨(some 13), none, .faddr (.t 3) 2⟩,
       ⟨(some 14), none, .load none (.t 13)⟩,
       ⟨(some 15), none, .mv (.t 1)⟩,
       ⟨(some 16), none, .load (some 3) (.t 5)⟩,
       ⟨(some 17), none, .iaddr 3 (.t 14) (.t 15)⟩,
       ⟨none, none, .store 3 (.t 17) (.t 16)⟩])
     (.seq
      (.reg [⟨(some 18), none, .load (some 3) (.t 3)⟩,
        ⟨none, none, .store 3 (.t 6) (.t 18)⟩])
      .ret)))))
def ar75 : List AR := [.c 6 (some 3)]
theorem comp75 : Try.f75.body.bind (comp Try.prog 19) = some ac75 := by kernel_rfl
theorem cres75 : compRes Try.prog Try.f75.results.toList = some ar75 := by kernel_rfl
/-- bilander/bilanderref20.turn -/
def ac76 : AC :=
 (.seq
  (.reg [⟨(some 2), none, .box 3 (.t 0)⟩,
    ⟨(some 4), none, .alloc [(.int .i64 0), (.int .u8 0), .nils]⟩])
  (.seq
   (.reg [⟨(some 8), none, .faddr (.t 2) 0⟩,
     ⟨(some 9), none, .load none (.t 8)⟩,
     ⟨(some 10), none, .bin .add (.t 9) (.c (.int .i64 1))⟩,
     ⟨(some 11), none, .build [(.int .i64 0), (.int .u8 0), .nils] [(0, 1, (.t 10))]⟩,
     ⟨(some 5), none, .alloc [(.int .i64 0), (.int .u8 0), .nils]⟩,
     ⟨none, none, .store 3 (.t 5) (.t 11)⟩])
   (.seq
    (.seq
     (.reg [⟨(some 6), none, .mv (.c (.int .i64 0))⟩])
     (.block 0
      (.loop
       (.seq
        (.seq
         (.reg [⟨(some 12), none, .mv (.t 6)⟩,
           ⟨(some 13), none, .mv (.t 1)⟩,
           ⟨(some 14), none, .len false (.t 13)⟩,
           ⟨(some 15), none, .bin .lss (.t 12) (.t 14)⟩])
         (.cond (.t 15)
          .skip
          (.exit 0)))
        (.seq
         (.block 1
          (.seq
           (.reg [⟨(some 18), none, .mv (.t 1)⟩,
             ⟨(some 19), none, .mv (.t 6)⟩,
             ⟨(some 20), none, .iaddr 3 (.t 18) (.t 19)⟩,
             ⟨(some 21), none, .load (some 3) (.t 20)⟩,
             ⟨(some 7), none, .alloc [(.str (ByteArray.mk #[])), (.int .i64 0), (.bool false)]⟩,
             ⟨none, none, .store 3 (.t 7) (.t 21)⟩])
           (.seq
            (.reg [⟨(some 22), none, .faddr (.t 7) 2⟩,
              ⟨none, none, .store 1 (.t 22) (.c (.bool false))⟩])
            (.seq
             (.reg [⟨(some 23), none, .faddr (.t 5) 2⟩,
               ⟨(some 24), none, .takeLoad (.t 23)⟩,
               ⟨(some 25), none, .load (some 3) (.t 7)⟩,
               ⟨(some 26), none, .bsl 3 1 [(.str (ByteArray.mk #[])), (.int .i64 0), (.bool false)] [(0, (.t 25))]⟩,
               ⟨(some 27), none, .app 3 32 24 (.t 26)⟩,
               ⟨(some 28), none, .faddr (.t 5) 2⟩,
               ⟨none, none, .storeO (.t 28) 27⟩])
             (.reg [⟨(some 29), none, .faddr (.t 5) 1⟩,
               ⟨none, none, .store 1 (.t 29) (.c (.int .u8 1))⟩])))))
         (.reg [⟨(some 16), none, .take 6⟩,
           ⟨(some 17), none, .bin .add (.t 16) (.c (.int .i64 1))⟩,
           ⟨(some 6), none, .take 17⟩]))))))
    (.seq
     (.reg [⟨(some 30), none, .load (some 3) (.t 5)⟩,
       ⟨none, none, .store 3 (.t 4) (.t 30)⟩])
     .ret))))
def ar76 : List AR := [.c 4 (some 3)]
theorem comp76 : Try.f76.body.bind (comp Try.prog 31) = some ac76 := by kernel_rfl
theorem cres76 : compRes Try.prog Try.f76.results.toList = some ar76 := by kernel_rfl
/-- bilander/bilanderref20.synced -/
def ac77 : AC :=
 (.seq
  (.reg [⟨(some 1), none, .box 3 (.t 0)⟩,
    ⟨(some 2), none, .mv (.c (.bool false))⟩])
  (.seq
   (.seq
    (.reg [⟨(some 3), none, .mv (.c (.int .i64 0))⟩])
    (.block 0
     (.loop
      (.seq
       (.seq
        (.reg [⟨(some 4), none, .mv (.t 3)⟩,
          ⟨(some 5), none, .faddr (.t 1) 2⟩,
          ⟨(some 6), none, .load none (.t 5)⟩,
          ⟨(some 7), none, .len false (.t 6)⟩,
          ⟨(some 8), none, .bin .lss (.t 4) (.t 7)⟩])
        (.cond (.t 8)
         .skip
         (.exit 0)))
       (.seq
        (.block 1
         (.seq
          (.reg [⟨(some 11), none, .faddr (.t 1) 2⟩,
            ⟨(some 12), none, .load none (.t 11)⟩,
            ⟨(some 13), none, .mv (.t 3)⟩,
            ⟨(some 14), none, .iaddr 3 (.t 12) (.t 13)⟩,
            ⟨(some 15), none, .faddr (.t 14) 2⟩,
            ⟨(some 16), none, .load none (.t 15)⟩,
            ⟨(some 17), none, .una .not (.t 16)⟩])
          (.cond (.t 17)
           (.seq
            (.reg [⟨(some 2), none, .mv (.c (.bool false))⟩])
            .ret)
           .skip)))
        (.reg [⟨(some 9), none, .take 3⟩,
          ⟨(some 10), none, .bin .add (.t 9) (.c (.int .i64 1))⟩,
          ⟨(some 3), none, .take 10⟩]))))))
   (.seq
    (.reg [⟨(some 18), none, .faddr (.t 1) 2⟩,
      ⟨(some 19), none, .load none (.t 18)⟩,
      ⟨(some 20), none, .len false (.t 19)⟩,
      ⟨(some 21), none, .bin .gtr (.t 20) (.c (.int .i64 0))⟩,
      ⟨(some 2), none, .take 21⟩])
    .ret)))
def ar77 : List AR := [.t 2]
theorem comp77 : Try.f77.body.bind (comp Try.prog 22) = some ac77 := by kernel_rfl
theorem cres77 : compRes Try.prog Try.f77.results.toList = some ar77 := by kernel_rfl
/-- bilander/bilanderref20.Names -/
def ac78 : AC :=
 (.seq
  (.reg [⟨(some 1), none, .box 3 (.t 0)⟩,
    ⟨(some 2), none, .mv (.c .nils)⟩])
  (.seq
   (.reg [⟨(some 3), none, .mv (.c .nils)⟩])
   (.seq
    (.seq
     (.reg [⟨(some 4), none, .mv (.c (.int .i64 0))⟩])
     (.block 0
      (.loop
       (.seq
        (.seq
         (.reg [⟨(some 5), none, .mv (.t 4)⟩,
           ⟨(some 6), none, .faddr (.t 1) 2⟩,
           ⟨(some 7), none, .load none (.t 6)⟩,
           ⟨(some 8), none, .len false (.t 7)⟩,
           ⟨(some 9), none, .bin .lss (.t 5) (.t 8)⟩])
         (.cond (.t 9)
          .skip
          (.exit 0)))
        (.seq
         (.block 1
          (.reg [⟨(some 12), none, .take 3⟩,
            ⟨(some 13), none, .faddr (.t 1) 2⟩,
            ⟨(some 14), none, .load none (.t 13)⟩,
            ⟨(some 15), none, .mv (.t 4)⟩,
            ⟨(some 16), none, .iaddr 3 (.t 14) (.t 15)⟩,
            ⟨(some 17), none, .faddr (.t 16) 0⟩,
            ⟨(some 18), none, .load none (.t 17)⟩,
            ⟨(some 19), none, .bsl 1 1 [(.str (ByteArray.mk #[]))] [(0, (.t 18))]⟩,
            ⟨(some 20), none, .app 1 16 12 (.t 19)⟩,
            ⟨(some 3), none, .take 20⟩]))
         (.reg [⟨(some 10), none, .take 4⟩,
           ⟨(some 11), none, .bin .add (.t 10) (.c (.int .i64 1))⟩,
           ⟨(some 4), none, .take 11⟩]))))))
    (.seq
     (.reg [⟨(some 21), none, .take 3⟩,
       ⟨(some 2), none, .take 21⟩])
     .ret))))
def ar78 : List AR := [.t 2]
theorem comp78 : Try.f78.body.bind (comp Try.prog 22) = some ac78 := by kernel_rfl
theorem cres78 : compRes Try.prog Try.f78.results.toList = some ar78 := by kernel_rfl
/-- bilander/group.place$1 -/
def ac79 : AC :=
 (.seq
  (.reg [⟨(some 2), none, .box 3 (.t 0)⟩,
    ⟨(some 3), none, .mv (.c (.bool false))⟩])
  (.seq
   (.reg [⟨(some 4), none, .faddr (.t 2) 0⟩,
     ⟨(some 5), none, .load none (.t 4)⟩,
     ⟨(some 6), none, .load none (.t 1)⟩,
     ⟨(some 7), none, .bin .eql (.t 5) (.t 6)⟩,
     ⟨(some 3), none, .take 7⟩])
   .ret))
def ar79 : List AR := [.t 3]
theorem comp79 : Try.f79.body.bind (comp Try.prog 8) = some ac79 := by kernel_rfl
theorem cres79 : compRes Try.prog Try.f79.results.toList = some ar79 := by kernel_rfl
/-- slices.ContainsFunc[[]bilander/group.Member,bilander/group.Member] -/
def ac82 : AC :=
 (.seq
  (.reg [⟨(some 4), none, .mv (.c (.bool false))⟩])
  (.seq
   (.reg [⟨(some 5), none, .mv (.t 0)⟩,
     ⟨(some 6), none, .mv (.t 1)⟩,
     ⟨(some 7), none, .call 54 [(.t 5), (.t 6)]⟩,
     ⟨(some 8), none, .bin .geq (.t 7) (.c (.int .i64 0))⟩,
     ⟨(some 4), none, .take 8⟩])
   .ret))
def ar82 : List AR := [.t 4]
theorem comp82 : Try.f82.body.bind (comp Try.prog 9) = some ac82 := by kernel_rfl
theorem cres82 : compRes Try.prog Try.f82.results.toList = some ar82 := by kernel_rfl
/-- bilander/group.phase$1 -/
def ac83 : AC :=
 (.seq
  (.reg [⟨(some 1), none, .box 3 (.t 0)⟩,
    ⟨(some 2), none, .mv (.c (.bool false))⟩])
  (.seq
   (.reg [⟨(some 3), none, .faddr (.t 1) 2⟩,
     ⟨(some 4), none, .load none (.t 3)⟩,
     ⟨(some 5), none, .una .not (.t 4)⟩,
     ⟨(some 2), none, .take 5⟩])
   .ret))
def ar83 : List AR := [.t 2]
theorem comp83 : Try.f83.body.bind (comp Try.prog 6) = some ac83 := by kernel_rfl
theorem cres83 : compRes Try.prog Try.f83.results.toList = some ar83 := by kernel_rfl
end Go.Proofs.Ytmfkliabjfngmaa
