import Derived.Test.YtmfkliabjfngmaaMHgL
import Derived.KernelRfl
import Derived.Test.YtmfkliabjfngmaaAvL3
import Derived.Test.YtmfkliabjfngmaaProg

set_option linter.unusedVariables false
set_option linter.unusedSimpArgs false

/- Group: awake. -/


set_option linter.unusedSimpArgs false
set_option linter.unusedVariables false
set_option maxHeartbeats 8000000
set_option maxRecDepth 100000
namespace Go.Proofs.Ytmfkliabjfngmaa

open Go.Av

def sA : ByteArray := ⟨#[97]⟩
def sB : ByteArray := ⟨#[98]⟩
def wG1 : Grp := ⟨1, 1, [⟨sA, 1, false⟩]⟩
def wG2 : Grp := ⟨2, 1, [⟨sA, 1, false⟩, ⟨sB, 1, false⟩]⟩
def wG3 : Grp := ⟨2, 1, [⟨sA, 1, true⟩, ⟨sB, 1, false⟩]⟩
def wG4 : Grp := ⟨2, 2, [⟨sA, 1, true⟩, ⟨sB, 4, true⟩]⟩
def wG5 : Grp := ⟨3, 1, [⟨sB, 4, false⟩]⟩
theorem w1 : joinG grp0 sA 1 = (wG1, 0) := by kernel_rfl
theorem w2 : joinG wG1 sB 1 = (wG2, 0) := by kernel_rfl
theorem w3 : syncG wG2 sA 2 3 1 = (wG3, [0, 1], 0) := by kernel_rfl
theorem w4 : syncG wG3 sB 2 3 4 = (wG4, [2], 0) := by kernel_rfl
theorem w5 : beatG false wG4 sA 1 1 = (grp0, 19) := by kernel_rfl
theorem w6 : leaveG wG4 sA = (wG5, 0) := by kernel_rfl
theorem w7 : tickG wG4 9 6 = wG5 := by kernel_rfl
theorem w8 : findG wG5 sB = (⟨sB, 4, false⟩, true) := by kernel_rfl
theorem w9 : chkG wG5 = 0 := by kernel_rfl
theorem w10 : sameG wG5 wG4 = false := by simp [sameG, wG5, wG4]
theorem awake_pure : Pure Try.prog 24 [] (.sv (.bool true)) := by
  have e29 := RgK_29n sA 1
  have e29b := RgK_29 wG1 sB 1
  have e30 := RgK_30 wG2 sA 2 3 1
  have e30b := RgK_30 wG3 sB 2 3 4
  have e31 := RgK_31 wG4 sA 1 1
  have e32 := RgK_32 wG4 sA
  have e33 := RgK_33 wG4 9 6
  have e36 := RgK_36 wG5 sB
  have e35 := RgK_35 wG5
  have e34 := RgK_34 wG5
  have e43 := RgK_43 wG5 wG5
  have e43b := RgK_43 wG5 wG4
  rw [w1] at e29
  rw [w2] at e29b
  rw [w3] at e30
  rw [w4] at e30b
  rw [w5] at e31
  rw [w6] at e32
  rw [w7] at e33
  rw [w8] at e36
  rw [w9] at e34
  rw [sameG_self] at e43
  rw [w10] at e43b
  have hR := RgK_ok
  have hnf : RgK.nofz = false := rfl
  generalize RgK = R at *
  refine pure_go hR Try.func24 Try.ntmps24 comp24 cres24 (by decide) (by simp) ?_
  have l1 : wG1.ms.length ≤ 999 := by decide
  have l2 : wG2.ms.length ≤ 1000 := by decide
  have l3 : wG3.ms.length ≤ 1000 := by decide
  have l4 : wG4.ms.length ≤ 1000 := by decide
  have l5 : wG5.ms.length ≤ 1000 := by decide
  have l6 : wG5.ms.length < 4611686018427387904 := by decide
  have p3 : wG3.ph = 1 := rfl
  have p4 : wG4.ph = 2 := rfl
  have p5 : wG5.ph = 1 := rfl
  have p6 : wG5.ge = 3 := rfl
  have n5 : (namesP wG5.ms).length = 1 := by decide
  have i3 : (IL [0, 1]).length = 2 := rfl
  have i4 : (IL [2]).length = 1 := rfl
  have f0 : grp0.ms.length ≤ 999 := by decide
  clear hR
  simp only [gs] at e29 e29b e30 e30b e31 e32 e33 e36 e35 e34 e43 e43b
  simp only [p3, p4, p5, p6] at e29 e29b e30 e30b e31 e32 e33 e36 e35 e34 e43 e43b
  generalize wG1.ms = L1 at *
  generalize wG1.ge = A1 at *
  generalize wG1.ph = B1 at *
  generalize wG2.ms = L2 at *
  generalize wG2.ge = A2 at *
  generalize wG2.ph = B2 at *
  generalize wG3.ms = L3 at *
  generalize wG3.ge = A3 at *
  generalize wG4.ms = L4 at *
  generalize wG4.ge = A4 at *
  generalize wG5.ms = L5 at *
  generalize IL [0, 1] = I3 at *
  generalize IL [2] = I4 at *
  simp only [grp0, ML_nil, sA, sB] at e29 e29b e30 e30b e31 e32 e33 e36 e35 e34 e43 e43b f0
  simp [ac24, ar24, e29, e29b, e30, e30b, e31, e32, e33, e36, e35, e34, e43, e43b, hnf, l1, l2, l3, l4, l5, l6, n5, i3, i4]
end Go.Proofs.Ytmfkliabjfngmaa

set_option maxRecDepth 100000
namespace Go.Proofs.Ytmfkliabjfngmaa

open Go.Av
/-- bilander/bilanderlaw20.GroupCalls -/
def ac6 : AC :=
 (.seq
  (.reg [⟨(some 2), none, .box 3 (.t 0)⟩,
    ⟨(some 3), none, .box 5 (.t 1)⟩,
    ⟨(some 4), none, .mv (.c (.bool false))⟩])
  (.seq
   (.seq
    (.reg [⟨(some 9), none, .load (some 3) (.t 2)⟩,
      ⟨(some 10), none, .call 23 [(.t 9)]⟩,
      ⟨(some 11), none, .una .not (.t 10)⟩,
      ⟨(some 12), none, .take 11⟩,
      ⟨(some 13), (some (12, false)), .faddr (.t 3) 1⟩,
      ⟨(some 14), (some (12, false)), .load none (.t 13)⟩,
      ⟨(some 15), (some (12, false)), .len true (.t 14)⟩,
      ⟨(some 16), (some (12, false)), .bin .gtr (.t 15) (.c (.int .i64 60))⟩,
      ⟨(some 17), none, .pick (.t 12) (.c (.bool true)) (.t 16)⟩])
    (.cond (.t 17)
     (.seq
      (.reg [⟨(some 18), none, .call 24 []⟩,
        ⟨(some 4), none, .take 18⟩])
      .ret)
     .skip))
   (.seq
    (.reg [⟨(some 19), none, .load (some 3) (.t 2)⟩,
      ⟨(some 20), none, .call 25 [(.t 19)]⟩,
      ⟨(some 5), none, .alloc [(.int .i64 0), (.int .u8 0), .nils]⟩,
      ⟨none, none, .store 3 (.t 5) (.t 20)⟩])
    (.seq
     (.reg [⟨(some 22), none, .load (some 3) (.t 5)⟩,
       ⟨(some 23), none, .load (some 3) (.t 2)⟩,
       ⟨(some 24), none, .load (some 5) (.t 3)⟩,
       ⟨(some 25), none, .call 26 [(.t 22), (.t 23), (.t 24)]⟩,
       ⟨(some 21), none, .take 25⟩,
       ⟨(some 26), none, .extS 21 0⟩,
       ⟨(some 27), none, .extS 21 1⟩,
       ⟨(some 28), none, .ext 21 2⟩,
       ⟨(some 6), none, .alloc [(.int .i64 0), (.int .u8 0), .nils]⟩,
       ⟨(some 7), none, .alloc [(.int .i64 0), (.int .u8 0), .nils]⟩,
       ⟨none, none, .store 3 (.t 6) (.t 26)⟩,
       ⟨none, none, .store 3 (.t 7) (.t 27)⟩,
       ⟨(some 8), none, .take 28⟩])
     (.seq
      (.dreg [] [⟨(some 29), none, .mv (.t 8)⟩,
        ⟨(some 30), none, .mv (.t 29)⟩,
        ⟨(some 31), (some (30, true)), .load (some 3) (.t 5)⟩,
        ⟨(some 32), (some (30, true)), .call 28 [(.t 31)]⟩,
        ⟨(some 33), (some (30, true)), .load (some 3) (.t 2)⟩,
        ⟨(some 34), (some (30, true)), .call 27 [(.t 32), (.t 33)]⟩,
        ⟨(some 35), none, .pick (.t 30) (.t 34) (.c (.bool false))⟩,
        ⟨(some 36), none, .mv (.t 35)⟩,
        ⟨(some 37), (some (36, true)), .call 24 []⟩,
        ⟨(some 38), none, .pick (.t 36) (.t 37) (.c (.bool false))⟩,
        ⟨(some 4), none, .take 38⟩])
      .ret)))))
def ar6 : List AR := [.t 4]
theorem comp6 : Try.f6.body.bind (comp Try.prog 39) = some ac6 := by kernel_rfl
theorem cres6 : compRes Try.prog Try.f6.results.toList = some ar6 := by kernel_rfl
/-- bilander/bilanderlaw20.GroupMay -/
def ac7 : AC :=
 (.seq
  (.reg [⟨(some 2), none, .mv (.c (.bool false))⟩])
  (.seq
   (.seq
    (.reg [⟨(some 9), none, .mv (.t 0)⟩,
      ⟨(some 10), none, .len false (.t 9)⟩,
      ⟨(some 11), none, .bin .gtr (.t 10) (.c (.int .i64 40))⟩])
    (.cond (.t 11)
     (.seq
      (.reg [⟨(some 12), none, .call 24 []⟩,
        ⟨(some 2), none, .take 12⟩])
      .ret)
     .skip))
   (.seq
    (.reg [⟨(some 3), none, .alloc [(.int .i64 0), (.int .u8 0), .nils]⟩])
    (.seq
     (.seq
      (.reg [⟨(some 4), none, .mv (.c (.int .i64 0))⟩])
      (.block 0
       (.loop
        (.seq
         (.seq
          (.reg [⟨(some 13), none, .mv (.t 4)⟩,
            ⟨(some 14), none, .mv (.t 0)⟩,
            ⟨(some 15), none, .len false (.t 14)⟩,
            ⟨(some 16), none, .bin .lss (.t 13) (.t 15)⟩])
          (.cond (.t 16)
           .skip
           (.exit 0)))
         (.seq
          (.block 1
           (.seq
            (.seq
             (.reg [⟨(some 19), none, .mv (.t 0)⟩,
               ⟨(some 20), none, .mv (.t 4)⟩,
               ⟨(some 21), none, .iaddr 5 (.t 19) (.t 20)⟩,
               ⟨(some 22), none, .faddr (.t 21) 1⟩,
               ⟨(some 23), none, .load none (.t 22)⟩,
               ⟨(some 24), none, .len true (.t 23)⟩,
               ⟨(some 25), none, .bin .gtr (.t 24) (.c (.int .i64 60))⟩])
             (.cond (.t 25)
              (.seq
               (.reg [⟨(some 26), none, .call 24 []⟩,
                 ⟨(some 2), none, .take 26⟩])
               .ret)
              .skip))
            (.seq
             (.reg [⟨(some 27), none, .load (some 3) (.t 3)⟩,
               ⟨(some 5), none, .alloc [(.int .i64 0), (.int .u8 0), .nils]⟩,
               ⟨none, none, .store 3 (.t 5) (.t 27)⟩,
               ⟨(some 6), none, .mv (.c (.int .i64 0))⟩])
             (.seq
              (.seq
               (.reg [⟨(some 28), none, .mv (.t 0)⟩,
                 ⟨(some 29), none, .mv (.t 4)⟩,
                 ⟨(some 30), none, .iaddr 5 (.t 28) (.t 29)⟩,
                 ⟨(some 31), none, .faddr (.t 30) 0⟩,
                 ⟨(some 32), none, .load none (.t 31)⟩,
                 ⟨(some 33), none, .bin .rem (.t 32) (.c (.int .u8 5))⟩])
               (.block 2
                (.seq
                 (.reg [⟨(some 47), none, .bin .eql (.t 33) (.c (.int .u8 0))⟩,
                   ⟨(some 46), none, .take 47⟩])
                 (.cond (.t 46)
                  (.dreg [] [⟨(some 49), none, .load (some 3) (.t 3)⟩,
                    ⟨(some 50), none, .mv (.t 0)⟩,
                    ⟨(some 51), none, .mv (.t 4)⟩,
                    ⟨(some 52), none, .iaddr 5 (.t 50) (.t 51)⟩,
                    ⟨(some 53), none, .faddr (.t 52) 1⟩,
                    ⟨(some 54), none, .load none (.t 53)⟩,
                    ⟨(some 55), none, .mv (.t 0)⟩,
                    ⟨(some 56), none, .mv (.t 4)⟩,
                    ⟨(some 57), none, .iaddr 5 (.t 55) (.t 56)⟩,
                    ⟨(some 58), none, .faddr (.t 57) 4⟩,
                    ⟨(some 59), none, .load none (.t 58)⟩,
                    ⟨(some 60), none, .call 29 [(.t 49), (.t 54), (.t 59)]⟩,
                    ⟨(some 48), none, .mv (.t 60)⟩,
                    ⟨(some 61), none, .extS 48 0⟩,
                    ⟨(some 62), none, .extS 48 1⟩,
                    ⟨none, none, .store 3 (.t 5) (.t 61)⟩,
                    ⟨(some 6), none, .take 62⟩])
                  (.seq
                   (.reg [⟨(some 64), none, .bin .eql (.t 33) (.c (.int .u8 1))⟩,
                     ⟨(some 63), none, .take 64⟩])
                   (.cond (.t 63)
                    (.dreg [] [⟨(some 66), none, .load (some 3) (.t 3)⟩,
                      ⟨(some 67), none, .mv (.t 0)⟩,
                      ⟨(some 68), none, .mv (.t 4)⟩,
                      ⟨(some 69), none, .iaddr 5 (.t 67) (.t 68)⟩,
                      ⟨(some 70), none, .faddr (.t 69) 1⟩,
                      ⟨(some 71), none, .load none (.t 70)⟩,
                      ⟨(some 72), none, .faddr (.t 3) 0⟩,
                      ⟨(some 73), none, .load none (.t 72)⟩,
                      ⟨(some 74), none, .mv (.t 0)⟩,
                      ⟨(some 75), none, .mv (.t 4)⟩,
                      ⟨(some 76), none, .iaddr 5 (.t 74) (.t 75)⟩,
                      ⟨(some 77), none, .faddr (.t 76) 3⟩,
                      ⟨(some 78), none, .load none (.t 77)⟩,
                      ⟨(some 79), none, .mv (.t 0)⟩,
                      ⟨(some 80), none, .mv (.t 4)⟩,
                      ⟨(some 81), none, .iaddr 5 (.t 79) (.t 80)⟩,
                      ⟨(some 82), none, .faddr (.t 81) 4⟩,
                      ⟨(some 83), none, .load none (.t 82)⟩,
                      ⟨(some 84), none, .call 30 [(.t 66), (.t 71), (.t 73), (.t 78), (.t 83)]⟩,
                      ⟨(some 65), none, .mv (.t 84)⟩,
                      ⟨(some 85), none, .extS 65 0⟩,
                      ⟨(some 86), none, .extS 65 1⟩,
                      ⟨(some 87), none, .extS 65 2⟩,
                      ⟨none, none, .store 3 (.t 5) (.t 85)⟩,
                      ⟨(some 6), none, .take 87⟩])
                    (.seq
                     (.reg [⟨(some 89), none, .bin .eql (.t 33) (.c (.int .u8 2))⟩,
                       ⟨(some 88), none, .take 89⟩])
                     (.cond (.t 88)
                      (.dreg [] [⟨(some 91), none, .load (some 3) (.t 3)⟩,
                        ⟨(some 92), none, .mv (.t 0)⟩,
                        ⟨(some 93), none, .mv (.t 4)⟩,
                        ⟨(some 94), none, .iaddr 5 (.t 92) (.t 93)⟩,
                        ⟨(some 95), none, .faddr (.t 94) 1⟩,
                        ⟨(some 96), none, .load none (.t 95)⟩,
                        ⟨(some 97), none, .mv (.t 0)⟩,
                        ⟨(some 98), none, .mv (.t 4)⟩,
                        ⟨(some 99), none, .iaddr 5 (.t 97) (.t 98)⟩,
                        ⟨(some 100), none, .faddr (.t 99) 2⟩,
                        ⟨(some 101), none, .load none (.t 100)⟩,
                        ⟨(some 102), none, .mv (.t 0)⟩,
                        ⟨(some 103), none, .mv (.t 4)⟩,
                        ⟨(some 104), none, .iaddr 5 (.t 102) (.t 103)⟩,
                        ⟨(some 105), none, .faddr (.t 104) 4⟩,
                        ⟨(some 106), none, .load none (.t 105)⟩,
                        ⟨(some 107), none, .call 31 [(.t 91), (.t 96), (.t 101), (.t 106)]⟩,
                        ⟨(some 90), none, .mv (.t 107)⟩,
                        ⟨(some 108), none, .extS 90 0⟩,
                        ⟨(some 109), none, .extS 90 1⟩,
                        ⟨none, none, .store 3 (.t 5) (.t 108)⟩,
                        ⟨(some 6), none, .take 109⟩])
                      (.seq
                       (.reg [⟨(some 111), none, .bin .eql (.t 33) (.c (.int .u8 3))⟩,
                         ⟨(some 110), none, .take 111⟩])
                       (.cond (.t 110)
                        (.dreg [] [⟨(some 113), none, .load (some 3) (.t 3)⟩,
                          ⟨(some 114), none, .mv (.t 0)⟩,
                          ⟨(some 115), none, .mv (.t 4)⟩,
                          ⟨(some 116), none, .iaddr 5 (.t 114) (.t 115)⟩,
                          ⟨(some 117), none, .faddr (.t 116) 1⟩,
                          ⟨(some 118), none, .load none (.t 117)⟩,
                          ⟨(some 119), none, .call 32 [(.t 113), (.t 118)]⟩,
                          ⟨(some 112), none, .mv (.t 119)⟩,
                          ⟨(some 120), none, .extS 112 0⟩,
                          ⟨(some 121), none, .extS 112 1⟩,
                          ⟨none, none, .store 3 (.t 5) (.t 120)⟩,
                          ⟨(some 6), none, .take 121⟩])
                        (.dreg [] [⟨(some 34), none, .load (some 3) (.t 3)⟩,
                          ⟨(some 35), none, .mv (.t 0)⟩,
                          ⟨(some 36), none, .mv (.t 4)⟩,
                          ⟨(some 37), none, .iaddr 5 (.t 35) (.t 36)⟩,
                          ⟨(some 38), none, .faddr (.t 37) 4⟩,
                          ⟨(some 39), none, .load none (.t 38)⟩,
                          ⟨(some 40), none, .mv (.t 0)⟩,
                          ⟨(some 41), none, .mv (.t 4)⟩,
                          ⟨(some 42), none, .iaddr 5 (.t 40) (.t 41)⟩,
                          ⟨(some 43), none, .faddr (.t 42) 2⟩,
                          ⟨(some 44), none, .load none (.t 43)⟩,
                          ⟨(some 45), none, .call 33 [(.t 34), (.t 39), (.t 44)]⟩,
                          ⟨none, none, .store 3 (.t 5) (.t 45)⟩])))))))))))
              (.seq
               (.seq
                (.reg [⟨(some 122), none, .mv (.t 6)⟩,
                  ⟨(some 123), none, .bin .neq (.t 122) (.c (.int .i64 0))⟩])
                (.cond (.t 123)
                 (.exit 1)
                 .skip))
               (.seq
                (.reg [⟨(some 124), none, .faddr (.t 5) 2⟩,
                  ⟨(some 125), none, .load none (.t 124)⟩,
                  ⟨(some 126), none, .len false (.t 125)⟩,
                  ⟨(some 127), none, .faddr (.t 3) 2⟩,
                  ⟨(some 128), none, .load none (.t 127)⟩,
                  ⟨(some 129), none, .len false (.t 128)⟩,
                  ⟨(some 130), none, .bin .eql (.t 126) (.t 129)⟩,
                  ⟨(some 7), none, .take 130⟩])
                (.seq
                 (.seq
                  (.reg [⟨(some 131), none, .load (some 3) (.t 5)⟩,
                    ⟨(some 132), none, .call 34 [(.t 131)]⟩,
                    ⟨(some 133), none, .bin .neq (.t 132) (.c (.int .i64 0))⟩,
                    ⟨(some 134), none, .take 133⟩,
                    ⟨(some 135), (some (134, false)), .faddr (.t 5) 0⟩,
                    ⟨(some 136), (some (134, false)), .load none (.t 135)⟩,
                    ⟨(some 137), (some (134, false)), .faddr (.t 3) 0⟩,
                    ⟨(some 138), (some (134, false)), .load none (.t 137)⟩,
                    ⟨(some 139), (some (134, false)), .bin .lss (.t 136) (.t 138)⟩,
                    ⟨(some 140), none, .pick (.t 134) (.c (.bool true)) (.t 139)⟩,
                    ⟨(some 141), none, .take 140⟩,
                    ⟨(some 142), (some (141, false)), .mv (.t 7)⟩,
                    ⟨(some 143), (some (141, false)), .faddr (.t 5) 0⟩,
                    ⟨(some 144), (some (141, false)), .load none (.t 143)⟩,
                    ⟨(some 145), (some (141, false)), .faddr (.t 3) 0⟩,
                    ⟨(some 146), (some (141, false)), .load none (.t 145)⟩,
                    ⟨(some 147), (some (141, false)), .bin .eql (.t 144) (.t 146)⟩,
                    ⟨(some 148), (some (141, false)), .beq true (.t 142) (.t 147)⟩,
                    ⟨(some 149), none, .pick (.t 141) (.c (.bool true)) (.t 148)⟩])
                  (.cond (.t 149)
                   (.seq
                    (.reg [⟨(some 2), none, .mv (.c (.bool false))⟩])
                    .ret)
                   .skip))
                 (.seq
                  (.seq
                   (.reg [⟨(some 8), none, .mv (.c (.int .i64 0))⟩])
                   (.block 3
                    (.loop
                     (.seq
                      (.seq
                       (.reg [⟨(some 150), none, .mv (.t 8)⟩,
                         ⟨(some 151), none, .faddr (.t 5) 2⟩,
                         ⟨(some 152), none, .load none (.t 151)⟩,
                         ⟨(some 153), none, .len false (.t 152)⟩,
                         ⟨(some 154), none, .bin .lss (.t 150) (.t 153)⟩,
                         ⟨(some 155), none, .take 154⟩,
                         ⟨(some 156), (some (155, true)), .mv (.t 7)⟩,
                         ⟨(some 157), (some (155, true)), .una .not (.t 156)⟩,
                         ⟨(some 158), none, .pick (.t 155) (.t 157) (.c (.bool false))⟩])
                       (.cond (.t 158)
                        .skip
                        (.exit 3)))
                      (.seq
                       (.block 4
                        (.seq
                         (.reg [⟨(some 161), none, .faddr (.t 5) 2⟩,
                           ⟨(some 162), none, .load none (.t 161)⟩,
                           ⟨(some 163), none, .mv (.t 8)⟩,
                           ⟨(some 164), none, .iaddr 3 (.t 162) (.t 163)⟩,
                           ⟨(some 165), none, .faddr (.t 164) 2⟩,
                           ⟨(some 166), none, .load none (.t 165)⟩])
                         (.cond (.t 166)
                          (.seq
                           (.reg [⟨(some 2), none, .mv (.c (.bool false))⟩])
                           .ret)
                          .skip)))
                       (.reg [⟨(some 159), none, .take 8⟩,
                         ⟨(some 160), none, .bin .add (.t 159) (.c (.int .i64 1))⟩,
                         ⟨(some 8), none, .take 160⟩]))))))
                  (.reg [⟨(some 167), none, .load (some 3) (.t 5)⟩,
                    ⟨none, none, .store 3 (.t 3) (.t 167)⟩])))))))))
          (.reg [⟨(some 17), none, .take 4⟩,
            ⟨(some 18), none, .bin .add (.t 17) (.c (.int .i64 1))⟩,
            ⟨(some 4), none, .take 18⟩]))))))
     (.seq
      (.reg [⟨(some 168), none, .call 24 []⟩,
        ⟨(some 2), none, .take 168⟩])
      .ret)))))
def ar7 : List AR := [.t 2]
theorem comp7 : Try.f7.body.bind (comp Try.prog 169) = some ac7 := by kernel_rfl
theorem cres7 : compRes Try.prog Try.f7.results.toList = some ar7 := by kernel_rfl
/-- bilander/bilanderlaw20.GroupParts -/
def ac8 : AC :=
 (.seq
  (.reg [⟨(some 4), none, .mv (.c (.bool false))⟩])
  (.seq
   (.reg [⟨(some 5), none, .alloc [(.int .i64 0), (.int .u8 0), .nils]⟩])
   (.seq
    (.seq
     (.reg [⟨(some 6), none, .mv (.c (.int .i64 0))⟩])
     (.block 0
      (.loop
       (.seq
        (.seq
         (.reg [⟨(some 21), none, .mv (.t 6)⟩,
           ⟨(some 22), none, .mv (.t 0)⟩,
           ⟨(some 23), none, .bin .rem (.t 22) (.c (.int .u8 8))⟩,
           ⟨(some 24), none, .conv .i64 (.t 23)⟩,
           ⟨(some 25), none, .bin .lss (.t 21) (.t 24)⟩])
         (.cond (.t 25)
          .skip
          (.exit 0)))
        (.seq
         (.block 1
          (.seq
           (.reg [⟨(some 29), none, .load (some 3) (.t 5)⟩,
             ⟨(some 30), none, .mv (.t 6)⟩,
             ⟨(some 31), none, .bin .add (.c (.int .i64 97)) (.t 30)⟩,
             ⟨(some 32), none, .conv .u8 (.t 31)⟩,
             ⟨(some 33), none, .bsl 1 2 [(.int .u8 0)] [(0, (.c (.int .u8 109))), (1, (.t 32))]⟩,
             ⟨(some 34), none, .b2s (.t 33)⟩,
             ⟨(some 35), none, .mv (.t 6)⟩,
             ⟨(some 36), none, .call 29 [(.t 29), (.t 34), (.t 35)]⟩,
             ⟨(some 28), none, .take 36⟩,
             ⟨(some 37), none, .extS 28 0⟩,
             ⟨(some 38), none, .ext 28 1⟩,
             ⟨(some 7), none, .alloc [(.int .i64 0), (.int .u8 0), .nils]⟩,
             ⟨none, none, .store 3 (.t 7) (.t 37)⟩,
             ⟨(some 8), none, .take 38⟩])
           (.seq
            (.seq
             (.reg [⟨(some 39), none, .mv (.t 8)⟩,
               ⟨(some 40), none, .bin .neq (.t 39) (.c (.int .i64 0))⟩])
             (.cond (.t 40)
              (.seq
               (.reg [⟨(some 4), none, .mv (.c (.bool false))⟩])
               .ret)
              .skip))
            (.reg [⟨(some 41), none, .load (some 3) (.t 7)⟩,
              ⟨none, none, .store 3 (.t 5) (.t 41)⟩]))))
         (.reg [⟨(some 26), none, .take 6⟩,
           ⟨(some 27), none, .bin .add (.t 26) (.c (.int .i64 1))⟩,
           ⟨(some 6), none, .take 27⟩]))))))
    (.seq
     (.reg [⟨(some 42), none, .mv (.t 1)⟩,
       ⟨(some 43), none, .bin .rem (.t 42) (.c (.int .u8 40))⟩,
       ⟨(some 44), none, .conv .i64 (.t 43)⟩,
       ⟨(some 9), none, .take 44⟩])
     (.seq
      (.reg [⟨(some 45), none, .mv (.t 9)⟩,
        ⟨(some 46), none, .mks 1 8 [(.int .i64 0)] (.t 45)⟩,
        ⟨(some 10), none, .take 46⟩])
      (.seq
       (.reg [⟨(some 47), none, .load (some 3) (.t 5)⟩,
         ⟨(some 48), none, .call 35 [(.t 47)]⟩,
         ⟨(some 11), none, .take 48⟩])
       (.seq
        (.seq
         (.reg [⟨(some 12), none, .mv (.c (.int .i64 0))⟩])
         (.block 2
          (.loop
           (.seq
            (.seq
             (.reg [⟨(some 49), none, .mv (.t 12)⟩,
               ⟨(some 50), none, .mv (.t 11)⟩,
               ⟨(some 51), none, .len false (.t 50)⟩,
               ⟨(some 52), none, .bin .lss (.t 49) (.t 51)⟩])
             (.cond (.t 52)
              .skip
              (.exit 2)))
            (.seq
             (.block 3
              (.seq
               (.dreg [] [⟨(some 56), none, .load (some 3) (.t 5)⟩,
                 ⟨(some 57), none, .mv (.t 11)⟩,
                 ⟨(some 58), none, .mv (.t 12)⟩,
                 ⟨(some 59), none, .iaddr 1 (.t 57) (.t 58)⟩,
                 ⟨(some 60), none, .load none (.t 59)⟩,
                 ⟨(some 61), none, .faddr (.t 5) 0⟩,
                 ⟨(some 62), none, .load none (.t 61)⟩,
                 ⟨(some 63), none, .bin .sub (.t 62) (.c (.int .i64 1))⟩,
                 ⟨(some 64), none, .mv (.t 9)⟩,
                 ⟨(some 65), none, .call 30 [(.t 56), (.t 60), (.t 63), (.t 64), (.c (.int .i64 99))]⟩,
                 ⟨(some 55), none, .mv (.t 65)⟩,
                 ⟨(some 66), none, .extS 55 0⟩,
                 ⟨(some 67), none, .extS 55 1⟩,
                 ⟨(some 68), none, .extS 55 2⟩,
                 ⟨(some 13), none, .alloc [(.int .i64 0), (.int .u8 0), .nils]⟩,
                 ⟨none, none, .store 3 (.t 13) (.t 66)⟩,
                 ⟨(some 14), none, .take 67⟩,
                 ⟨(some 15), none, .take 68⟩])
               (.seq
                (.dreg [] [⟨(some 70), none, .load (some 3) (.t 5)⟩,
                  ⟨(some 71), none, .mv (.t 11)⟩,
                  ⟨(some 72), none, .mv (.t 12)⟩,
                  ⟨(some 73), none, .iaddr 1 (.t 71) (.t 72)⟩,
                  ⟨(some 74), none, .load none (.t 73)⟩,
                  ⟨(some 75), none, .faddr (.t 5) 0⟩,
                  ⟨(some 76), none, .load none (.t 75)⟩,
                  ⟨(some 77), none, .mv (.t 9)⟩,
                  ⟨(some 78), none, .call 30 [(.t 70), (.t 74), (.t 76), (.t 77), (.c (.int .i64 99))]⟩,
                  ⟨(some 69), none, .mv (.t 78)⟩,
                  ⟨(some 79), none, .extS 69 0⟩,
                  ⟨(some 80), none, .extS 69 1⟩,
                  ⟨(some 81), none, .extS 69 2⟩,
                  ⟨(some 16), none, .alloc [(.int .i64 0), (.int .u8 0), .nils]⟩,
                  ⟨none, none, .store 3 (.t 16) (.t 79)⟩,
                  ⟨(some 17), none, .take 80⟩,
                  ⟨(some 18), none, .take 81⟩])
                (.seq
                 (.seq
                  (.reg [⟨(some 82), none, .mv (.t 18)⟩,
                    ⟨(some 83), none, .bin .neq (.t 82) (.c (.int .i64 0))⟩,
                    ⟨(some 84), none, .take 83⟩,
                    ⟨(some 85), (some (84, false)), .mv (.t 15)⟩,
                    ⟨(some 86), (some (84, false)), .bin .neq (.t 85) (.c (.int .i64 19))⟩,
                    ⟨(some 87), none, .pick (.t 84) (.c (.bool true)) (.t 86)⟩])
                  (.cond (.t 87)
                   (.seq
                    (.reg [⟨(some 4), none, .mv (.c (.bool false))⟩])
                    .ret)
                   .skip))
                 (.seq
                  (.reg [⟨(some 88), none, .load (some 3) (.t 16)⟩,
                    ⟨none, none, .store 3 (.t 5) (.t 88)⟩])
                  (.seq
                   (.reg [⟨(some 19), none, .mv (.c (.int .i64 0))⟩])
                   (.block 4
                    (.loop
                     (.seq
                      (.seq
                       (.reg [⟨(some 89), none, .mv (.t 19)⟩,
                         ⟨(some 90), none, .mv (.t 17)⟩,
                         ⟨(some 91), none, .len false (.t 90)⟩,
                         ⟨(some 92), none, .bin .lss (.t 89) (.t 91)⟩])
                       (.cond (.t 92)
                        .skip
                        (.exit 4)))
                      (.seq
                       (.block 5
                        (.seq
                         (.seq
                          (.reg [⟨(some 95), none, .mv (.t 17)⟩,
                            ⟨(some 96), none, .mv (.t 19)⟩,
                            ⟨(some 97), none, .iaddr 1 (.t 95) (.t 96)⟩,
                            ⟨(some 98), none, .load none (.t 97)⟩,
                            ⟨(some 99), none, .bin .lss (.t 98) (.c (.int .i64 0))⟩,
                            ⟨(some 100), none, .take 99⟩,
                            ⟨(some 101), (some (100, false)), .mv (.t 17)⟩,
                            ⟨(some 102), (some (100, false)), .mv (.t 19)⟩,
                            ⟨(some 103), (some (100, false)), .iaddr 1 (.t 101) (.t 102)⟩,
                            ⟨(some 104), (some (100, false)), .load none (.t 103)⟩,
                            ⟨(some 105), (some (100, false)), .mv (.t 9)⟩,
                            ⟨(some 106), (some (100, false)), .bin .geq (.t 104) (.t 105)⟩,
                            ⟨(some 107), none, .pick (.t 100) (.c (.bool true)) (.t 106)⟩])
                          (.cond (.t 107)
                           (.seq
                            (.reg [⟨(some 4), none, .mv (.c (.bool false))⟩])
                            .ret)
                           .skip))
                         (.reg [⟨(some 108), none, .mv (.t 10)⟩,
                           ⟨(some 109), none, .mv (.t 17)⟩,
                           ⟨(some 110), none, .mv (.t 19)⟩,
                           ⟨(some 111), none, .iaddr 1 (.t 109) (.t 110)⟩,
                           ⟨(some 112), none, .load none (.t 111)⟩,
                           ⟨(some 113), none, .iaddr 1 (.t 108) (.t 112)⟩,
                           ⟨(some 114), none, .load none (.t 113)⟩,
                           ⟨(some 115), none, .bin .add (.t 114) (.c (.int .i64 1))⟩,
                           ⟨(some 116), none, .iaddr 1 (.t 108) (.t 112)⟩,
                           ⟨none, none, .store 1 (.t 116) (.t 115)⟩])))
                       (.reg [⟨(some 93), none, .take 19⟩,
                         ⟨(some 94), none, .bin .add (.t 93) (.c (.int .i64 1))⟩,
                         ⟨(some 19), none, .take 94⟩])))))))))))
             (.reg [⟨(some 53), none, .take 12⟩,
               ⟨(some 54), none, .bin .add (.t 53) (.c (.int .i64 1))⟩,
               ⟨(some 12), none, .take 54⟩]))))))
        (.seq
         (.seq
          (.reg [⟨(some 20), none, .mv (.c (.int .i64 0))⟩])
          (.block 6
           (.loop
            (.seq
             (.seq
              (.reg [⟨(some 117), none, .mv (.t 20)⟩,
                ⟨(some 118), none, .mv (.t 9)⟩,
                ⟨(some 119), none, .bin .lss (.t 117) (.t 118)⟩])
              (.cond (.t 119)
               .skip
               (.exit 6)))
             (.seq
              (.block 7
               (.seq
                (.reg [⟨(some 122), none, .mv (.t 10)⟩,
                  ⟨(some 123), none, .mv (.t 20)⟩,
                  ⟨(some 124), none, .iaddr 1 (.t 122) (.t 123)⟩,
                  ⟨(some 125), none, .load none (.t 124)⟩,
                  ⟨(some 126), none, .mv (.t 11)⟩,
                  ⟨(some 127), none, .len false (.t 126)⟩,
                  ⟨(some 128), none, .minmax false (.c (.int .i64 1)) (.t 127)⟩,
                  ⟨(some 129), none, .bin .neq (.t 125) (.t 128)⟩])
                (.cond (.t 129)
                 (.seq
                  (.reg [⟨(some 4), none, .mv (.c (.bool false))⟩])
                  .ret)
                 .skip)))
              (.reg [⟨(some 120), none, .take 20⟩,
                ⟨(some 121), none, .bin .add (.t 120) (.c (.int .i64 1))⟩,
                ⟨(some 20), none, .take 121⟩]))))))
         (.seq
          (.reg [⟨(some 130), none, .mv (.t 11)⟩,
            ⟨(some 131), none, .len false (.t 130)⟩,
            ⟨(some 132), none, .mv (.t 0)⟩,
            ⟨(some 133), none, .bin .rem (.t 132) (.c (.int .u8 8))⟩,
            ⟨(some 134), none, .conv .i64 (.t 133)⟩,
            ⟨(some 135), none, .bin .eql (.t 131) (.t 134)⟩,
            ⟨(some 136), none, .take 135⟩,
            ⟨(some 137), (some (136, true)), .faddr (.t 5) 1⟩,
            ⟨(some 138), (some (136, true)), .load none (.t 137)⟩,
            ⟨(some 139), (some (136, true)), .bin .eql (.t 138) (.c (.int .u8 2))⟩,
            ⟨(some 140), (some (136, true)), .mv (.t 11)⟩,
            ⟨(some 141), (some (136, true)), .len false (.t 140)⟩,
            ⟨(some 142), (some (136, true)), .bin .gtr (.t 141) (.c (.int .i64 0))⟩,
            ⟨(some 143), (some (136, true)), .beq false (.t 139) (.t 142)⟩,
            ⟨(some 144), none, .pick (.t 136) (.t 143) (.c (.bool false))⟩,
            ⟨(some 145), none, .take 144⟩,
            ⟨(some 146), (some (145, true)), .call 24 []⟩,
            ⟨(some 147), none, .pick (.t 145) (.t 146) (.c (.bool false))⟩,
            ⟨(some 4), none, .take 147⟩])
          .ret)))))))))
def ar8 : List AR := [.t 4]
theorem comp8 : Try.f8.body.bind (comp Try.prog 148) = some ac8 := by kernel_rfl
theorem cres8 : compRes Try.prog Try.f8.results.toList = some ar8 := by kernel_rfl
/-- bilander/bilanderlaw20.GroupReturns -/
def ac9 : AC :=
 (.seq
  (.reg [⟨(some 6), none, .mv (.c (.bool false))⟩])
  (.seq
   (.seq
    (.reg [⟨(some 18), none, .mv (.t 0)⟩,
      ⟨(some 19), none, .len false (.t 18)⟩,
      ⟨(some 20), none, .bin .gtr (.t 19) (.c (.int .i64 30))⟩,
      ⟨(some 21), none, .take 20⟩,
      ⟨(some 22), (some (21, false)), .mv (.t 1)⟩,
      ⟨(some 23), (some (21, false)), .len true (.t 22)⟩,
      ⟨(some 24), (some (21, false)), .bin .gtr (.t 23) (.c (.int .i64 60))⟩,
      ⟨(some 25), none, .pick (.t 21) (.c (.bool true)) (.t 24)⟩])
    (.cond (.t 25)
     (.seq
      (.reg [⟨(some 26), none, .call 24 []⟩,
        ⟨(some 6), none, .take 26⟩])
      .ret)
     .skip))
   (.seq
    (.reg [⟨(some 7), none, .alloc [(.int .i64 0), (.int .u8 0), .nils]⟩])
    (.seq
     (.seq
      (.reg [⟨(some 8), none, .mv (.c (.int .i64 0))⟩])
      (.block 0
       (.loop
        (.seq
         (.seq
          (.reg [⟨(some 27), none, .mv (.t 8)⟩,
            ⟨(some 28), none, .mv (.t 0)⟩,
            ⟨(some 29), none, .len false (.t 28)⟩,
            ⟨(some 30), none, .bin .lss (.t 27) (.t 29)⟩])
          (.cond (.t 30)
           .skip
           (.exit 0)))
         (.seq
          (.block 1
           (.seq
            (.seq
             (.reg [⟨(some 33), none, .mv (.t 0)⟩,
               ⟨(some 34), none, .mv (.t 8)⟩,
               ⟨(some 35), none, .iaddr 5 (.t 33) (.t 34)⟩,
               ⟨(some 36), none, .faddr (.t 35) 1⟩,
               ⟨(some 37), none, .load none (.t 36)⟩,
               ⟨(some 38), none, .len true (.t 37)⟩,
               ⟨(some 39), none, .bin .gtr (.t 38) (.c (.int .i64 60))⟩])
             (.cond (.t 39)
              (.seq
               (.reg [⟨(some 40), none, .call 24 []⟩,
                 ⟨(some 6), none, .take 40⟩])
               .ret)
              .skip))
            (.seq
             (.dreg [] [⟨(some 42), none, .load (some 3) (.t 7)⟩,
               ⟨(some 43), none, .mv (.t 0)⟩,
               ⟨(some 44), none, .mv (.t 8)⟩,
               ⟨(some 45), none, .iaddr 5 (.t 43) (.t 44)⟩,
               ⟨(some 46), none, .faddr (.t 45) 1⟩,
               ⟨(some 47), none, .load none (.t 46)⟩,
               ⟨(some 48), none, .mv (.t 0)⟩,
               ⟨(some 49), none, .mv (.t 8)⟩,
               ⟨(some 50), none, .iaddr 5 (.t 48) (.t 49)⟩,
               ⟨(some 51), none, .faddr (.t 50) 4⟩,
               ⟨(some 52), none, .load none (.t 51)⟩,
               ⟨(some 53), none, .call 29 [(.t 42), (.t 47), (.t 52)]⟩,
               ⟨(some 41), none, .mv (.t 53)⟩,
               ⟨(some 54), none, .extS 41 0⟩,
               ⟨(some 55), none, .extS 41 1⟩,
               ⟨(some 9), none, .alloc [(.int .i64 0), (.int .u8 0), .nils]⟩,
               ⟨none, none, .store 3 (.t 9) (.t 54)⟩,
               ⟨(some 10), none, .take 55⟩])
             (.seq
              (.reg [⟨(some 56), none, .mv (.t 10)⟩,
                ⟨(some 57), none, .bin .eql (.t 56) (.c (.int .i64 0))⟩])
              (.cond (.t 57)
               (.reg [⟨(some 58), none, .load (some 3) (.t 9)⟩,
                 ⟨none, none, .store 3 (.t 7) (.t 58)⟩])
               .skip)))))
          (.reg [⟨(some 31), none, .take 8⟩,
            ⟨(some 32), none, .bin .add (.t 31) (.c (.int .i64 1))⟩,
            ⟨(some 8), none, .take 32⟩]))))))
     (.seq
      (.reg [⟨(some 60), none, .load (some 3) (.t 7)⟩,
        ⟨(some 61), none, .mv (.t 1)⟩,
        ⟨(some 62), none, .call 36 [(.t 60), (.t 61)]⟩,
        ⟨(some 59), none, .take 62⟩,
        ⟨(some 63), none, .extS 59 0⟩,
        ⟨(some 64), none, .ext 59 1⟩,
        ⟨(some 11), none, .alloc [(.str (ByteArray.mk #[])), (.int .i64 0), (.bool false)]⟩,
        ⟨none, none, .store 3 (.t 11) (.t 63)⟩,
        ⟨(some 12), none, .take 64⟩])
      (.seq
       (.reg [⟨(some 66), none, .load (some 3) (.t 7)⟩,
         ⟨(some 67), none, .mv (.t 1)⟩,
         ⟨(some 68), none, .mv (.t 2)⟩,
         ⟨(some 69), none, .call 29 [(.t 66), (.t 67), (.t 68)]⟩,
         ⟨(some 65), none, .take 69⟩,
         ⟨(some 70), none, .extS 65 0⟩,
         ⟨(some 71), none, .ext 65 1⟩,
         ⟨(some 13), none, .alloc [(.int .i64 0), (.int .u8 0), .nils]⟩,
         ⟨none, none, .store 3 (.t 13) (.t 70)⟩,
         ⟨(some 14), none, .take 71⟩])
       (.seq
        (.seq
         (.reg [⟨(some 72), none, .mv (.t 14)⟩,
           ⟨(some 73), none, .bin .neq (.t 72) (.c (.int .i64 0))⟩])
         (.cond (.t 73)
          (.seq
           (.reg [⟨(some 74), none, .call 24 []⟩,
             ⟨(some 6), none, .take 74⟩])
           .ret)
          .skip))
        (.seq
         (.seq
          (.reg [⟨(some 75), none, .mv (.t 12)⟩])
          (.cond (.t 75)
           (.seq
            (.reg [⟨(some 76), none, .faddr (.t 13) 0⟩,
              ⟨(some 77), none, .load none (.t 76)⟩,
              ⟨(some 78), none, .faddr (.t 7) 0⟩,
              ⟨(some 79), none, .load none (.t 78)⟩,
              ⟨(some 80), none, .bin .eql (.t 77) (.t 79)⟩,
              ⟨(some 81), none, .take 80⟩,
              ⟨(some 82), (some (81, true)), .faddr (.t 13) 2⟩,
              ⟨(some 83), (some (81, true)), .load none (.t 82)⟩,
              ⟨(some 84), (some (81, true)), .len false (.t 83)⟩,
              ⟨(some 85), (some (81, true)), .faddr (.t 7) 2⟩,
              ⟨(some 86), (some (81, true)), .load none (.t 85)⟩,
              ⟨(some 87), (some (81, true)), .len false (.t 86)⟩,
              ⟨(some 88), (some (81, true)), .bin .eql (.t 84) (.t 87)⟩,
              ⟨(some 89), none, .pick (.t 81) (.t 88) (.c (.bool false))⟩,
              ⟨(some 90), none, .take 89⟩,
              ⟨(some 91), (some (90, true)), .call 24 []⟩,
              ⟨(some 92), none, .pick (.t 90) (.t 91) (.c (.bool false))⟩,
              ⟨(some 6), none, .take 92⟩])
            .ret)
           .skip))
         (.seq
          (.reg [⟨(some 94), none, .load (some 3) (.t 13)⟩,
            ⟨(some 95), none, .mv (.t 1)⟩,
            ⟨(some 96), none, .call 32 [(.t 94), (.t 95)]⟩,
            ⟨(some 93), none, .take 96⟩,
            ⟨(some 97), none, .extS 93 0⟩,
            ⟨(some 98), none, .ext 93 1⟩,
            ⟨(some 15), none, .alloc [(.int .i64 0), (.int .u8 0), .nils]⟩,
            ⟨none, none, .store 3 (.t 15) (.t 97)⟩,
            ⟨(some 16), none, .take 98⟩])
          (.seq
           (.seq
            (.reg [⟨(some 99), none, .mv (.t 16)⟩,
              ⟨(some 100), none, .bin .neq (.t 99) (.c (.int .i64 0))⟩,
              ⟨(some 101), none, .take 100⟩,
              ⟨(some 102), (some (101, false)), .faddr (.t 15) 0⟩,
              ⟨(some 103), (some (101, false)), .load none (.t 102)⟩,
              ⟨(some 104), (some (101, false)), .faddr (.t 7) 0⟩,
              ⟨(some 105), (some (101, false)), .load none (.t 104)⟩,
              ⟨(some 106), (some (101, false)), .bin .add (.t 105) (.c (.int .i64 2))⟩,
              ⟨(some 107), (some (101, false)), .bin .neq (.t 103) (.t 106)⟩,
              ⟨(some 108), none, .pick (.t 101) (.c (.bool true)) (.t 107)⟩,
              ⟨(some 109), none, .take 108⟩,
              ⟨(some 110), (some (109, false)), .faddr (.t 15) 2⟩,
              ⟨(some 111), (some (109, false)), .load none (.t 110)⟩,
              ⟨(some 112), (some (109, false)), .len false (.t 111)⟩,
              ⟨(some 113), (some (109, false)), .faddr (.t 7) 2⟩,
              ⟨(some 114), (some (109, false)), .load none (.t 113)⟩,
              ⟨(some 115), (some (109, false)), .len false (.t 114)⟩,
              ⟨(some 116), (some (109, false)), .bin .neq (.t 112) (.t 115)⟩,
              ⟨(some 117), none, .pick (.t 109) (.c (.bool true)) (.t 116)⟩])
            (.cond (.t 117)
             (.seq
              (.reg [⟨(some 6), none, .mv (.c (.bool false))⟩])
              .ret)
             .skip))
           (.seq
            (.seq
             (.reg [⟨(some 17), none, .mv (.c (.int .i64 0))⟩])
             (.block 2
              (.loop
               (.seq
                (.seq
                 (.reg [⟨(some 118), none, .mv (.t 17)⟩,
                   ⟨(some 119), none, .faddr (.t 7) 2⟩,
                   ⟨(some 120), none, .load none (.t 119)⟩,
                   ⟨(some 121), none, .len false (.t 120)⟩,
                   ⟨(some 122), none, .bin .lss (.t 118) (.t 121)⟩])
                 (.cond (.t 122)
                  .skip
                  (.exit 2)))
                (.seq
                 (.block 3
                  (.seq
                   (.dreg [] [⟨(some 125), none, .faddr (.t 15) 2⟩,
                     ⟨(some 126), none, .load none (.t 125)⟩,
                     ⟨(some 127), none, .mv (.t 17)⟩,
                     ⟨(some 128), none, .iaddr 3 (.t 126) (.t 127)⟩,
                     ⟨(some 129), none, .faddr (.t 128) 0⟩,
                     ⟨(some 130), none, .load none (.t 129)⟩,
                     ⟨(some 131), none, .faddr (.t 7) 2⟩,
                     ⟨(some 132), none, .load none (.t 131)⟩,
                     ⟨(some 133), none, .mv (.t 17)⟩,
                     ⟨(some 134), none, .iaddr 3 (.t 132) (.t 133)⟩,
                     ⟨(some 135), none, .faddr (.t 134) 0⟩,
                     ⟨(some 136), none, .load none (.t 135)⟩,
                     ⟨(some 137), none, .bin .neq (.t 130) (.t 136)⟩,
                     ⟨(some 138), none, .mv (.t 137)⟩,
                     ⟨(some 139), (some (138, false)), .faddr (.t 15) 2⟩,
                     ⟨(some 140), (some (138, false)), .load none (.t 139)⟩,
                     ⟨(some 141), (some (138, false)), .mv (.t 17)⟩,
                     ⟨(some 142), (some (138, false)), .iaddr 3 (.t 140) (.t 141)⟩,
                     ⟨(some 143), (some (138, false)), .faddr (.t 142) 1⟩,
                     ⟨(some 144), (some (138, false)), .load none (.t 143)⟩,
                     ⟨(some 145), (some (138, false)), .faddr (.t 7) 2⟩,
                     ⟨(some 146), (some (138, false)), .load none (.t 145)⟩,
                     ⟨(some 147), (some (138, false)), .mv (.t 17)⟩,
                     ⟨(some 148), (some (138, false)), .iaddr 3 (.t 146) (.t 147)⟩,
                     ⟨(some 149), (some (138, false)), .faddr (.t 148) 1⟩,
                     ⟨(some 150), (some (138, false)), .load none (.t 149)⟩,
                     ⟨(some 151), (some (138, false)), .bin .neq (.t 144) (.t 150)⟩,
                     ⟨(some 152), none, .pick (.t 138) (.c (.bool true)) (.t 151)⟩,
                     ⟨(some 153), none, .mv (.t 152)⟩,
                     ⟨(some 154), (some (153, false)), .faddr (.t 15) 2⟩,
                     ⟨(some 155), (some (153, false)), .load none (.t 154)⟩,
                     ⟨(some 156), (some (153, false)), .mv (.t 17)⟩,
                     ⟨(some 157), (some (153, false)), .iaddr 3 (.t 155) (.t 156)⟩,
                     ⟨(some 158), (some (153, false)), .faddr (.t 157) 2⟩,
                     ⟨(some 159), (some (153, false)), .load none (.t 158)⟩,
                     ⟨(some 160), none, .pick (.t 153) (.c (.bool true)) (.t 159)⟩])
                   (.cond (.t 160)
                    (.seq
                     (.reg [⟨(some 6), none, .mv (.c (.bool false))⟩])
                     .ret)
                    .skip)))
                 (.reg [⟨(some 123), none, .take 17⟩,
                   ⟨(some 124), none, .bin .add (.t 123) (.c (.int .i64 1))⟩,
                   ⟨(some 17), none, .take 124⟩]))))))
            (.seq
             (.reg [⟨(some 161), none, .call 24 []⟩,
               ⟨(some 6), none, .take 161⟩])
             .ret))))))))))))
def ar9 : List AR := [.t 6]
theorem comp9 : Try.f9.body.bind (comp Try.prog 162) = some ac9 := by kernel_rfl
theorem cres9 : compRes Try.prog Try.f9.results.toList = some ar9 := by kernel_rfl
end Go.Proofs.Ytmfkliabjfngmaa

/- Group: law 8. -/




set_option linter.unusedSimpArgs false
set_option linter.unusedVariables false
set_option maxHeartbeats 16000000
set_option maxRecDepth 100000
namespace Go.Proofs.Ytmfkliabjfngmaa

open Go.Av

noncomputable def RgM : Orc := { p := RgKp, arr := fun x => x == 46 }
theorem RgM_ok : RgM.ok Try.prog :=
  ⟨RgK_ok.p, fun _ _ _ _ _ _ h => (by cases h), fun _ _ _ _ h => (by cases h), fun _ h => (by cases h), fun _ _ _ _ _ _ h => (by cases h), fun _ _ _ _ _ _ _ h => (by cases h)⟩
/-- What has been seen: the first s parts, once each. -/
def firstC (s : Nat) : Nat → Nat := fun p => if p < s then 1 else 0
theorem upto_get (a : Nat) {s k : Nat} (h : k < s) : (upto a s).getD k 0 = ((a + k : Nat) : Int) := by
  simp [upto, List.getD_eq_getElem?_getD, List.getElem?_range h]
theorem law_parts (n p : Int) (hn0 : 0 ≤ n) (hn1 : n < 256) (hp0 : 0 ≤ p) (hp1 : p < 256) : Pure Try.prog 8 [.int .u8 n, .int .u8 p] (.sv (.bool true)) := by
  have e24 : RgM.p 24 _ = _ := RgK_24
  have e29 : ∀ (g : Grp) (s : ByteArray) (k : Int), RgM.p 29 _ = _ := RgK_29
  have e30 : ∀ (g : Grp) (s : ByteArray) (a b c : Int), RgM.p 30 _ = _ := RgK_30
  have e35 : ∀ (g : Grp), RgM.p 35 _ = _ := RgK_35
  have hR := RgM_ok
  have hnf : RgM.nofz = false := rfl
  have harr : RgM.arr = fun x => x == 46 := rfl
  have haw := awake_pure
  generalize RgM = R at *
  refine pure_go hR Try.func8 Try.ntmps8 comp8 cres8 (by decide) (by simp) ?_
  have htn : n.tmod 8 = n % 8 := Int.tmod_eq_emod_of_nonneg hn0
  have htp : p.tmod 40 = p % 40 := Int.tmod_eq_emod_of_nonneg hp0
  obtain ⟨N, hN⟩ : ∃ N : Nat, n % 8 = N := ⟨(n % 8).toNat, by omega⟩
  obtain ⟨P, hP⟩ : ∃ P : Nat, p % 40 = P := ⟨(p % 40).toNat, by omega⟩
  have hN8 : N < 8 := by omega
  have hP40 : P < 40 := by omega
  rw [hN] at htn
  rw [hP] at htp
  have hwN : IntKind.i64.wrap (N : Int) = N := by rw [IntKind.wrap_i64]; omega
  have hwP : IntKind.i64.wrap (P : Int) = P := by rw [IntKind.wrap_i64]; omega
  have hb1 : (P : Int) * 8 ≤ 281474976710656 := by omega
  have hb2 : (P : Int) ≤ 9223372036854775807 := by omega
  have hz := cellsC_zero P
  simp [ac8, ar8, hnf]
  refine awpR_loop (α := Nat) (fun i => i ≤ N) (fun i => { n := 148, sl := [(0, .sv (.int .u8 n)), (1, .sv (.int .u8 p)), (5, .lptr 5 0), (6, .sv (.int .i64 i))], bx := [(5, [.sv (.int .i64 (sG i 0).ge), .sv (.int .u8 (sG i 0).ph), .sv (.sl 3 (ML (sG i 0).ms))])], hp := fun _ => none })
    (fun i => N - i) 0 (by omega) (by simp [sG, ML]) ?_
  intro i hi
  by_cases h : i < N
  · have h1 : (i : Int) < N := by omega
    have hw : IntKind.i64.wrap ((i : Int) + 1) = ((i + 1 : Nat) : Int) := by rw [IntKind.wrap_i64]; omega
    have hw97 : IntKind.i64.wrap (97 + (i : Int)) = 97 + (i : Int) := by rw [IntKind.wrap_i64]; omega
    have hw8 : IntKind.u8.wrap (97 + (i : Int)) = 97 + (i : Int) := by rw [IntKind.wrap_u8]; omega
    have htN : (97 + (i : Int)).toNat = 97 + i := by omega
    have e29i := e29 (sG i 0) (nmP i) i
    have hsl := sG_len i 0
    rw [join_step i (by omega)] at e29i
    generalize hX : sG (i + 1) 0 = X at *
    simp [nmP] at e29i
    have hl9 : (sG i 0).ms.length ≤ 999 := by omega
    generalize sG i 0 = g at *
    simp [htn, htp, hwN, h1, h, hw, hw97, hw8, htN, Av.byteOf, isByte, e29i, hl9]
    exact ⟨i + 1, by omega, by omega, by omega, by rw [hX], by rw [hX], by rw [hX]⟩
  · obtain rfl : i = N := by omega
    have e35n := e35 (sG i 0)
    have hsl := sG_len i 0
    rw [sG_names] at e35n
    have hln : (nmsP i).length = i := by simp [nmsP]
    have hl9 : (sG i 0).ms.length ≤ 1000 := by omega
    generalize hG : sG i 0 = G at *
    have hnl : ¬ ((i : Int) < i) := by omega
    simp [htn, htp, hwN, hwP, hnl, harr, hb1, hb2, hz, e35n, hl9]
    refine awpR_loop (α := Nat × (Nat → Nat)) (fun q => q.1 ≤ i ∧ ∀ x, x < P → q.2 x = if x < atR P i q.1 then 1 else 0) (fun q => { n := 148, sl := [(0, .sv (.int .u8 n)), (5, .lptr 5 0), (9, .sv (.int .i64 P)), (10, .lsl 46 1 0 P P), (11, .sv (.sl 1 (TL (nmsP i)))), (12, .sv (.int .i64 q.1))], bx := [(5, [.sv (.int .i64 (sG i q.1).ge), .sv (.int .u8 (sG i q.1).ph), .sv (.sl 3 (ML (sG i q.1).ms))]), (46, cellsC q.2 P)], hp := fun _ => none })
      (fun q => i - q.1) (0, fun _ => 0) ⟨by omega, by simp [atR]⟩ (by simp [hG, WkRs_refl]) ?_
    rintro ⟨j, c⟩ ⟨hj, hc⟩
    simp only at hj hc ⊢
    by_cases h2 : j < i
    · have h2' : (j : Int) < i := by omega
      have hwj : IntKind.i64.wrap ((j : Int) + 1) = ((j + 1 : Nat) : Int) := by rw [IntKind.wrap_i64]; omega
      have e30a := e30 (sG i j) (nmP j) ((i : Int) - 1) P 99
      have e30b := e30 (sG i j) (nmP j) i P 99
      rw [sync_old i j hN8 h2] at e30a
      rw [sync_step i j hN8 h2 P (by omega)] at e30b
      have hsl2 := sG_len i j
      have hge : (sG i j).ge = i := rfl
      have hgt := TL_get (nmsP i) (show j < (nmsP i).length by omega)
      have hgd : (nmsP i).getD j ⟨#[]⟩ = nmP j := by simp [nmsP, List.getD_eq_getElem?_getD, h2]
      have hjA : j < (TL (nmsP i)).length := by simp [hln]; exact h2
      have hgte : (TL (nmsP i))[j] = .str ((nmsP i).getD j ⟨#[]⟩) := by rw [← hgt, List.getElem?_eq_getElem hjA]; rfl
      rw [hgd] at hgt hgte
      have hwi : IntKind.i64.wrap ((i : Int) - 1) = (i : Int) - 1 := by rw [IntKind.wrap_i64]; omega
      have hl10 : (sG i j).ms.length ≤ 1000 := by omega
      have hrow : rowR P i j = upto (atR P i j) (shR P i j) := rfl
      have hsu := atR_succ P i j
      have hle := atR_le (P := P) (n := i) (k := j + 1) (by omega) (by omega)
      generalize hY : sG i (j + 1) = Y at *
      generalize nmP j = nm at *
      simp only [gs, hge] at e30a e30b
      generalize (sG i j).ms = gm at *
      generalize (sG i j).ph = gp at *
      have hrl : (rowR P i j).length = shR P i j := by rw [hrow, upto_len]
      have hrg : ∀ k, k < shR P i j → (rowR P i j).getD k 0 = ((atR P i j + k : Nat) : Int) := fun k hk => by rw [hrow]; exact upto_get _ hk
      generalize rowR P i j = row at *
      simp [h2, h2', hln, hgt, hgte, hwi, e30a, e30b, hl10, hge]
      have hr4 : row.length < 4611686018427387904 := by omega
      refine awpR_loop (α := Nat × (Nat → Nat)) (fun q => q.1 ≤ row.length ∧ ∀ x, x < P → q.2 x = if x < atR P i j + q.1 then 1 else 0) (fun q => { n := 148, sl := [(0, .sv (.int .u8 n)), (5, .lptr 5 0), (9, .sv (.int .i64 P)), (10, .lsl 46 1 0 P P), (11, .sv (.sl 1 (TL (nmsP i)))), (12, .sv (.int .i64 j)), (17, .sv (.sl 1 (IL row))), (19, .sv (.int .i64 q.1))], bx := [(5, [.sv (.int .i64 Y.ge), .sv (.int .u8 Y.ph), .sv (.sl 3 (ML Y.ms))]), (46, cellsC q.2 P)], hp := fun _ => none })
        (fun q => row.length - q.1) (0, c) ⟨by omega, hc⟩ (by simp [WkRs_refl]) ?_
      rintro ⟨k, d⟩ ⟨hk, hd⟩
      simp only at hk hd ⊢
      by_cases h3 : k < row.length
      · have h3' : (k : Int) < row.length := by omega
        have hwk := wrap_succ h3 hr4
        have hgr := IL_get row h3
        have hgre : (IL row)[k]'(by simpa using h3) = .int .i64 (row.getD k 0) := by rw [← hgr, List.getElem?_eq_getElem]; rfl
        rw [hrg k (by omega)] at hgr hgre
        obtain ⟨x, hx⟩ : ∃ x, x = atR P i j + k := ⟨_, rfl⟩
        rw [← hx] at hgr hgre
        have hxP : x < P := by omega
        have hxP' : (x : Int) < P := by omega
        have hx0 : ¬ ((x : Int) < 0) := by omega
        have hxP2 : ¬ ((P : Int) ≤ (x : Int)) := by omega
        have hdx : d x = 0 := by rw [hd x hxP, if_neg (by omega)]
        have hget := cellsC_get d hxP
        have hgee : (cellsC d P)[x]'(by simpa using hxP) = .sv (.int .i64 (d x)) := by rw [← hget, List.getElem?_eq_getElem]; rfl
        rw [hdx] at hget hgee
        have hset := cellsC_set d (firstC (x + 1)) (n := P) (k := x) (x := 1) (by simp [firstC]) (fun y hy hne => by
          rw [hd y hy]
          unfold firstC
          by_cases q : y < x
          · rw [if_pos (by omega), if_pos (by omega)]
          · rw [if_neg (by omega), if_neg (by omega)])
        simp [h3, h3', hgr, hgre, hx0, hxP, hxP', hxP2, hget, hgee, hset, hwk]
        refine ⟨by omega, k + 1, firstC (x + 1), ⟨by omega, fun y hy => ?_⟩, by omega, by omega, ?_⟩
        · unfold firstC
          rw [show atR P i j + (k + 1) = x + 1 by omega]
        · rw [show IntKind.i64.wrap 1 = 1 from rfl, hset]
          exact WkRs_refl _
      · obtain rfl : k = row.length := by omega
        have h3' : ¬ ((row.length : Int) < row.length) := by omega
        simp [h3', hwj]
        refine ⟨j + 1, d, ⟨by omega, fun y hy => ?_⟩, by omega, by omega, ⟨by rw [hY], by rw [hY], by rw [hY]⟩, WkRs_refl _⟩
        rw [hd y hy, hrl, hsu]
    · obtain rfl : j = i := by omega
      have hlj : ¬ ((j : Int) < j) := by omega
      have hpe : (sG j j).ph = if j = 0 then 0 else 2 := by simp [sG]
      generalize (sG j j).ph = gp at *
      generalize (sG j j).ge = gq at *
      generalize (sG j j).ms = gm at *
      simp [hln, hlj]
      refine awpR_loop (α := Nat) (fun k => k ≤ P) (fun k => { n := 148, sl := [(0, .sv (.int .u8 n)), (5, .lptr 5 0), (9, .sv (.int .i64 P)), (10, .lsl 46 1 0 P P), (11, .sv (.sl 1 (TL (nmsP j)))), (20, .sv (.int .i64 k))], bx := [(5, [.sv (.int .i64 gq), .sv (.int .u8 gp), .sv (.sl 3 (ML gm))]), (46, cellsC c P)], hp := fun _ => none })
        (fun k => P - k) 0 (by omega) (by simp [WkRs_refl]) ?_
      intro k hk
      by_cases h3 : k < P
      · have h3' : (k : Int) < P := by omega
        have hwk : IntKind.i64.wrap ((k : Int) + 1) = ((k + 1 : Nat) : Int) := by rw [IntKind.wrap_i64]; omega
        have hget := cellsC_get c h3
        have hgee : (cellsC c P)[k]'(by simpa using h3) = .sv (.int .i64 (c k)) := by rw [← hget, List.getElem?_eq_getElem]; rfl
        have hck := hc k h3
        by_cases hj0 : j = 0
        · subst hj0
          rw [if_neg (by simp [atR])] at hck
          rw [hck] at hget hgee
          simp [h3, h3', hget, hgee, hln, hwk]
          exact ⟨by omega, k + 1, by omega, by omega, by omega, WkRs_refl _⟩
        · rw [if_pos (by rw [atR_end (by omega)]; exact h3)] at hck
          rw [hck] at hget hgee
          have hj1 : ¬ ((j : Int) < 1) := by omega
          have hj2 : ¬ ((j : Int) ≤ 1) ∨ j = 1 := by omega
          simp [h3, h3', hget, hgee, hln, hwk, hj1]
          exact ⟨by omega, k + 1, by omega, by omega, by omega, WkRs_refl _⟩
      · obtain rfl : k = P := by omega
        have h3' : ¬ ((k : Int) < k) := by omega
        by_cases hj0 : j = 0
        · subst hj0
          rw [if_pos rfl] at hpe
          subst hpe
          simp [h3', hln, htn, hwN, e24, haw]
          rfl
        · rw [if_neg hj0] at hpe
          subst hpe
          have hj3 : (0 : Int) < j := by omega
          have hj4 : 0 < j := by omega
          simp [h3', hln, htn, hwN, e24, haw, hj3, hj4]
end Go.Proofs.Ytmfkliabjfngmaa
