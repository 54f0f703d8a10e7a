import Derived.Test.YtflcdbfcipkhkaaMDbL
import Derived.Test.YtflcdbfcipkhkaaAvL3
import Derived.Test.YtflcdbfcipkhkaaProg
import Derived.KernelRfl
import Derived.Test.YtflcdbfcipkhkaaMDkE

set_option linter.unusedVariables false
set_option linter.unusedSimpArgs false

/- Segment: what is fetched, by the document. -/

set_option linter.unusedSimpArgs false
set_option linter.unusedVariables false
set_option maxHeartbeats 8000000
namespace Go.Proofs.Ytflcdbfcipkhkaa
open Go.Av

theorem rfetch_pure (s : Seg) (off most : Int) (hs : okB s.ls) : Pure Try.prog 51 [s.sv, .int .i64 off, .int .i64 most] (.own 6 (BL (fetL off most s.ls []))) := by
  have e1 := RsB_111
  have e2 := RsB_112
  have hR := RsB_ok
  generalize RsB = R at hR e1 e2
  refine pure_go hR Try.func51 Try.ntmps51 comp51 cres51 (by decide) (by simp) ?_
  obtain ⟨ba, l⟩ := s
  simp only at hs
  have hl : l.length ≤ 1000 := hs.1
  simp [ac51, ar51, Seg.sv, Seg.cells]
  refine awpR_loop (α := Nat × List Bat) (fun p => p.1 ≤ l.length ∧ p.2.length ≤ p.1 ∧ fetL off most l [] = fetL off most (l.drop p.1) p.2) (fun p => { n := 41, sl := [(1, .sv (.int .i64 off)), (2, .sv (.int .i64 most)), (3, .lptr 3 0), (7, .own 6 (BL p.2)), (8, .sv (.int .i64 p.1))], bx := [(3, [.sv (.int .i64 ba), .sv (.sl 6 (BL l))])], hp := fun _ => none })
    (fun p => l.length - p.1) (0, []) ⟨by simp, by simp, by simp⟩ (by simp [BL]) ?_
  rintro ⟨i, acc⟩ ⟨hi, hac, ha⟩
  simp only at hi hac ha ⊢
  by_cases h : i < l.length
  · have hlt : (i : Int) < l.length := by omega
    have hw := wrap_succ h (show l.length < 4611686018427387904 by omega)
    have hg := BL_get l h
    have hge : (BL l)[i]'(by simpa using h) = (l.getD i bat0).sv := by rw [← hg, List.getElem?_eq_getElem]; rfl
    obtain ⟨ho, hr⟩ := okB_get hs h
    rw [fetL_drop off most l acc h] at ha
    generalize l.getD i bat0 = x at *
    have e1 := e1 x
    have e2 := e2 x off
    by_cases hm : most ≤ acc.length
    · have hm' : ¬ (acc.length : Int) < most := by omega
      rw [if_pos hm] at ha
      rw [ha]
      simp [hlt, h, hg, hge, Bat.sv, Bat.cells, hm, hm', hw]
    · have hm' : (acc.length : Int) < most := by omega
      rw [if_neg hm] at ha
      by_cases hn : nxB x ≤ off
      · have hn' : ¬ off < nxB x := by omega
        rw [if_pos hn] at ha
        simp [hlt, h, hg, hge, Bat.sv, Bat.cells, hm, hm', hw, e1, hn, hn']
        refine ⟨i + 1, acc, ⟨by omega, by omega, ha⟩, by omega, rfl, by omega⟩
      · have hn' : off < nxB x := by omega
        rw [if_neg hn] at ha
        simp [hlt, h, hg, hge, Bat.sv, Bat.cells, hm, hm', hw, e1, e2, hn, hn', hr]
        refine ⟨by omega, i + 1, acc ++ [fromB x off], ⟨by omega, by simp; omega, ha⟩, by omega, ?_, by omega⟩
        simp [BL_snoc, fromB, Bat.sv, Bat.cells]
  · obtain rfl : i = l.length := by omega
    have hlt : ¬ ((l.length : Nat) : Int) < l.length := by omega
    rw [List.drop_length, fetL] at ha
    rw [ha]
    simp [hlt]
end Go.Proofs.Ytflcdbfcipkhkaa

set_option maxRecDepth 100000
namespace Go.Proofs.Ytflcdbfcipkhkaa
open Go.Av
/-- bilander/bilanderlaw14.SegmentFetches -/
def ac9 : AC :=
 (.seq
  (.reg [⟨(some 3), none, .box 2 (.t 0)⟩,
    ⟨(some 6), none, .mv (.c (.bool false))⟩])
  (.seq
   (.seq
    (.reg [⟨(some 7), none, .load (some 2) (.t 3)⟩,
      ⟨(some 8), none, .call 46 [(.t 7)]⟩,
      ⟨(some 9), none, .una .not (.t 8)⟩,
      ⟨(some 10), none, .take 9⟩,
      ⟨(some 11), (some (10, false)), .load (some 2) (.t 3)⟩,
      ⟨(some 12), (some (10, false)), .call 47 [(.t 11)]⟩,
      ⟨(some 13), (some (10, false)), .bin .neq (.t 12) (.c (.int .i64 0))⟩,
      ⟨(some 14), none, .pick (.t 10) (.c (.bool true)) (.t 13)⟩])
    (.cond (.t 14)
     (.seq
      (.reg [⟨(some 15), none, .call 48 []⟩,
        ⟨(some 6), none, .take 15⟩])
      .ret)
     .skip))
   (.seq
    (.dreg [] [⟨(some 16), none, .load (some 2) (.t 3)⟩,
      ⟨(some 17), none, .mv (.t 1)⟩,
      ⟨(some 18), none, .mv (.t 2)⟩,
      ⟨(some 19), none, .call 50 [(.t 16), (.t 17), (.t 18)]⟩,
      ⟨(some 20), none, .load (some 2) (.t 3)⟩,
      ⟨(some 21), none, .mv (.t 1)⟩,
      ⟨(some 22), none, .mv (.t 2)⟩,
      ⟨(some 23), none, .call 51 [(.t 20), (.t 21), (.t 22)]⟩,
      ⟨(some 24), none, .call 49 [(.t 19), (.t 23)]⟩,
      ⟨(some 25), none, .mv (.t 24)⟩,
      ⟨(some 26), (some (25, true)), .call 48 []⟩,
      ⟨(some 27), none, .pick (.t 25) (.t 26) (.c (.bool false))⟩,
      ⟨(some 6), none, .take 27⟩])
    .ret)))
def ar9 : List AR := [.t 6]
theorem comp9 : Try.f9.body.bind (comp Try.prog 28) = some ac9 := by kernel_rfl
theorem cres9 : compRes Try.prog Try.f9.results.toList = some ar9 := by kernel_rfl
/-- bilander/bilanderlaw14.SegmentLooks -/
def ac10 : AC :=
 (.seq
  (.reg [⟨(some 3), none, .box 2 (.t 0)⟩,
    ⟨(some 6), none, .mv (.c (.bool false))⟩])
  (.seq
   (.seq
    (.reg [⟨(some 19), none, .load (some 2) (.t 3)⟩,
      ⟨(some 20), none, .call 46 [(.t 19)]⟩,
      ⟨(some 21), none, .una .not (.t 20)⟩,
      ⟨(some 22), none, .take 21⟩,
      ⟨(some 23), (some (22, false)), .load (some 2) (.t 3)⟩,
      ⟨(some 24), (some (22, false)), .call 47 [(.t 23)]⟩,
      ⟨(some 25), (some (22, false)), .bin .neq (.t 24) (.c (.int .i64 0))⟩,
      ⟨(some 26), none, .pick (.t 22) (.c (.bool true)) (.t 25)⟩])
    (.cond (.t 26)
     (.seq
      (.reg [⟨(some 27), none, .call 48 []⟩,
        ⟨(some 6), none, .take 27⟩])
      .ret)
     .skip))
   (.seq
    (.reg [⟨(some 28), none, .load (some 2) (.t 3)⟩,
      ⟨(some 7), none, .alloc [(.int .i64 0), .nils]⟩,
      ⟨none, none, .store 2 (.t 7) (.t 28)⟩])
    (.seq
     (.reg [⟨(some 30), none, .load (some 2) (.t 7)⟩,
       ⟨(some 31), none, .mv (.t 1)⟩,
       ⟨(some 32), none, .call 52 [(.t 30), (.t 31)]⟩,
       ⟨(some 29), none, .take 32⟩,
       ⟨(some 33), none, .ext 29 0⟩,
       ⟨(some 34), none, .ext 29 1⟩,
       ⟨(some 8), none, .take 33⟩,
       ⟨(some 9), none, .take 34⟩])
     (.seq
      (.reg [⟨(some 36), none, .load (some 2) (.t 3)⟩,
        ⟨(some 37), none, .mv (.t 1)⟩,
        ⟨(some 38), none, .call 53 [(.t 36), (.t 37)]⟩,
        ⟨(some 35), none, .take 38⟩,
        ⟨(some 39), none, .ext 35 0⟩,
        ⟨(some 40), none, .ext 35 1⟩,
        ⟨(some 10), none, .take 39⟩,
        ⟨(some 11), none, .take 40⟩])
      (.seq
       (.dreg [] [⟨(some 41), none, .load (some 2) (.t 7)⟩,
         ⟨(some 42), none, .call 54 [(.t 41)]⟩,
         ⟨(some 43), none, .load (some 2) (.t 3)⟩,
         ⟨(some 44), none, .call 55 [(.t 43)]⟩,
         ⟨(some 12), none, .take 42⟩,
         ⟨(some 13), none, .take 44⟩])
       (.seq
        (.seq
         (.dreg [] [⟨(some 45), none, .mv (.t 8)⟩,
           ⟨(some 46), none, .mv (.t 10)⟩,
           ⟨(some 47), none, .bin .neq (.t 45) (.t 46)⟩,
           ⟨(some 48), none, .mv (.t 47)⟩,
           ⟨(some 49), (some (48, false)), .mv (.t 9)⟩,
           ⟨(some 50), (some (48, false)), .mv (.t 11)⟩,
           ⟨(some 51), (some (48, false)), .beq true (.t 49) (.t 50)⟩,
           ⟨(some 52), none, .pick (.t 48) (.c (.bool true)) (.t 51)⟩,
           ⟨(some 53), none, .mv (.t 52)⟩,
           ⟨(some 54), (some (53, false)), .load (some 2) (.t 7)⟩,
           ⟨(some 55), (some (53, false)), .call 56 [(.t 54)]⟩,
           ⟨(some 56), (some (53, false)), .load (some 2) (.t 3)⟩,
           ⟨(some 57), (some (53, false)), .call 57 [(.t 56)]⟩,
           ⟨(some 58), (some (53, false)), .bin .neq (.t 55) (.t 57)⟩,
           ⟨(some 59), none, .pick (.t 53) (.c (.bool true)) (.t 58)⟩,
           ⟨(some 60), none, .mv (.t 59)⟩,
           ⟨(some 61), (some (60, false)), .load (some 2) (.t 7)⟩,
           ⟨(some 62), (some (60, false)), .call 58 [(.t 61)]⟩,
           ⟨(some 63), (some (60, false)), .load (some 2) (.t 3)⟩,
           ⟨(some 64), (some (60, false)), .call 59 [(.t 63)]⟩,
           ⟨(some 65), (some (60, false)), .bin .neq (.t 62) (.t 64)⟩,
           ⟨(some 66), none, .pick (.t 60) (.c (.bool true)) (.t 65)⟩,
           ⟨(some 67), none, .mv (.t 66)⟩,
           ⟨(some 68), (some (67, false)), .mv (.t 12)⟩,
           ⟨(some 69), (some (67, false)), .len false (.t 68)⟩,
           ⟨(some 70), (some (67, false)), .mv (.t 13)⟩,
           ⟨(some 71), (some (67, false)), .len false (.t 70)⟩,
           ⟨(some 72), (some (67, false)), .bin .neq (.t 69) (.t 71)⟩,
           ⟨(some 73), none, .pick (.t 67) (.c (.bool true)) (.t 72)⟩])
         (.cond (.t 73)
          (.seq
           (.reg [⟨(some 6), none, .mv (.c (.bool false))⟩])
           .ret)
          .skip))
        (.seq
         (.seq
          (.reg [⟨(some 14), none, .mv (.c (.int .i64 0))⟩])
          (.block 0
           (.loop
            (.seq
             (.seq
              (.reg [⟨(some 74), none, .mv (.t 14)⟩,
                ⟨(some 75), none, .mv (.t 12)⟩,
                ⟨(some 76), none, .len false (.t 75)⟩,
                ⟨(some 77), none, .bin .lss (.t 74) (.t 76)⟩])
              (.cond (.t 77)
               .skip
               (.exit 0)))
             (.seq
              (.block 1
               (.seq
                (.dreg [] [⟨(some 80), none, .mv (.t 12)⟩,
                  ⟨(some 81), none, .mv (.t 14)⟩,
                  ⟨(some 82), none, .iaddr 1 (.t 80) (.t 81)⟩,
                  ⟨(some 83), none, .load none (.t 82)⟩,
                  ⟨(some 84), none, .mv (.t 13)⟩,
                  ⟨(some 85), none, .mv (.t 14)⟩,
                  ⟨(some 86), none, .iaddr 1 (.t 84) (.t 85)⟩,
                  ⟨(some 87), none, .load none (.t 86)⟩,
                  ⟨(some 88), none, .bin .neq (.t 83) (.t 87)⟩])
                (.cond (.t 88)
                 (.seq
                  (.reg [⟨(some 6), none, .mv (.c (.bool false))⟩])
                  .ret)
                 .skip)))
              (.reg [⟨(some 78), none, .take 14⟩,
                ⟨(some 79), none, .bin .add (.t 78) (.c (.int .i64 1))⟩,
                ⟨(some 14), none, .take 79⟩]))))))
         (.seq
          (.seq
           (.reg [⟨(some 15), none, .mv (.c (.int .i64 0))⟩])
           (.block 2
            (.loop
             (.seq
              (.seq
               (.reg [⟨(some 89), none, .mv (.t 15)⟩,
                 ⟨(some 90), none, .faddr (.t 3) 1⟩,
                 ⟨(some 91), none, .load none (.t 90)⟩,
                 ⟨(some 92), none, .len false (.t 91)⟩,
                 ⟨(some 93), none, .bin .lss (.t 89) (.t 92)⟩])
               (.cond (.t 93)
                .skip
                (.exit 2)))
              (.seq
               (.block 3
                (.seq
                 (.dreg [] [⟨(some 96), none, .faddr (.t 3) 1⟩,
                   ⟨(some 97), none, .load none (.t 96)⟩,
                   ⟨(some 98), none, .mv (.t 15)⟩,
                   ⟨(some 99), none, .iaddr 6 (.t 97) (.t 98)⟩,
                   ⟨(some 100), none, .load (some 6) (.t 99)⟩,
                   ⟨(some 101), none, .call 60 [(.t 100)]⟩,
                   ⟨(some 102), none, .faddr (.t 3) 1⟩,
                   ⟨(some 103), none, .load none (.t 102)⟩,
                   ⟨(some 104), none, .mv (.t 15)⟩,
                   ⟨(some 105), none, .iaddr 6 (.t 103) (.t 104)⟩,
                   ⟨(some 106), none, .load (some 6) (.t 105)⟩,
                   ⟨(some 107), none, .call 61 [(.t 106)]⟩,
                   ⟨(some 108), none, .bin .neq (.t 101) (.t 107)⟩])
                 (.cond (.t 108)
                  (.seq
                   (.reg [⟨(some 6), none, .mv (.c (.bool false))⟩])
                   .ret)
                  .skip)))
               (.reg [⟨(some 94), none, .take 15⟩,
                 ⟨(some 95), none, .bin .add (.t 94) (.c (.int .i64 1))⟩,
                 ⟨(some 15), none, .take 95⟩]))))))
          (.seq
           (.dreg [] [⟨(some 109), none, .load (some 2) (.t 7)⟩,
             ⟨(some 110), none, .mv (.t 2)⟩,
             ⟨(some 111), none, .call 62 [(.t 109), (.t 110)]⟩,
             ⟨(some 112), none, .load (some 2) (.t 3)⟩,
             ⟨(some 113), none, .mv (.t 2)⟩,
             ⟨(some 114), none, .call 63 [(.t 112), (.t 113)]⟩,
             ⟨(some 16), none, .alloc [(.int .i64 0), (.int .i64 0), .nils]⟩,
             ⟨(some 17), none, .alloc [(.int .i64 0), (.int .i64 0), .nils]⟩,
             ⟨none, none, .store 3 (.t 16) (.t 111)⟩,
             ⟨none, none, .store 3 (.t 17) (.t 114)⟩])
           (.seq
            (.seq
             (.reg [⟨(some 115), none, .faddr (.t 16) 0⟩,
               ⟨(some 116), none, .load none (.t 115)⟩,
               ⟨(some 117), none, .faddr (.t 17) 0⟩,
               ⟨(some 118), none, .load none (.t 117)⟩,
               ⟨(some 119), none, .bin .neq (.t 116) (.t 118)⟩,
               ⟨(some 120), none, .take 119⟩,
               ⟨(some 121), (some (120, false)), .faddr (.t 16) 1⟩,
               ⟨(some 122), (some (120, false)), .load none (.t 121)⟩,
               ⟨(some 123), (some (120, false)), .faddr (.t 17) 1⟩,
               ⟨(some 124), (some (120, false)), .load none (.t 123)⟩,
               ⟨(some 125), (some (120, false)), .bin .neq (.t 122) (.t 124)⟩,
               ⟨(some 126), none, .pick (.t 120) (.c (.bool true)) (.t 125)⟩,
               ⟨(some 127), none, .take 126⟩,
               ⟨(some 128), (some (127, false)), .faddr (.t 16) 2⟩,
               ⟨(some 129), (some (127, false)), .load none (.t 128)⟩,
               ⟨(some 130), (some (127, false)), .len false (.t 129)⟩,
               ⟨(some 131), (some (127, false)), .faddr (.t 17) 2⟩,
               ⟨(some 132), (some (127, false)), .load none (.t 131)⟩,
               ⟨(some 133), (some (127, false)), .len false (.t 132)⟩,
               ⟨(some 134), (some (127, false)), .bin .neq (.t 130) (.t 133)⟩,
               ⟨(some 135), none, .pick (.t 127) (.c (.bool true)) (.t 134)⟩])
             (.cond (.t 135)
              (.seq
               (.reg [⟨(some 6), none, .mv (.c (.bool false))⟩])
               .ret)
              .skip))
            (.seq
             (.seq
              (.reg [⟨(some 18), none, .mv (.c (.int .i64 0))⟩])
              (.block 4
               (.loop
                (.seq
                 (.seq
                  (.reg [⟨(some 136), none, .mv (.t 18)⟩,
                    ⟨(some 137), none, .faddr (.t 16) 2⟩,
                    ⟨(some 138), none, .load none (.t 137)⟩,
                    ⟨(some 139), none, .len false (.t 138)⟩,
                    ⟨(some 140), none, .bin .lss (.t 136) (.t 139)⟩])
                  (.cond (.t 140)
                   .skip
                   (.exit 4)))
                 (.seq
                  (.block 5
                   (.seq
                    (.dreg [] [⟨(some 143), none, .faddr (.t 16) 2⟩,
                      ⟨(some 144), none, .load none (.t 143)⟩,
                      ⟨(some 145), none, .mv (.t 18)⟩,
                      ⟨(some 146), none, .iaddr 3 (.t 144) (.t 145)⟩,
                      ⟨(some 147), none, .load (some 3) (.t 146)⟩,
                      ⟨(some 148), none, .faddr (.t 17) 2⟩,
                      ⟨(some 149), none, .load none (.t 148)⟩,
                      ⟨(some 150), none, .mv (.t 18)⟩,
                      ⟨(some 151), none, .iaddr 3 (.t 149) (.t 150)⟩,
                      ⟨(some 152), none, .load (some 3) (.t 151)⟩,
                      ⟨(some 153), none, .eqs [1, 1, 1] true (.t 147) (.t 152)⟩])
                    (.cond (.t 153)
                     (.seq
                      (.reg [⟨(some 6), none, .mv (.c (.bool false))⟩])
                      .ret)
                     .skip)))
                  (.reg [⟨(some 141), none, .take 18⟩,
                    ⟨(some 142), none, .bin .add (.t 141) (.c (.int .i64 1))⟩,
                    ⟨(some 18), none, .take 142⟩]))))))
             (.seq
              (.reg [⟨(some 154), none, .call 48 []⟩,
                ⟨(some 6), none, .take 154⟩])
              .ret)))))))))))))
def ar10 : List AR := [.t 6]
theorem comp10 : Try.f10.body.bind (comp Try.prog 155) = some ac10 := by kernel_rfl
theorem cres10 : compRes Try.prog Try.f10.results.toList = some ar10 := by kernel_rfl
/-- bilander/bilanderlaw14.SegmentMay -/
def ac11 : AC :=
 (.seq
  (.reg [⟨(some 2), none, .box 2 (.t 0)⟩,
    ⟨(some 3), none, .box 6 (.t 1)⟩,
    ⟨(some 4), none, .mv (.c (.bool false))⟩])
  (.seq
   (.reg [⟨(some 9), none, .load (some 2) (.t 2)⟩,
     ⟨(some 5), none, .alloc [(.int .i64 0), .nils]⟩,
     ⟨none, none, .store 2 (.t 5) (.t 9)⟩])
   (.seq
    (.seq
     (.reg [⟨(some 10), none, .load (some 2) (.t 2)⟩,
       ⟨(some 11), none, .call 46 [(.t 10)]⟩,
       ⟨(some 12), none, .una .not (.t 11)⟩,
       ⟨(some 13), none, .take 12⟩,
       ⟨(some 14), (some (13, false)), .load (some 6) (.t 3)⟩,
       ⟨(some 15), (some (13, false)), .call 64 [(.t 14)]⟩,
       ⟨(some 16), (some (13, false)), .una .not (.t 15)⟩,
       ⟨(some 17), none, .pick (.t 13) (.c (.bool true)) (.t 16)⟩,
       ⟨(some 18), none, .take 17⟩,
       ⟨(some 19), (some (18, false)), .load (some 2) (.t 5)⟩,
       ⟨(some 20), (some (18, false)), .call 65 [(.t 19)]⟩,
       ⟨(some 21), (some (18, false)), .bin .neq (.t 20) (.c (.int .i64 0))⟩,
       ⟨(some 22), none, .pick (.t 18) (.c (.bool true)) (.t 21)⟩])
     (.cond (.t 22)
      (.seq
       (.reg [⟨(some 23), none, .call 48 []⟩,
         ⟨(some 4), none, .take 23⟩])
       .ret)
      .skip))
    (.seq
     (.reg [⟨(some 25), none, .load (some 2) (.t 5)⟩,
       ⟨(some 26), none, .load (some 6) (.t 3)⟩,
       ⟨(some 27), none, .call 66 [(.t 25), (.t 26)]⟩,
       ⟨(some 24), none, .take 27⟩,
       ⟨(some 28), none, .extS 24 0⟩,
       ⟨(some 29), none, .ext 24 1⟩,
       ⟨(some 6), none, .alloc [(.int .i64 0), .nils]⟩,
       ⟨none, none, .store 2 (.t 6) (.t 28)⟩,
       ⟨(some 7), none, .take 29⟩])
     (.seq
      (.seq
       (.reg [⟨(some 30), none, .mv (.t 7)⟩,
         ⟨(some 31), none, .bin .neq (.t 30) (.c (.int .i64 0))⟩])
       (.cond (.t 31)
        (.seq
         (.dreg [] [⟨(some 32), none, .load (some 6) (.t 3)⟩,
           ⟨(some 33), none, .call 67 [(.t 32)]⟩,
           ⟨(some 34), none, .mv (.t 7)⟩,
           ⟨(some 35), none, .bin .eql (.t 33) (.t 34)⟩,
           ⟨(some 36), none, .mv (.t 35)⟩,
           ⟨(some 37), (some (36, false)), .mv (.t 7)⟩,
           ⟨(some 38), (some (36, false)), .bin .eql (.t 37) (.c (.int .i64 16))⟩,
           ⟨(some 39), (some (36, false)), .mv (.t 38)⟩,
           ⟨(some 40), (some (39, true)), .faddr (.t 3) 0⟩,
           ⟨(some 41), (some (39, true)), .load none (.t 40)⟩,
           ⟨(some 42), (some (39, true)), .load (some 2) (.t 5)⟩,
           ⟨(some 43), (some (39, true)), .call 68 [(.t 42)]⟩,
           ⟨(some 44), (some (39, true)), .bin .lss (.t 41) (.t 43)⟩,
           ⟨(some 45), (some (36, false)), .pick (.t 39) (.t 44) (.c (.bool false))⟩,
           ⟨(some 46), none, .pick (.t 36) (.c (.bool true)) (.t 45)⟩,
           ⟨(some 47), none, .mv (.t 46)⟩,
           ⟨(some 48), (some (47, true)), .call 48 []⟩,
           ⟨(some 49), none, .pick (.t 47) (.t 48) (.c (.bool false))⟩,
           ⟨(some 4), none, .take 49⟩])
         .ret)
        .skip))
      (.seq
       (.reg [⟨(some 50), none, .faddr (.t 6) 1⟩,
         ⟨(some 51), none, .load none (.t 50)⟩,
         ⟨(some 52), none, .len false (.t 51)⟩,
         ⟨(some 8), none, .take 52⟩])
       (.seq
        (.dreg [] [⟨(some 53), none, .load (some 2) (.t 6)⟩,
          ⟨(some 54), none, .call 65 [(.t 53)]⟩,
          ⟨(some 55), none, .bin .eql (.t 54) (.c (.int .i64 0))⟩,
          ⟨(some 56), none, .mv (.t 55)⟩,
          ⟨(some 57), (some (56, true)), .mv (.t 8)⟩,
          ⟨(some 58), (some (56, true)), .faddr (.t 2) 1⟩,
          ⟨(some 59), (some (56, true)), .load none (.t 58)⟩,
          ⟨(some 60), (some (56, true)), .len false (.t 59)⟩,
          ⟨(some 61), (some (56, true)), .bin .add (.t 60) (.c (.int .i64 1))⟩,
          ⟨(some 62), (some (56, true)), .bin .eql (.t 57) (.t 61)⟩,
          ⟨(some 63), none, .pick (.t 56) (.t 62) (.c (.bool false))⟩,
          ⟨(some 64), none, .mv (.t 63)⟩,
          ⟨(some 65), (some (64, true)), .faddr (.t 6) 1⟩,
          ⟨(some 66), (some (64, true)), .load none (.t 65)⟩,
          ⟨(some 67), (some (64, true)), .mv (.t 8)⟩,
          ⟨(some 68), (some (64, true)), .bin .sub (.t 67) (.c (.int .i64 1))⟩,
          ⟨(some 69), (some (64, true)), .iaddr 6 (.t 66) (.t 68)⟩,
          ⟨(some 70), (some (64, true)), .load (some 6) (.t 69)⟩,
          ⟨(some 71), (some (64, true)), .load (some 6) (.t 3)⟩,
          ⟨(some 72), (some (64, true)), .call 69 [(.t 70), (.t 71)]⟩,
          ⟨(some 73), none, .pick (.t 64) (.t 72) (.c (.bool false))⟩,
          ⟨(some 74), none, .mv (.t 73)⟩,
          ⟨(some 75), (some (74, true)), .load (some 2) (.t 6)⟩,
          ⟨(some 76), (some (74, true)), .call 68 [(.t 75)]⟩,
          ⟨(some 77), (some (74, true)), .load (some 6) (.t 3)⟩,
          ⟨(some 78), (some (74, true)), .call 70 [(.t 77)]⟩,
          ⟨(some 79), (some (74, true)), .bin .eql (.t 76) (.t 78)⟩,
          ⟨(some 80), none, .pick (.t 74) (.t 79) (.c (.bool false))⟩,
          ⟨(some 81), none, .mv (.t 80)⟩,
          ⟨(some 82), (some (81, true)), .load (some 2) (.t 6)⟩,
          ⟨(some 83), (some (81, true)), .load (some 2) (.t 6)⟩,
          ⟨(some 84), (some (81, true)), .call 68 [(.t 83)]⟩,
          ⟨(some 85), (some (81, true)), .call 50 [(.t 82), (.t 84), (.c (.int .i64 99))]⟩,
          ⟨(some 86), (some (81, true)), .len false (.t 85)⟩,
          ⟨(some 87), (some (81, true)), .bin .eql (.t 86) (.c (.int .i64 0))⟩,
          ⟨(some 88), none, .pick (.t 81) (.t 87) (.c (.bool false))⟩,
          ⟨(some 89), none, .mv (.t 88)⟩,
          ⟨(some 90), (some (89, true)), .call 48 []⟩,
          ⟨(some 91), none, .pick (.t 89) (.t 90) (.c (.bool false))⟩,
          ⟨(some 4), none, .take 91⟩])
        .ret)))))))
def ar11 : List AR := [.t 4]
theorem comp11 : Try.f11.body.bind (comp Try.prog 92) = some ac11 := by kernel_rfl
theorem cres11 : compRes Try.prog Try.f11.results.toList = some ar11 := by kernel_rfl
/-- bilander/bilanderlaw14.SegmentAll -/
def ac12 : AC :=
 (.seq
  (.reg [⟨(some 1), none, .box 2 (.t 0)⟩,
    ⟨(some 2), none, .mv (.c (.bool false))⟩])
  (.seq
   (.reg [⟨(some 7), none, .load (some 2) (.t 1)⟩,
     ⟨(some 3), none, .alloc [(.int .i64 0), .nils]⟩,
     ⟨none, none, .store 2 (.t 3) (.t 7)⟩])
   (.seq
    (.seq
     (.reg [⟨(some 8), none, .load (some 2) (.t 1)⟩,
       ⟨(some 9), none, .call 46 [(.t 8)]⟩,
       ⟨(some 10), none, .una .not (.t 9)⟩,
       ⟨(some 11), none, .take 10⟩,
       ⟨(some 12), (some (11, false)), .load (some 2) (.t 3)⟩,
       ⟨(some 13), (some (11, false)), .call 65 [(.t 12)]⟩,
       ⟨(some 14), (some (11, false)), .bin .neq (.t 13) (.c (.int .i64 0))⟩,
       ⟨(some 15), none, .pick (.t 11) (.c (.bool true)) (.t 14)⟩])
     (.cond (.t 15)
      (.seq
       (.reg [⟨(some 16), none, .call 48 []⟩,
         ⟨(some 2), none, .take 16⟩])
       .ret)
      .skip))
    (.seq
     (.reg [⟨(some 17), none, .faddr (.t 1) 0⟩,
       ⟨(some 18), none, .load none (.t 17)⟩,
       ⟨(some 4), none, .take 18⟩])
     (.seq
      (.seq
       (.reg [⟨(some 5), none, .mv (.c (.int .i64 0))⟩])
       (.block 0
        (.loop
         (.seq
          (.seq
           (.reg [⟨(some 19), none, .mv (.t 5)⟩,
             ⟨(some 20), none, .faddr (.t 1) 1⟩,
             ⟨(some 21), none, .load none (.t 20)⟩,
             ⟨(some 22), none, .len false (.t 21)⟩,
             ⟨(some 23), none, .bin .lss (.t 19) (.t 22)⟩])
           (.cond (.t 23)
            .skip
            (.exit 0)))
          (.seq
           (.block 1
            (.seq
             (.reg [⟨(some 26), none, .load (some 2) (.t 3)⟩,
               ⟨(some 27), none, .mv (.t 4)⟩,
               ⟨(some 28), none, .call 50 [(.t 26), (.t 27), (.c (.int .i64 1))]⟩,
               ⟨(some 6), none, .take 28⟩])
             (.seq
              (.seq
               (.dreg [] [⟨(some 29), none, .mv (.t 6)⟩,
                 ⟨(some 30), none, .len false (.t 29)⟩,
                 ⟨(some 31), none, .bin .neq (.t 30) (.c (.int .i64 1))⟩,
                 ⟨(some 32), none, .mv (.t 31)⟩,
                 ⟨(some 33), (some (32, false)), .mv (.t 6)⟩,
                 ⟨(some 34), (some (32, false)), .iaddr 6 (.t 33) (.c (.int .i64 0))⟩,
                 ⟨(some 35), (some (32, false)), .load (some 6) (.t 34)⟩,
                 ⟨(some 36), (some (32, false)), .faddr (.t 1) 1⟩,
                 ⟨(some 37), (some (32, false)), .load none (.t 36)⟩,
                 ⟨(some 38), (some (32, false)), .mv (.t 5)⟩,
                 ⟨(some 39), (some (32, false)), .iaddr 6 (.t 37) (.t 38)⟩,
                 ⟨(some 40), (some (32, false)), .load (some 6) (.t 39)⟩,
                 ⟨(some 41), (some (32, false)), .call 69 [(.t 35), (.t 40)]⟩,
                 ⟨(some 42), (some (32, false)), .una .not (.t 41)⟩,
                 ⟨(some 43), none, .pick (.t 32) (.c (.bool true)) (.t 42)⟩])
               (.cond (.t 43)
                (.seq
                 (.reg [⟨(some 2), none, .mv (.c (.bool false))⟩])
                 .ret)
                .skip))
              (.reg [⟨(some 44), none, .mv (.t 6)⟩,
                ⟨(some 45), none, .iaddr 6 (.t 44) (.c (.int .i64 0))⟩,
                ⟨(some 46), none, .load (some 6) (.t 45)⟩,
                ⟨(some 47), none, .call 70 [(.t 46)]⟩,
                ⟨(some 4), none, .take 47⟩]))))
           (.reg [⟨(some 24), none, .take 5⟩,
             ⟨(some 25), none, .bin .add (.t 24) (.c (.int .i64 1))⟩,
             ⟨(some 5), none, .take 25⟩]))))))
      (.seq
       (.dreg [] [⟨(some 48), none, .load (some 2) (.t 3)⟩,
         ⟨(some 49), none, .mv (.t 4)⟩,
         ⟨(some 50), none, .call 50 [(.t 48), (.t 49), (.c (.int .i64 1))]⟩,
         ⟨(some 51), none, .len false (.t 50)⟩,
         ⟨(some 52), none, .bin .eql (.t 51) (.c (.int .i64 0))⟩,
         ⟨(some 53), none, .mv (.t 52)⟩,
         ⟨(some 54), (some (53, true)), .load (some 2) (.t 3)⟩,
         ⟨(some 55), (some (53, true)), .faddr (.t 1) 0⟩,
         ⟨(some 56), (some (53, true)), .load none (.t 55)⟩,
         ⟨(some 57), (some (53, true)), .call 50 [(.t 54), (.t 56), (.c (.int .i64 99))]⟩,
         ⟨(some 58), (some (53, true)), .len false (.t 57)⟩,
         ⟨(some 59), (some (53, true)), .faddr (.t 1) 1⟩,
         ⟨(some 60), (some (53, true)), .load none (.t 59)⟩,
         ⟨(some 61), (some (53, true)), .len false (.t 60)⟩,
         ⟨(some 62), (some (53, true)), .bin .eql (.t 58) (.t 61)⟩,
         ⟨(some 63), none, .pick (.t 53) (.t 62) (.c (.bool false))⟩,
         ⟨(some 64), none, .mv (.t 63)⟩,
         ⟨(some 65), (some (64, true)), .call 48 []⟩,
         ⟨(some 66), none, .pick (.t 64) (.t 65) (.c (.bool false))⟩,
         ⟨(some 2), none, .take 66⟩])
       .ret))))))
def ar12 : List AR := [.t 2]
theorem comp12 : Try.f12.body.bind (comp Try.prog 67) = some ac12 := by kernel_rfl
theorem cres12 : compRes Try.prog Try.f12.results.toList = some ar12 := by kernel_rfl
/-- bilander/bilanderlaw14.SegmentTimes -/
def ac13 : AC :=
 (.seq
  (.reg [⟨(some 2), none, .box 2 (.t 0)⟩,
    ⟨(some 4), none, .mv (.c (.bool false))⟩])
  (.seq
   (.reg [⟨(some 13), none, .load (some 2) (.t 2)⟩,
     ⟨(some 5), none, .alloc [(.int .i64 0), .nils]⟩,
     ⟨none, none, .store 2 (.t 5) (.t 13)⟩])
   (.seq
    (.seq
     (.reg [⟨(some 14), none, .load (some 2) (.t 2)⟩,
       ⟨(some 15), none, .call 46 [(.t 14)]⟩,
       ⟨(some 16), none, .una .not (.t 15)⟩,
       ⟨(some 17), none, .take 16⟩,
       ⟨(some 18), (some (17, false)), .load (some 2) (.t 5)⟩,
       ⟨(some 19), (some (17, false)), .call 65 [(.t 18)]⟩,
       ⟨(some 20), (some (17, false)), .bin .neq (.t 19) (.c (.int .i64 0))⟩,
       ⟨(some 21), none, .pick (.t 17) (.c (.bool true)) (.t 20)⟩])
     (.cond (.t 21)
      (.seq
       (.reg [⟨(some 22), none, .call 48 []⟩,
         ⟨(some 4), none, .take 22⟩])
       .ret)
      .skip))
    (.seq
     (.reg [⟨(some 24), none, .load (some 2) (.t 5)⟩,
       ⟨(some 25), none, .mv (.t 1)⟩,
       ⟨(some 26), none, .call 52 [(.t 24), (.t 25)]⟩,
       ⟨(some 23), none, .take 26⟩,
       ⟨(some 27), none, .ext 23 0⟩,
       ⟨(some 28), none, .ext 23 1⟩,
       ⟨(some 6), none, .take 27⟩,
       ⟨(some 7), none, .take 28⟩])
     (.seq
      (.reg [⟨(some 8), none, .mv (.c (.bool false))⟩])
      (.seq
       (.seq
        (.reg [⟨(some 9), none, .mv (.c (.int .i64 0))⟩])
        (.block 0
         (.loop
          (.seq
           (.seq
            (.reg [⟨(some 29), none, .mv (.t 9)⟩,
              ⟨(some 30), none, .faddr (.t 2) 1⟩,
              ⟨(some 31), none, .load none (.t 30)⟩,
              ⟨(some 32), none, .len false (.t 31)⟩,
              ⟨(some 33), none, .bin .lss (.t 29) (.t 32)⟩])
            (.cond (.t 33)
             .skip
             (.exit 0)))
           (.seq
            (.block 1
             (.seq
              (.reg [⟨(some 10), none, .mv (.c (.int .i64 0))⟩])
              (.block 2
               (.loop
                (.seq
                 (.seq
                  (.reg [⟨(some 36), none, .mv (.t 10)⟩,
                    ⟨(some 37), none, .faddr (.t 2) 1⟩,
                    ⟨(some 38), none, .load none (.t 37)⟩,
                    ⟨(some 39), none, .mv (.t 9)⟩,
                    ⟨(some 40), none, .iaddr 6 (.t 38) (.t 39)⟩,
                    ⟨(some 41), none, .faddr (.t 40) 5⟩,
                    ⟨(some 42), none, .load none (.t 41)⟩,
                    ⟨(some 43), none, .len false (.t 42)⟩,
                    ⟨(some 44), none, .bin .lss (.t 36) (.t 43)⟩])
                  (.cond (.t 44)
                   .skip
                   (.exit 2)))
                 (.seq
                  (.block 3
                   (.seq
                    (.reg [⟨(some 47), none, .faddr (.t 2) 1⟩,
                      ⟨(some 48), none, .load none (.t 47)⟩,
                      ⟨(some 49), none, .mv (.t 9)⟩,
                      ⟨(some 50), none, .iaddr 6 (.t 48) (.t 49)⟩,
                      ⟨(some 51), none, .faddr (.t 50) 5⟩,
                      ⟨(some 52), none, .load none (.t 51)⟩,
                      ⟨(some 53), none, .mv (.t 10)⟩,
                      ⟨(some 54), none, .iaddr 6 (.t 52) (.t 53)⟩,
                      ⟨(some 55), none, .load (some 6) (.t 54)⟩,
                      ⟨(some 11), none, .alloc [(.int .i64 0), (.int .i64 0), (.bool false), (.str (ByteArray.mk #[])), (.bool false), (.str (ByteArray.mk #[]))]⟩,
                      ⟨none, none, .store 6 (.t 11) (.t 55)⟩])
                    (.seq
                     (.dreg [] [⟨(some 56), none, .faddr (.t 2) 1⟩,
                       ⟨(some 57), none, .load none (.t 56)⟩,
                       ⟨(some 58), none, .mv (.t 9)⟩,
                       ⟨(some 59), none, .iaddr 6 (.t 57) (.t 58)⟩,
                       ⟨(some 60), none, .faddr (.t 59) 0⟩,
                       ⟨(some 61), none, .load none (.t 60)⟩,
                       ⟨(some 62), none, .faddr (.t 11) 0⟩,
                       ⟨(some 63), none, .load none (.t 62)⟩,
                       ⟨(some 64), none, .bin .add (.t 61) (.t 63)⟩,
                       ⟨(some 12), none, .take 64⟩])
                     (.seq
                      (.seq
                       (.reg [⟨(some 65), none, .faddr (.t 11) 1⟩,
                         ⟨(some 66), none, .load none (.t 65)⟩,
                         ⟨(some 67), none, .mv (.t 1)⟩,
                         ⟨(some 68), none, .bin .geq (.t 66) (.t 67)⟩,
                         ⟨(some 69), none, .take 68⟩,
                         ⟨(some 70), (some (69, true)), .mv (.t 7)⟩,
                         ⟨(some 71), (some (69, true)), .una .not (.t 70)⟩,
                         ⟨(some 72), (some (69, true)), .take 71⟩,
                         ⟨(some 73), (some (72, false)), .mv (.t 12)⟩,
                         ⟨(some 74), (some (72, false)), .mv (.t 6)⟩,
                         ⟨(some 75), (some (72, false)), .bin .lss (.t 73) (.t 74)⟩,
                         ⟨(some 76), (some (69, true)), .pick (.t 72) (.c (.bool true)) (.t 75)⟩,
                         ⟨(some 77), none, .pick (.t 69) (.t 76) (.c (.bool false))⟩])
                       (.cond (.t 77)
                        (.seq
                         (.reg [⟨(some 4), none, .mv (.c (.bool false))⟩])
                         .ret)
                        .skip))
                      (.reg [⟨(some 78), none, .take 8⟩,
                        ⟨(some 79), none, .take 78⟩,
                        ⟨(some 80), (some (79, false)), .mv (.t 7)⟩,
                        ⟨(some 81), (some (79, false)), .take 80⟩,
                        ⟨(some 82), (some (81, true)), .mv (.t 12)⟩,
                        ⟨(some 83), (some (81, true)), .mv (.t 6)⟩,
                        ⟨(some 84), (some (81, true)), .bin .eql (.t 82) (.t 83)⟩,
                        ⟨(some 85), (some (79, false)), .pick (.t 81) (.t 84) (.c (.bool false))⟩,
                        ⟨(some 86), (some (79, false)), .take 85⟩,
                        ⟨(some 87), (some (86, true)), .faddr (.t 11) 1⟩,
                        ⟨(some 88), (some (86, true)), .load none (.t 87)⟩,
                        ⟨(some 89), (some (86, true)), .mv (.t 1)⟩,
                        ⟨(some 90), (some (86, true)), .bin .geq (.t 88) (.t 89)⟩,
                        ⟨(some 91), (some (79, false)), .pick (.t 86) (.t 90) (.c (.bool false))⟩,
                        ⟨(some 92), none, .pick (.t 79) (.c (.bool true)) (.t 91)⟩,
                        ⟨(some 8), none, .take 92⟩])))))
                  (.reg [⟨(some 45), none, .take 10⟩,
                    ⟨(some 46), none, .bin .add (.t 45) (.c (.int .i64 1))⟩,
                    ⟨(some 10), none, .take 46⟩])))))))
            (.reg [⟨(some 34), none, .take 9⟩,
              ⟨(some 35), none, .bin .add (.t 34) (.c (.int .i64 1))⟩,
              ⟨(some 9), none, .take 35⟩]))))))
       (.seq
        (.reg [⟨(some 93), none, .mv (.t 8)⟩,
          ⟨(some 94), none, .mv (.t 7)⟩,
          ⟨(some 95), none, .beq false (.t 93) (.t 94)⟩,
          ⟨(some 96), none, .take 95⟩,
          ⟨(some 97), (some (96, true)), .mv (.t 1)⟩,
          ⟨(some 98), (some (96, true)), .bin .lss (.t 97) (.c (.int .i64 0))⟩,
          ⟨(some 99), (some (96, true)), .take 98⟩,
          ⟨(some 100), (some (99, false)), .mv (.t 7)⟩,
          ⟨(some 101), (some (99, false)), .load (some 2) (.t 5)⟩,
          ⟨(some 102), (some (99, false)), .call 56 [(.t 101)]⟩,
          ⟨(some 103), (some (99, false)), .mv (.t 1)⟩,
          ⟨(some 104), (some (99, false)), .bin .geq (.t 102) (.t 103)⟩,
          ⟨(some 105), (some (99, false)), .beq false (.t 100) (.t 104)⟩,
          ⟨(some 106), (some (96, true)), .pick (.t 99) (.c (.bool true)) (.t 105)⟩,
          ⟨(some 107), none, .pick (.t 96) (.t 106) (.c (.bool false))⟩,
          ⟨(some 108), none, .take 107⟩,
          ⟨(some 109), (some (108, true)), .call 48 []⟩,
          ⟨(some 110), none, .pick (.t 108) (.t 109) (.c (.bool false))⟩,
          ⟨(some 4), none, .take 110⟩])
        .ret)))))))
def ar13 : List AR := [.t 4]
theorem comp13 : Try.f13.body.bind (comp Try.prog 111) = some ac13 := by kernel_rfl
theorem cres13 : compRes Try.prog Try.f13.results.toList = some ar13 := by kernel_rfl
/-- bilander/bilanderlaw14.SegmentFew -/
def ac14 : AC :=
 (.seq
  (.reg [⟨(some 3), none, .box 2 (.t 0)⟩,
    ⟨(some 6), none, .mv (.c (.bool false))⟩])
  (.seq
   (.reg [⟨(some 12), none, .load (some 2) (.t 3)⟩,
     ⟨(some 7), none, .alloc [(.int .i64 0), .nils]⟩,
     ⟨none, none, .store 2 (.t 7) (.t 12)⟩])
   (.seq
    (.seq
     (.reg [⟨(some 13), none, .load (some 2) (.t 3)⟩,
       ⟨(some 14), none, .call 46 [(.t 13)]⟩,
       ⟨(some 15), none, .una .not (.t 14)⟩,
       ⟨(some 16), none, .take 15⟩,
       ⟨(some 17), (some (16, false)), .load (some 2) (.t 7)⟩,
       ⟨(some 18), (some (16, false)), .call 65 [(.t 17)]⟩,
       ⟨(some 19), (some (16, false)), .bin .neq (.t 18) (.c (.int .i64 0))⟩,
       ⟨(some 20), none, .pick (.t 16) (.c (.bool true)) (.t 19)⟩])
     (.cond (.t 20)
      (.seq
       (.reg [⟨(some 21), none, .call 48 []⟩,
         ⟨(some 6), none, .take 21⟩])
       .ret)
      .skip))
    (.seq
     (.reg [⟨(some 22), none, .mv (.t 2)⟩,
       ⟨(some 23), none, .bin .rem (.t 22) (.c (.int .u8 20))⟩,
       ⟨(some 24), none, .conv .i64 (.t 23)⟩,
       ⟨(some 8), none, .take 24⟩])
     (.seq
      (.dreg [] [⟨(some 25), none, .load (some 2) (.t 7)⟩,
        ⟨(some 26), none, .mv (.t 1)⟩,
        ⟨(some 27), none, .mv (.t 8)⟩,
        ⟨(some 28), none, .call 50 [(.t 25), (.t 26), (.t 27)]⟩,
        ⟨(some 29), none, .load (some 2) (.t 7)⟩,
        ⟨(some 30), none, .mv (.t 1)⟩,
        ⟨(some 31), none, .mv (.t 8)⟩,
        ⟨(some 32), none, .bin .add (.t 31) (.c (.int .i64 1))⟩,
        ⟨(some 33), none, .call 50 [(.t 29), (.t 30), (.t 32)]⟩,
        ⟨(some 9), none, .take 28⟩,
        ⟨(some 10), none, .take 33⟩])
      (.seq
       (.seq
        (.reg [⟨(some 34), none, .mv (.t 9)⟩,
          ⟨(some 35), none, .len false (.t 34)⟩,
          ⟨(some 36), none, .mv (.t 8)⟩,
          ⟨(some 37), none, .bin .gtr (.t 35) (.t 36)⟩,
          ⟨(some 38), none, .take 37⟩,
          ⟨(some 39), (some (38, false)), .mv (.t 10)⟩,
          ⟨(some 40), (some (38, false)), .len false (.t 39)⟩,
          ⟨(some 41), (some (38, false)), .mv (.t 8)⟩,
          ⟨(some 42), (some (38, false)), .bin .add (.t 41) (.c (.int .i64 1))⟩,
          ⟨(some 43), (some (38, false)), .bin .gtr (.t 40) (.t 42)⟩,
          ⟨(some 44), none, .pick (.t 38) (.c (.bool true)) (.t 43)⟩,
          ⟨(some 45), none, .take 44⟩,
          ⟨(some 46), (some (45, false)), .mv (.t 9)⟩,
          ⟨(some 47), (some (45, false)), .len false (.t 46)⟩,
          ⟨(some 48), (some (45, false)), .mv (.t 10)⟩,
          ⟨(some 49), (some (45, false)), .len false (.t 48)⟩,
          ⟨(some 50), (some (45, false)), .bin .gtr (.t 47) (.t 49)⟩,
          ⟨(some 51), none, .pick (.t 45) (.c (.bool true)) (.t 50)⟩,
          ⟨(some 52), none, .take 51⟩,
          ⟨(some 53), (some (52, false)), .mv (.t 9)⟩,
          ⟨(some 54), (some (52, false)), .mv (.t 10)⟩,
          ⟨(some 55), (some (52, false)), .mv (.t 9)⟩,
          ⟨(some 56), (some (52, false)), .len false (.t 55)⟩,
          ⟨(some 57), (some (52, false)), .slc false 6 (.t 54) none (some (.t 56))⟩,
          ⟨(some 58), (some (52, false)), .call 49 [(.t 53), (.t 57)]⟩,
          ⟨(some 59), (some (52, false)), .una .not (.t 58)⟩,
          ⟨(some 60), none, .pick (.t 52) (.c (.bool true)) (.t 59)⟩])
        (.cond (.t 60)
         (.seq
          (.reg [⟨(some 6), none, .mv (.c (.bool false))⟩])
          .ret)
         .skip))
       (.seq
        (.reg [⟨(some 61), none, .load (some 2) (.t 7)⟩,
          ⟨(some 62), none, .mv (.t 1)⟩,
          ⟨(some 63), none, .call 50 [(.t 61), (.t 62), (.c (.int .i64 99))]⟩,
          ⟨(some 11), none, .take 63⟩])
        (.seq
         (.reg [⟨(some 64), none, .mv (.t 9)⟩,
           ⟨(some 65), none, .len false (.t 64)⟩,
           ⟨(some 66), none, .mv (.t 8)⟩,
           ⟨(some 67), none, .mv (.t 11)⟩,
           ⟨(some 68), none, .len false (.t 67)⟩,
           ⟨(some 69), none, .minmax false (.t 66) (.t 68)⟩,
           ⟨(some 70), none, .bin .eql (.t 65) (.t 69)⟩,
           ⟨(some 71), none, .take 70⟩,
           ⟨(some 72), (some (71, true)), .mv (.t 10)⟩,
           ⟨(some 73), (some (71, true)), .len false (.t 72)⟩,
           ⟨(some 74), (some (71, true)), .mv (.t 8)⟩,
           ⟨(some 75), (some (71, true)), .bin .add (.t 74) (.c (.int .i64 1))⟩,
           ⟨(some 76), (some (71, true)), .mv (.t 11)⟩,
           ⟨(some 77), (some (71, true)), .len false (.t 76)⟩,
           ⟨(some 78), (some (71, true)), .minmax false (.t 75) (.t 77)⟩,
           ⟨(some 79), (some (71, true)), .bin .eql (.t 73) (.t 78)⟩,
           ⟨(some 80), none, .pick (.t 71) (.t 79) (.c (.bool false))⟩,
           ⟨(some 81), none, .take 80⟩,
           ⟨(some 82), (some (81, true)), .call 48 []⟩,
           ⟨(some 83), none, .pick (.t 81) (.t 82) (.c (.bool false))⟩,
           ⟨(some 6), none, .take 83⟩])
         .ret))))))))
def ar14 : List AR := [.t 6]
theorem comp14 : Try.f14.body.bind (comp Try.prog 84) = some ac14 := by kernel_rfl
theorem cres14 : compRes Try.prog Try.f14.results.toList = some ar14 := by kernel_rfl
/-- bilander/bilanderlaw14.awake -/
def ac48 : AC :=
 (.seq
  (.reg [⟨(some 0), none, .mv (.c (.bool false))⟩])
  (.seq
   (.reg [⟨(some 1), none, .alloc [(.int .i64 0), .nils]⟩])
   (.seq
    (.reg [⟨(some 13), none, .load (some 2) (.t 1)⟩,
      ⟨(some 14), none, .build [(.int .i64 0), (.int .i64 0), (.bool false), (.str (ByteArray.mk #[])), (.bool false), (.str (ByteArray.mk #[]))] [(1, 1, (.c (.int .i64 3))), (2, 1, (.c (.bool true))), (3, 1, (.c (.str (ByteArray.mk #[107]))))]⟩,
      ⟨(some 15), none, .bsl 6 1 [(.int .i64 0), (.int .i64 0), (.bool false), (.str (ByteArray.mk #[])), (.bool false), (.str (ByteArray.mk #[]))] [(0, (.t 14))]⟩,
      ⟨(some 16), none, .build [(.int .i64 0), (.int .i64 0), (.int .i64 0), (.int .i64 0), (.int .i64 0), .nils] [(0, 1, (.c (.int .i64 5))), (1, 1, (.c (.int .i64 2))), (5, 1, (.t 15))]⟩,
      ⟨(some 17), none, .call 66 [(.t 13), (.t 16)]⟩,
      ⟨(some 12), none, .take 17⟩,
      ⟨(some 18), none, .extS 12 0⟩,
      ⟨(some 19), none, .ext 12 1⟩,
      ⟨(some 2), none, .alloc [(.int .i64 0), .nils]⟩,
      ⟨none, none, .store 2 (.t 2) (.t 18)⟩,
      ⟨(some 3), none, .take 19⟩])
    (.seq
     (.reg [⟨(some 21), none, .load (some 2) (.t 2)⟩,
       ⟨(some 22), none, .build [(.int .i64 0), (.int .i64 0), (.int .i64 0), (.int .i64 0), (.int .i64 0), .nils] [(0, 1, (.c (.int .i64 9))), (1, 1, (.c (.int .i64 1)))]⟩,
       ⟨(some 23), none, .call 66 [(.t 21), (.t 22)]⟩,
       ⟨(some 20), none, .take 23⟩,
       ⟨(some 24), none, .extS 20 0⟩,
       ⟨(some 25), none, .ext 20 1⟩,
       ⟨(some 4), none, .alloc [(.int .i64 0), .nils]⟩,
       ⟨none, none, .store 2 (.t 4) (.t 24)⟩,
       ⟨(some 5), none, .take 25⟩])
     (.seq
      (.reg [⟨(some 27), none, .load (some 2) (.t 4)⟩,
        ⟨(some 28), none, .build [(.int .i64 0), (.int .i64 0), (.int .i64 0), (.int .i64 0), (.int .i64 0), .nils] [(0, 1, (.c (.int .i64 9))), (1, 1, (.c (.int .i64 1)))]⟩,
        ⟨(some 29), none, .call 66 [(.t 27), (.t 28)]⟩,
        ⟨(some 26), none, .take 29⟩,
        ⟨(some 30), none, .extS 26 0⟩,
        ⟨(some 31), none, .ext 26 1⟩,
        ⟨(some 6), none, .alloc [(.int .i64 0), .nils]⟩,
        ⟨none, none, .store 2 (.t 6) (.t 30)⟩,
        ⟨(some 7), none, .take 31⟩])
      (.seq
       (.reg [⟨(some 32), none, .load (some 2) (.t 4)⟩,
         ⟨(some 33), none, .call 50 [(.t 32), (.c (.int .i64 7)), (.c (.int .i64 1))]⟩,
         ⟨(some 8), none, .take 33⟩])
       (.seq
        (.reg [⟨(some 35), none, .load (some 2) (.t 4)⟩,
          ⟨(some 36), none, .call 52 [(.t 35), (.c (.int .i64 3))]⟩,
          ⟨(some 34), none, .take 36⟩,
          ⟨(some 37), none, .ext 34 0⟩,
          ⟨(some 38), none, .ext 34 1⟩,
          ⟨(some 9), none, .take 37⟩,
          ⟨(some 10), none, .take 38⟩])
        (.seq
         (.reg [⟨(some 39), none, .load (some 2) (.t 4)⟩,
           ⟨(some 40), none, .call 54 [(.t 39)]⟩,
           ⟨(some 11), none, .take 40⟩])
         (.seq
          (.reg [⟨(some 41), none, .mv (.t 3)⟩,
            ⟨(some 42), none, .bin .eql (.t 41) (.c (.int .i64 0))⟩,
            ⟨(some 43), none, .take 42⟩,
            ⟨(some 44), (some (43, true)), .mv (.t 5)⟩,
            ⟨(some 45), (some (43, true)), .bin .eql (.t 44) (.c (.int .i64 0))⟩,
            ⟨(some 46), none, .pick (.t 43) (.t 45) (.c (.bool false))⟩,
            ⟨(some 47), none, .take 46⟩,
            ⟨(some 48), (some (47, true)), .mv (.t 7)⟩,
            ⟨(some 49), (some (47, true)), .bin .eql (.t 48) (.c (.int .i64 16))⟩,
            ⟨(some 50), none, .pick (.t 47) (.t 49) (.c (.bool false))⟩,
            ⟨(some 51), none, .take 50⟩,
            ⟨(some 52), (some (51, true)), .load (some 2) (.t 4)⟩,
            ⟨(some 53), (some (51, true)), .call 68 [(.t 52)]⟩,
            ⟨(some 54), (some (51, true)), .bin .eql (.t 53) (.c (.int .i64 10))⟩,
            ⟨(some 55), none, .pick (.t 51) (.t 54) (.c (.bool false))⟩,
            ⟨(some 56), none, .take 55⟩,
            ⟨(some 57), (some (56, true)), .mv (.t 8)⟩,
            ⟨(some 58), (some (56, true)), .len false (.t 57)⟩,
            ⟨(some 59), (some (56, true)), .bin .eql (.t 58) (.c (.int .i64 1))⟩,
            ⟨(some 60), none, .pick (.t 56) (.t 59) (.c (.bool false))⟩,
            ⟨(some 61), none, .take 60⟩,
            ⟨(some 62), (some (61, true)), .mv (.t 8)⟩,
            ⟨(some 63), (some (61, true)), .iaddr 6 (.t 62) (.c (.int .i64 0))⟩,
            ⟨(some 64), (some (61, true)), .faddr (.t 63) 0⟩,
            ⟨(some 65), (some (61, true)), .load none (.t 64)⟩,
            ⟨(some 66), (some (61, true)), .bin .eql (.t 65) (.c (.int .i64 9))⟩,
            ⟨(some 67), none, .pick (.t 61) (.t 66) (.c (.bool false))⟩,
            ⟨(some 68), none, .take 67⟩,
            ⟨(some 69), (some (68, true)), .mv (.t 9)⟩,
            ⟨(some 70), (some (68, true)), .bin .eql (.t 69) (.c (.int .i64 5))⟩,
            ⟨(some 71), none, .pick (.t 68) (.t 70) (.c (.bool false))⟩,
            ⟨(some 72), none, .take 71⟩,
            ⟨(some 73), (some (72, true)), .mv (.t 10)⟩,
            ⟨(some 74), none, .pick (.t 72) (.t 73) (.c (.bool false))⟩,
            ⟨(some 75), none, .take 74⟩,
            ⟨(some 76), (some (75, true)), .load (some 2) (.t 4)⟩,
            ⟨(some 77), (some (75, true)), .call 56 [(.t 76)]⟩,
            ⟨(some 78), (some (75, true)), .bin .eql (.t 77) (.c (.int .i64 3))⟩,
            ⟨(some 79), none, .pick (.t 75) (.t 78) (.c (.bool false))⟩,
            ⟨(some 80), none, .take 79⟩,
            ⟨(some 81), (some (80, true)), .mv (.t 11)⟩,
            ⟨(some 82), (some (80, true)), .len false (.t 81)⟩,
            ⟨(some 83), (some (80, true)), .bin .eql (.t 82) (.c (.int .i64 1))⟩,
            ⟨(some 84), none, .pick (.t 80) (.t 83) (.c (.bool false))⟩,
            ⟨(some 85), none, .take 84⟩,
            ⟨(some 86), (some (85, true)), .mv (.t 11)⟩,
            ⟨(some 87), (some (85, true)), .iaddr 1 (.t 86) (.c (.int .i64 0))⟩,
            ⟨(some 88), (some (85, true)), .load none (.t 87)⟩,
            ⟨(some 89), (some (85, true)), .bin .eql (.t 88) (.c (.str (ByteArray.mk #[107])))⟩,
            ⟨(some 90), none, .pick (.t 85) (.t 89) (.c (.bool false))⟩,
            ⟨(some 91), none, .take 90⟩,
            ⟨(some 92), (some (91, true)), .load (some 2) (.t 4)⟩,
            ⟨(some 93), (some (91, true)), .call 58 [(.t 92)]⟩,
            ⟨(some 94), (some (91, true)), .bin .eql (.t 93) (.c (.int .i64 2))⟩,
            ⟨(some 95), none, .pick (.t 91) (.t 94) (.c (.bool false))⟩,
            ⟨(some 96), none, .take 95⟩,
            ⟨(some 97), (some (96, true)), .build [(.int .i64 0), (.int .i64 0), (.int .i64 0), (.int .i64 0), (.int .i64 0), .nils] []⟩,
            ⟨(some 98), (some (96, true)), .call 60 [(.t 97)]⟩,
            ⟨(some 99), (some (96, true)), .bin .eql (.t 98) (.c (.int .i64 0))⟩,
            ⟨(some 100), none, .pick (.t 96) (.t 99) (.c (.bool false))⟩,
            ⟨(some 101), none, .take 100⟩,
            ⟨(some 102), (some (101, true)), .load (some 2) (.t 4)⟩,
            ⟨(some 103), (some (101, true)), .call 62 [(.t 102), (.c (.int .i64 2))]⟩,
            ⟨(some 104), (some (101, true)), .fld (.t 103) 2 none⟩,
            ⟨(some 105), (some (101, true)), .len false (.t 104)⟩,
            ⟨(some 106), (some (101, true)), .bin .eql (.t 105) (.c (.int .i64 1))⟩,
            ⟨(some 107), none, .pick (.t 101) (.t 106) (.c (.bool false))⟩,
            ⟨(some 108), none, .take 107⟩,
            ⟨(some 109), (some (108, true)), .load (some 2) (.t 4)⟩,
            ⟨(some 110), (some (108, true)), .load (some 2) (.t 4)⟩,
            ⟨(some 111), (some (108, true)), .call 109 [(.t 109), (.t 110)]⟩,
            ⟨(some 112), none, .pick (.t 108) (.t 111) (.c (.bool false))⟩,
            ⟨(some 113), none, .take 112⟩,
            ⟨(some 114), (some (113, true)), .load (some 2) (.t 2)⟩,
            ⟨(some 115), (some (113, true)), .load (some 2) (.t 4)⟩,
            ⟨(some 116), (some (113, true)), .call 109 [(.t 114), (.t 115)]⟩,
            ⟨(some 117), (some (113, true)), .una .not (.t 116)⟩,
            ⟨(some 118), none, .pick (.t 113) (.t 117) (.c (.bool false))⟩,
            ⟨(some 119), none, .take 118⟩,
            ⟨(some 120), (some (119, true)), .load (some 2) (.t 4)⟩,
            ⟨(some 121), (some (119, true)), .call 65 [(.t 120)]⟩,
            ⟨(some 122), (some (119, true)), .bin .eql (.t 121) (.c (.int .i64 0))⟩,
            ⟨(some 123), none, .pick (.t 119) (.t 122) (.c (.bool false))⟩,
            ⟨(some 124), none, .take 123⟩,
            ⟨(some 125), none, .pick (.t 124) (.c (.bool true)) (.c (.bool false))⟩,
            ⟨(some 126), none, .take 125⟩,
            ⟨(some 127), none, .pick (.t 126) (.c (.bool true)) (.c (.bool false))⟩,
            ⟨(some 0), none, .take 127⟩])
          .ret)))))))))
def ar48 : List AR := [.t 0]
theorem comp48 : Try.f48.body.bind (comp Try.prog 128) = some ac48 := by kernel_rfl
theorem cres48 : compRes Try.prog Try.f48.results.toList = some ar48 := by kernel_rfl
end Go.Proofs.Ytflcdbfcipkhkaa

/- Segment: all contracts in one oracle; awake. -/



set_option linter.unusedSimpArgs false
set_option linter.unusedVariables false
set_option maxHeartbeats 8000000
set_option maxRecDepth 100000
namespace Go.Proofs.Ytflcdbfcipkhkaa
open Go.Av

def eSI (p : Seg × Int) : List SV := [p.1.sv, .int .i64 p.2]
theorem eSI_inj (a b : Seg × Int) (h : eSI a = eSI b) : a = b := by simp [eSI] at h; exact Prod.ext (Seg.sv_inj _ _ h.1) h.2
def eSB (p : Seg × Bat) : List SV := [p.1.sv, p.2.sv]
theorem eSB_inj (a b : Seg × Bat) (h : eSB a = eSB b) : a = b := by simp [eSB] at h; exact Prod.ext (Seg.sv_inj _ _ h.1) (Bat.sv_inj _ _ h.2)
def eSS (p : Seg × Seg) : List SV := [p.1.sv, p.2.sv]
theorem eSS_inj (a b : Seg × Seg) (h : eSS a = eSS b) : a = b := by simp [eSS] at h; exact Prod.ext (Seg.sv_inj _ _ h.1) (Seg.sv_inj _ _ h.2)
def eSII (p : Seg × Int × Int) : List SV := [p.1.sv, .int .i64 p.2.1, .int .i64 p.2.2]
theorem eSII_inj (a b : Seg × Int × Int) (h : eSII a = eSII b) : a = b := by simp [eSII] at h; exact Prod.ext (Seg.sv_inj _ _ h.1) (Prod.ext h.2.1 h.2.2)
def eBL2 (p : List Bat × List Bat) : List SV := [.sl 6 (BL p.1), .sl 6 (BL p.2)]
theorem eBL2_inj (a b : List Bat × List Bat) (h : eBL2 a = eBL2 b) : a = b := by simp [eBL2] at h; exact Prod.ext (BL_inj _ _ h.1) (BL_inj _ _ h.2)
def keyOK (l : List Bat) : Prop := ∀ b ∈ l, ∀ r ∈ b.rs, r.key.size ≤ 1000
theorem okB_small {l : List Bat} (h : okB l) : l.length < 4611686018427387904 ∧ smallB l := ⟨by have := h.1; omega, fun b hb => by have := (h.2 b hb).2; omega⟩
noncomputable def RGp (f : FuncId) (l : List SV) : Option (Prop × LV) :=
  match f with
  | 46 => row eS (fun s => (True, .sv (.bool (lightA s.ls 20)))) l
  | 47 => row eS (fun s => (okB s.ls, .sv (.int .i64 (segE s)))) l
  | 48 => row (fun _ : Unit => []) (fun _ => (Pure Try.prog 48 [] (.sv (.bool true)), .sv (.bool true))) l
  | 49 => row eBL2 (fun p => (p.1.length < 4611686018427387904 ∧ smallB p.1, .sv (.bool (decide (p.1 = p.2))))) l
  | 50 => row eSII (fun p => (okB p.1.ls, .own 6 (BL (fetL p.2.1 p.2.2 p.1.ls [])))) l
  | 51 => row eSII (fun p => (okB p.1.ls, .own 6 (BL (fetL p.2.1 p.2.2 p.1.ls [])))) l
  | 52 => row eSI (fun p => (okB p.1.ls, .tup [.sv (.int .i64 (tmS p.2 p.1.ls).1), .sv (.bool (tmS p.2 p.1.ls).2)])) l
  | 53 => row eSI (fun p => (okB p.1.ls, .tup [.sv (.int .i64 (rtS p.2 p.1.ls (0, false)).1), .sv (.bool (rtS p.2 p.1.ls (0, false)).2)])) l
  | 54 => row eS (fun s => (okB s.ls ∧ keyOK s.ls, .sv (.sl 1 (TL (keyS s.ls []))))) l
  | 55 => row eS (fun s => (okB s.ls, .own 1 (TL (keyS s.ls [])))) l
  | 56 => row eS (fun s => (okB s.ls, .sv (.int .i64 (nwL (-1) s.ls)))) l
  | 57 => row eS (fun s => (okB s.ls, .sv (.int .i64 (nwL (-1) s.ls)))) l
  | 58 => row eS (fun s => (okB s.ls, .sv (.int .i64 (blkS s.ls)))) l
  | 59 => row eS (fun s => (okB s.ls, .sv (.int .i64 (blkS s.ls)))) l
  | 60 => rowN eB (fun b => (b.ok, .sv (.int .i64 (needB b)))) l
  | 61 => row eB (fun b => (b.ok, .sv (.int .i64 (needB b)))) l
  | 62 => row eSI (fun p => (okB p.1.ls, .sv (ixV (buildX p.2 (entL 0 p.1.ls))))) l
  | 63 => row eSI (fun p => (okB p.1.ls, .sv (ixV (buildX p.2 (entL 0 p.1.ls))))) l
  | 64 => row eB (fun b => (True, .sv (.bool (lightB b)))) l
  | 65 => row eS (fun s => (okB s.ls, .sv (.int .i64 (segE s)))) l
  | 66 => rowN eSB (fun p => (p.1.ls.length < 1000 ∧ p.2.ok, .tup [.sv (putS p.1 p.2).1.sv, .sv (.int .i64 (putS p.1 p.2).2)])) l
  | 67 => row eB (fun b => (b.ok, .sv (.int .i64 (batE b)))) l
  | 68 => row eS (fun s => (s.ls.length ≤ 1000, .sv (.int .i64 (segN s)))) l
  | 69 => row eBB (fun p => (p.1.rs.length < 4611686018427387904, .sv (.bool (batS p.1 p.2)))) l
  | 70 => row eB (fun b => (True, .sv (.int .i64 (nxB b)))) l
  | 109 => row eSS (fun p => (p.1.ls.length < 4611686018427387904 ∧ smallB p.1.ls, .sv (.bool (decide (p.1.ba = p.2.ba) && decide (p.1.ls = p.2.ls))))) l
  | _ => none
noncomputable def RGo : Orc := { p := RGp }
theorem RGo_ok : RGo.ok Try.prog := by
  refine ⟨fun f l c rv h hc => ?_, fun _ _ _ _ _ _ h => (by cases h), fun _ _ _ _ h => (by cases h), fun _ h => (by cases h), fun _ _ _ _ _ _ h => (by cases h), fun _ _ _ _ _ _ _ h => (by cases h)⟩
  change RGp f l = _ at h
  unfold RGp at h
  split at h
  · exact row_ok h hc (fun x hp => light_seg x)
  · exact row_ok h hc (fun x hp => rcheck_seg x hp)
  · exact row_ok h hc (fun x hp => hp)
  · exact row_ok h hc (fun x hp => rsameAll x.1 x.2 hp.1 hp.2)
  · exact row_ok h hc (fun x hp => fetch_pure x.1 x.2.1 x.2.2 hp)
  · exact row_ok h hc (fun x hp => rfetch_pure x.1 x.2.1 x.2.2 hp)
  · exact row_ok h hc (fun x hp => time_pure x.1 x.2 hp)
  · exact row_ok h hc (fun x hp => rtime_pure x.1 x.2 hp)
  · exact row_ok h hc (fun x hp => keys_seg x hp.1 hp.2)
  · exact row_ok h hc (fun x hp => rkeys_seg x hp)
  · exact row_ok h hc (fun x hp => newest_seg x hp)
  · exact row_ok h hc (fun x hp => rnewest_seg x hp)
  · exact row_ok h hc (fun x hp => blocks_seg x hp)
  · exact row_ok h hc (fun x hp => rblocks_seg x hp)
  · exact rowN_ok h hc (fun x hp => need_pure x hp)
  · exact row_ok h hc (fun x hp => rneed_pure x hp)
  · exact row_ok h hc (fun x hp => sparse_seg x.1 x.2 hp)
  · exact row_ok h hc (fun x hp => rsparse_seg x.1 x.2 hp)
  · exact row_ok h hc (fun x hp => light_bat x)
  · exact row_ok h hc (fun x hp => check_seg x hp)
  · exact rowN_ok h hc (fun x hp => put_seg x.1 x.2 hp.1 hp.2)
  · exact row_ok h hc (fun x hp => check_bat x hp)
  · exact row_ok h hc (fun x hp => next_seg x hp)
  · exact row_ok h hc (fun x hp => same_pure x.1 x.2 hp)
  · exact row_ok h hc (fun x hp => next_pure x)
  · exact row_ok h hc (fun x hp => same_seg x.1 x.2 hp.1 hp.2)
  · cases h
abbrev ssv (s : Seg) : SV := .agg [.int .i64 s.ba, .sl 6 (BL s.ls)]
theorem wok2 : okB ws2.ls := ⟨by decide, fun b hb => by
  simp only [ws2, List.mem_cons, List.not_mem_nil, or_false] at hb
  rcases hb with rfl | rfl
  · exact ⟨⟨by unfold I64; decide, by unfold I64; decide, by unfold I64; decide, by unfold I64; decide, by unfold I64; decide⟩, by decide⟩
  · exact ⟨⟨by unfold I64; decide, by unfold I64; decide, by unfold I64; decide, by unfold I64; decide, by unfold I64; decide⟩, by decide⟩⟩
theorem wkey2 : keyOK ws2.ls := by
  intro b hb r hr
  simp only [ws2, List.mem_cons, List.not_mem_nil, or_false] at hb
  rcases hb with rfl | rfl
  · simp only [wb1, List.mem_cons, List.not_mem_nil, or_false] at hr
    subst hr
    decide
  · simp [wb2] at hr
end Go.Proofs.Ytflcdbfcipkhkaa
