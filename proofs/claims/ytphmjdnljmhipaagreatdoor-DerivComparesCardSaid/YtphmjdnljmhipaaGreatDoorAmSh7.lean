import Derived.Test.YtphmjdnljmhipaaGreatDoorAmSh6
set_option linter.unusedSimpArgs false
set_option linter.unusedVariables false
set_option maxRecDepth 100000
namespace Go.AM.D16
open Go Go.AM
noncomputable section
open Nat (reduceEqDiff reduceAdd)
def kf74 : MFunc := ⟨8, (.seq (.region [⟨(some 2), .mv (.c .nilsl), none⟩])
 (.seq (.seq (.region [⟨(some 3), .mv (.t 0), none⟩, ⟨(some 4), .eqnil 1 false .eql (.t 3) (.c .nilsl), none⟩])
 (.cond (.t 4)
 (.seq (.region [⟨(some 2), .mv (.c .nilsl), none⟩])
 .ret)
 .skip))
 (.seq (.region [⟨(some 5), .bslice 0 [] [], none⟩, ⟨(some 6), .mv (.t 0), none⟩, ⟨(some 7), .append 56 3 none (.t 5) (.t 6), none⟩, ⟨(some 2), .mv (.t 7), none⟩])
 .ret))), [.t 2]⟩
theorem t74 : tbl 74 = some kf74 := by kernel_rfl
def g42_0 : List MOper := [⟨(some 2), .box true (.t 0), none⟩, ⟨(some 3), .box true (.t 1), none⟩, ⟨(some 4), .alloc [(.int .i64 (.ofNat 0)), .nilsl, .nilsl], none⟩, ⟨(some 5), .mv (.c (.bool false)), none⟩]
def g42_1 : List (MOper × Nat) := [(⟨(some 19), .faddr 0 (.t 2), none⟩, 0), (⟨(some 20), .load false 1 (.t 19), none⟩, 1), (⟨(some 21), .call (.c (.func (.func 71) [] [])) [(.t 20)], none⟩, 3), (⟨(some 22), .faddr 0 (.t 3), none⟩, 0), (⟨(some 23), .load false 1 (.t 22), none⟩, 8), (⟨(some 24), .call (.c (.func (.func 71) [] [])) [(.t 23)], none⟩, 31), (⟨(some 6), .mv (.t 21), none⟩, 63), (⟨(some 7), .mv (.t 24), none⟩, 127)]
def g42_2 : List MOper := [⟨(some 26), .mv (.t 6), none⟩, ⟨(some 27), .bin false .geq (.t 26) (.c (.int .i64 (.ofNat 0))), none⟩, ⟨(some 28), .mv (.t 27), none⟩, ⟨(some 29), .mv (.t 7), (some (28, true))⟩, ⟨(some 30), .bin false .geq (.t 29) (.c (.int .i64 (.ofNat 0))), (some (28, true))⟩, ⟨(some 31), .pick (.t 28) (.t 30) (.c (.bool false)), none⟩, ⟨(some 32), .mv (.t 31), none⟩, ⟨(some 33), .mv (.t 6), (some (32, true))⟩, ⟨(some 34), .mv (.t 7), (some (32, true))⟩, ⟨(some 35), .bin false .neq (.t 33) (.t 34), (some (32, true))⟩, ⟨(some 36), .pick (.t 32) (.t 35) (.c (.bool false)), none⟩, ⟨(some 25), .mv (.t 36), none⟩]
def g42_3 : List MOper := [⟨(some 37), .load true 3 (.t 3), none⟩, ⟨none, .store 3 (.t 4) (.t 37), none⟩, ⟨(some 5), .mv (.c (.bool true)), none⟩]
def g42_4 : List MOper := [⟨(some 39), .faddr 0 (.t 2), none⟩, ⟨(some 40), .load false 1 (.t 39), none⟩, ⟨(some 41), .faddr 0 (.t 3), none⟩, ⟨(some 42), .load false 1 (.t 41), none⟩, ⟨(some 43), .bin false .eql (.t 40) (.t 42), none⟩, ⟨(some 44), .mv (.t 43), none⟩, ⟨(some 45), .faddr 0 (.t 2), (some (44, true))⟩, ⟨(some 46), .load false 1 (.t 45), (some (44, true))⟩, ⟨(some 47), .call (.c (.func (.func 72) [] [])) [(.t 46)], (some (44, true))⟩, ⟨(some 48), .pick (.t 44) (.t 47) (.c (.bool false)), none⟩, ⟨(some 38), .mv (.t 48), none⟩]
def g42_5 : List (MOper × Nat) := [(⟨(some 50), .faddr 2 (.t 2), none⟩, 0), (⟨(some 51), .load false 1 (.t 50), none⟩, 1), (⟨(some 52), .iaddr 3 (.t 51) (.c (.int .i64 (.ofNat 0))), none⟩, 3), (⟨(some 53), .load true 3 (.t 52), none⟩, 7), (⟨(some 54), .faddr 2 (.t 3), none⟩, 0), (⟨(some 55), .load false 1 (.t 54), none⟩, 16), (⟨(some 56), .iaddr 3 (.t 55) (.c (.int .i64 (.ofNat 0))), none⟩, 48), (⟨(some 57), .load true 3 (.t 56), none⟩, 112), (⟨(some 58), .call (.c (.func (.func 42) [] [])) [(.t 53), (.t 57)], none⟩, 255), (⟨(some 49), .mv (.t 58), none⟩, 511), (⟨(some 59), .extract 0 (.t 49), none⟩, 1023), (⟨(some 60), .extract 1 (.t 49), none⟩, 1023), (⟨(some 8), .alloc [(.int .i64 (.ofNat 0)), .nilsl, .nilsl], none⟩, 0), (⟨none, .store 3 (.t 8) (.t 59), none⟩, 6143), (⟨(some 9), .mv (.t 60), none⟩, 16383)]
def g42_6 : List MOper := [⟨(some 61), .faddr 0 (.t 3), none⟩, ⟨(some 62), .load false 1 (.t 61), none⟩, ⟨(some 63), .faddr 1 (.t 3), none⟩, ⟨(some 64), .load false 1 (.t 63), none⟩, ⟨(some 65), .load true 3 (.t 8), none⟩, ⟨(some 66), .bslice 1 [(.int .i64 (.ofNat 0)), .nilsl, .nilsl] [(0, 3, (.t 65))], none⟩, ⟨(some 67), .build [(.int .i64 (.ofNat 0)), .nilsl, .nilsl] [(0, 1, (.t 62)), (1, 1, (.t 64)), (2, 1, (.t 66))], none⟩, ⟨(some 68), .mv (.t 9), none⟩, ⟨none, .store 3 (.t 4) (.t 67), none⟩, ⟨(some 5), .mv (.t 68), none⟩]
def g42_7 : List MOper := [⟨(some 70), .faddr 0 (.t 2), none⟩, ⟨(some 71), .load false 1 (.t 70), none⟩, ⟨(some 72), .faddr 0 (.t 3), none⟩, ⟨(some 73), .load false 1 (.t 72), none⟩, ⟨(some 74), .bin false .eql (.t 71) (.t 73), none⟩, ⟨(some 75), .mv (.t 74), none⟩, ⟨(some 76), .faddr 0 (.t 2), (some (75, true))⟩, ⟨(some 77), .load false 1 (.t 76), (some (75, true))⟩, ⟨(some 78), .call (.c (.func (.func 73) [] [])) [(.t 77)], (some (75, true))⟩, ⟨(some 79), .pick (.t 75) (.t 78) (.c (.bool false)), none⟩, ⟨(some 69), .mv (.t 79), none⟩]
def g42_8 : List MOper := [⟨(some 80), .faddr 1 (.t 2), none⟩, ⟨(some 81), .load false 1 (.t 80), none⟩, ⟨(some 82), .faddr 1 (.t 3), none⟩, ⟨(some 83), .load false 1 (.t 82), none⟩, ⟨(some 84), .call (.c (.func (.func 38) [] [])) [(.t 81), (.t 83), (.c (.func (.func 39) [] []))], none⟩, ⟨(some 85), .bin false .neq (.t 84) (.c (.int .i64 (.ofNat 0))), none⟩]
def g42_9 : List MOper := [⟨(some 86), .build [(.int .i64 (.ofNat 0)), .nilsl, .nilsl] [], none⟩, ⟨none, .store 3 (.t 4) (.t 86), none⟩, ⟨(some 5), .mv (.c (.bool false)), none⟩]
def g42_10 : List (MOper × Nat) := [(⟨(some 87), .faddr 2 (.t 2), none⟩, 0), (⟨(some 88), .load false 1 (.t 87), none⟩, 1), (⟨(some 89), .iaddr 3 (.t 88) (.c (.int .i64 (.ofNat 0))), none⟩, 3), (⟨(some 90), .load true 3 (.t 89), none⟩, 7), (⟨(some 91), .faddr 2 (.t 3), none⟩, 0), (⟨(some 92), .load false 1 (.t 91), none⟩, 16), (⟨(some 93), .iaddr 3 (.t 92) (.c (.int .i64 (.ofNat 0))), none⟩, 48), (⟨(some 94), .load true 3 (.t 93), none⟩, 112), (⟨(some 95), .call (.c (.func (.func 42) [] [])) [(.t 90), (.t 94)], none⟩, 255), (⟨(some 96), .extract 0 (.t 95), none⟩, 511), (⟨(some 97), .extract 1 (.t 95), none⟩, 511), (⟨none, .store 3 (.t 4) (.t 96), none⟩, 2047), (⟨(some 5), .mv (.t 97), none⟩, 4095)]
def g42_11 : List MOper := [⟨(some 99), .faddr 0 (.t 2), none⟩, ⟨(some 100), .load false 1 (.t 99), none⟩, ⟨(some 101), .bin false .eql (.t 100) (.c (.int .i64 (.ofNat 7))), none⟩, ⟨(some 102), .mv (.t 101), none⟩, ⟨(some 103), .faddr 0 (.t 3), (some (102, true))⟩, ⟨(some 104), .load false 1 (.t 103), (some (102, true))⟩, ⟨(some 105), .bin false .eql (.t 104) (.c (.int .i64 (.ofNat 7))), (some (102, true))⟩, ⟨(some 106), .pick (.t 102) (.t 105) (.c (.bool false)), none⟩, ⟨(some 98), .mv (.t 106), none⟩]
def g42_12 : List (MOper × Nat) := [(⟨(some 108), .faddr 2 (.t 2), none⟩, 0), (⟨(some 109), .load false 1 (.t 108), none⟩, 1), (⟨(some 110), .iaddr 3 (.t 109) (.c (.int .i64 (.ofNat 0))), none⟩, 3), (⟨(some 111), .load true 3 (.t 110), none⟩, 7), (⟨(some 112), .faddr 2 (.t 3), none⟩, 0), (⟨(some 113), .load false 1 (.t 112), none⟩, 16), (⟨(some 114), .iaddr 3 (.t 113) (.c (.int .i64 (.ofNat 0))), none⟩, 48), (⟨(some 115), .load true 3 (.t 114), none⟩, 112), (⟨(some 116), .call (.c (.func (.func 42) [] [])) [(.t 111), (.t 115)], none⟩, 255), (⟨(some 107), .mv (.t 116), none⟩, 511), (⟨(some 117), .extract 0 (.t 107), none⟩, 1023), (⟨(some 118), .extract 1 (.t 107), none⟩, 1023), (⟨(some 10), .alloc [(.int .i64 (.ofNat 0)), .nilsl, .nilsl], none⟩, 0), (⟨none, .store 3 (.t 10) (.t 117), none⟩, 6143), (⟨(some 11), .mv (.t 118), none⟩, 16383)]
def g42_13 : List (MOper × Nat) := [(⟨(some 120), .faddr 2 (.t 2), none⟩, 0), (⟨(some 121), .load false 1 (.t 120), none⟩, 1), (⟨(some 122), .iaddr 3 (.t 121) (.c (.int .i64 (.ofNat 1))), none⟩, 3), (⟨(some 123), .load true 3 (.t 122), none⟩, 7), (⟨(some 124), .faddr 2 (.t 3), none⟩, 0), (⟨(some 125), .load false 1 (.t 124), none⟩, 16), (⟨(some 126), .iaddr 3 (.t 125) (.c (.int .i64 (.ofNat 1))), none⟩, 48), (⟨(some 127), .load true 3 (.t 126), none⟩, 112), (⟨(some 128), .call (.c (.func (.func 42) [] [])) [(.t 123), (.t 127)], none⟩, 255), (⟨(some 119), .mv (.t 128), none⟩, 511), (⟨(some 129), .extract 0 (.t 119), none⟩, 1023), (⟨(some 130), .extract 1 (.t 119), none⟩, 1023), (⟨(some 12), .alloc [(.int .i64 (.ofNat 0)), .nilsl, .nilsl], none⟩, 0), (⟨none, .store 3 (.t 12) (.t 129), none⟩, 6143), (⟨(some 13), .mv (.t 130), none⟩, 16383)]
def g42_14 : List MOper := [⟨(some 131), .load true 3 (.t 10), none⟩, ⟨(some 132), .load true 3 (.t 12), none⟩, ⟨(some 133), .bslice 2 [(.int .i64 (.ofNat 0)), .nilsl, .nilsl, (.int .i64 (.ofNat 0)), .nilsl, .nilsl] [(0, 3, (.t 131)), (3, 3, (.t 132))], none⟩, ⟨(some 134), .build [(.int .i64 (.ofNat 0)), .nilsl, .nilsl] [(0, 1, (.c (.int .i64 (.ofNat 7)))), (2, 1, (.t 133))], none⟩, ⟨(some 135), .mv (.t 11), none⟩, ⟨(some 136), .mv (.t 135), none⟩, ⟨(some 137), .mv (.t 13), (some (136, true))⟩, ⟨(some 138), .pick (.t 136) (.t 137) (.c (.bool false)), none⟩, ⟨none, .store 3 (.t 4) (.t 134), none⟩, ⟨(some 5), .mv (.t 138), none⟩]
def g42_15 : List MOper := [⟨(some 140), .faddr 0 (.t 2), none⟩, ⟨(some 141), .load false 1 (.t 140), none⟩, ⟨(some 142), .bin false .eql (.t 141) (.c (.int .i64 (.ofNat 7))), none⟩, ⟨(some 143), .mv (.t 142), none⟩, ⟨(some 144), .mv (.t 7), (some (143, true))⟩, ⟨(some 145), .bin false .geq (.t 144) (.c (.int .i64 (.ofNat 0))), (some (143, true))⟩, ⟨(some 146), .pick (.t 143) (.t 145) (.c (.bool false)), none⟩, ⟨(some 139), .mv (.t 146), none⟩]
def g42_16 : List (MOper × Nat) := [(⟨(some 148), .faddr 2 (.t 2), none⟩, 0), (⟨(some 149), .load false 1 (.t 148), none⟩, 1), (⟨(some 150), .mv (.t 7), none⟩, 0), (⟨(some 151), .iaddr 3 (.t 149) (.t 150), none⟩, 7), (⟨(some 152), .load true 3 (.t 151), none⟩, 15), (⟨(some 153), .faddr 2 (.t 3), none⟩, 0), (⟨(some 154), .load false 1 (.t 153), none⟩, 32), (⟨(some 155), .iaddr 3 (.t 154) (.c (.int .i64 (.ofNat 0))), none⟩, 96), (⟨(some 156), .load true 3 (.t 155), none⟩, 224), (⟨(some 157), .call (.c (.func (.func 42) [] [])) [(.t 152), (.t 156)], none⟩, 511), (⟨(some 147), .mv (.t 157), none⟩, 1023), (⟨(some 158), .extract 0 (.t 147), none⟩, 2047), (⟨(some 159), .extract 1 (.t 147), none⟩, 2047), (⟨(some 14), .alloc [(.int .i64 (.ofNat 0)), .nilsl, .nilsl], none⟩, 0), (⟨none, .store 3 (.t 14) (.t 158), none⟩, 12287), (⟨(some 15), .mv (.t 159), none⟩, 32767)]
def g42_17 : List MOper := [⟨(some 160), .faddr 0 (.t 3), none⟩, ⟨(some 161), .load false 1 (.t 160), none⟩, ⟨(some 162), .load true 3 (.t 14), none⟩, ⟨(some 163), .bslice 1 [(.int .i64 (.ofNat 0)), .nilsl, .nilsl] [(0, 3, (.t 162))], none⟩, ⟨(some 164), .build [(.int .i64 (.ofNat 0)), .nilsl, .nilsl] [(0, 1, (.t 161)), (2, 1, (.t 163))], none⟩, ⟨(some 165), .mv (.t 15), none⟩, ⟨none, .store 3 (.t 4) (.t 164), none⟩, ⟨(some 5), .mv (.t 165), none⟩]
def g42_18 : List MOper := [⟨(some 167), .mv (.t 6), none⟩, ⟨(some 168), .bin false .geq (.t 167) (.c (.int .i64 (.ofNat 0))), none⟩, ⟨(some 169), .mv (.t 168), none⟩, ⟨(some 170), .faddr 0 (.t 3), (some (169, true))⟩, ⟨(some 171), .load false 1 (.t 170), (some (169, true))⟩, ⟨(some 172), .bin false .eql (.t 171) (.c (.int .i64 (.ofNat 7))), (some (169, true))⟩, ⟨(some 173), .pick (.t 169) (.t 172) (.c (.bool false)), none⟩, ⟨(some 166), .mv (.t 173), none⟩]
def g42_19 : List (MOper × Nat) := [(⟨(some 175), .faddr 2 (.t 2), none⟩, 0), (⟨(some 176), .load false 1 (.t 175), none⟩, 1), (⟨(some 177), .iaddr 3 (.t 176) (.c (.int .i64 (.ofNat 0))), none⟩, 3), (⟨(some 178), .load true 3 (.t 177), none⟩, 7), (⟨(some 179), .faddr 2 (.t 3), none⟩, 0), (⟨(some 180), .load false 1 (.t 179), none⟩, 16), (⟨(some 181), .mv (.t 6), none⟩, 0), (⟨(some 182), .iaddr 3 (.t 180) (.t 181), none⟩, 112), (⟨(some 183), .load true 3 (.t 182), none⟩, 240), (⟨(some 184), .call (.c (.func (.func 42) [] [])) [(.t 178), (.t 183)], none⟩, 511), (⟨(some 174), .mv (.t 184), none⟩, 1023), (⟨(some 185), .extract 0 (.t 174), none⟩, 2047), (⟨(some 186), .extract 1 (.t 174), none⟩, 2047), (⟨(some 16), .alloc [(.int .i64 (.ofNat 0)), .nilsl, .nilsl], none⟩, 0), (⟨none, .store 3 (.t 16) (.t 185), none⟩, 12287), (⟨(some 17), .mv (.t 186), none⟩, 32767)]
def g42_20 : List MOper := [⟨(some 187), .faddr 2 (.t 3), none⟩, ⟨(some 188), .load false 1 (.t 187), none⟩, ⟨(some 189), .call (.c (.func (.func 74) [] [])) [(.t 188)], none⟩, ⟨(some 18), .mv (.t 189), none⟩]
def g42_21 : List MOper := [⟨(some 190), .mv (.t 18), none⟩, ⟨(some 191), .mv (.t 6), none⟩, ⟨(some 192), .load true 3 (.t 16), none⟩, ⟨(some 193), .iaddr 3 (.t 190) (.t 191), none⟩, ⟨none, .store 3 (.t 193) (.t 192), none⟩]
def g42_22 : List MOper := [⟨(some 194), .mv (.t 18), none⟩, ⟨(some 195), .build [(.int .i64 (.ofNat 0)), .nilsl, .nilsl] [(0, 1, (.c (.int .i64 (.ofNat 7)))), (2, 1, (.t 194))], none⟩, ⟨(some 196), .mv (.t 17), none⟩, ⟨none, .store 3 (.t 4) (.t 195), none⟩, ⟨(some 5), .mv (.t 196), none⟩]
def g42_23 : List MOper := [⟨(some 197), .build [(.int .i64 (.ofNat 0)), .nilsl, .nilsl] [], none⟩, ⟨none, .store 3 (.t 4) (.t 197), none⟩, ⟨(some 5), .mv (.c (.bool false)), none⟩]
def kf42 : MFunc := ⟨198, (.seq (.region g42_0)
 (.seq (.draw g42_1 [(4, some 2), (4, some 5)])
 (.seq (.block 0 (.seq (.region g42_2)
 (.cond (.t 25)
 (.seq (.region g42_3)
 .ret)
 (.seq (.region g42_4)
 (.cond (.t 38)
 (.seq (.draw g42_5 [(12, some 8), (12, some 13)])
 (.seq (.region g42_6)
 .ret))
 (.seq (.region g42_7)
 (.cond (.t 69)
 (.seq (.seq (.region g42_8)
 (.cond (.t 85)
 (.seq (.region g42_9)
 .ret)
 .skip))
 (.seq (.draw g42_10 [])
 .ret))
 (.seq (.region g42_11)
 (.cond (.t 98)
 (.seq (.draw g42_12 [(12, some 8), (12, some 13)])
 (.seq (.draw g42_13 [(12, some 8), (12, some 13)])
 (.seq (.region g42_14)
 .ret)))
 (.seq (.region g42_15)
 (.cond (.t 139)
 (.seq (.draw g42_16 [(13, some 9), (13, some 14)])
 (.seq (.region g42_17)
 .ret))
 (.seq (.region g42_18)
 (.cond (.t 166)
 (.seq (.draw g42_19 [(13, some 9), (13, some 14)])
 (.seq (.region g42_20)
 (.seq (.region g42_21)
 (.seq (.region g42_22)
 .ret))))
 .skip)))))))))))))
 (.seq (.region g42_23)
 .ret)))), [.cell 4 true 3, .t 5]⟩
theorem t42 : tbl 42 = some kf42 := by kernel_rfl
theorem fin_of {st s1 sp : St} {c : List AV} (n1 : s1.next = st.next + 1) (k1 : Keeps st s1) (g1 : s1.get st.next = some (.row [.int .i64 (.ofNat 0), .nilsl, .nilsl])) (kq : Keeps s1 sp) (x3 : c.length = 3 /\ c.all AV.one = true) :
  ∃ s9, storeA 3 sp (.ptr st.next 0) (.agg c) = some s9 /\ s9.next = sp.next /\ loadA true 3 s9 (.ptr st.next 0) = some (.agg c) /\ Keeps st s9 /\ ∀ G : Nat -> Prop, (∀ i, G i -> st.next < i) -> Same G sp s9 := by
 have gz := kq.get (i := st.next) (by omega) g1
 refine ⟨sp.put st.next (.row c), st3 gz rfl x3, rfl, load_row (by rw [St.get_put, if_pos rfl]) x3.1, (k1.trans kq).put' _ _ (Nat.le_refl _), fun G hG i hi => by rw [St.get_put, if_neg (by have := hG i hi; omega)]⟩
theorem new3 (s : St) : ∃ sA, sA = s.new (.row [.int .i64 (.ofNat 0), .nilsl, .nilsl]) /\ sA.next = s.next + 1 /\ Keeps s sA /\ sA.get s.next = some (.row [.int .i64 (.ofNat 0), .nilsl, .nilsl]) := ⟨_, rfl, rfl, Keeps.new _ _, by rw [St.get_new, if_pos rfl]⟩
theorem sto3_of {s sA sB : St} {c : List AV} {x : Dv} (nA : sA.next = s.next + 1) (kA : Keeps s sA) (gA : sA.get s.next = some (.row [.int .i64 (.ofNat 0), .nilsl, .nilsl])) (kB : Keeps sA sB) (c3 : c.length = 3 /\ c.all AV.one = true) (hr : RepD (fun i => sA.next <= i /\ i < sB.next) sB x c) :
  ∃ sC, storeA 3 sB (.ptr s.next 0) (.agg c) = some sC /\ sC.next = sB.next /\ sC.get s.next = some (.row c) /\ loadA true 3 sC (.ptr s.next 0) = some (.agg c) /\ Keeps s sC /\ RepD (fun i => sA.next <= i /\ i < sB.next) sC x c /\ avBeq (.ptr s.next 0) (.ptr s.next 0) = true /\ sB.get s.next = some (.row [.int .i64 (.ofNat 0), .nilsl, .nilsl]) := by
 have gB := kB.get (i := s.next) (by omega) gA
 have gC : (sB.put s.next (.row c)).get s.next = some (.row c) := by rw [St.get_put, if_pos rfl]
 exact ⟨sB.put s.next (.row c), st3 gB rfl c3, rfl, gC, load_row gC c3.1, (kA.trans kB).put' _ _ (Nat.le_refl _), hr.mono (fun i hi => by rw [St.get_put, if_neg (by omega)]) (fun _ h => h), by simp only [avBeq, Nat.beq_refl, Bool.and_true], gB⟩
theorem kind_B (r s : Int) : kind r s = if ((decide (sideI r >= 0) && decide (sideI s >= 0)) && (sideI r != sideI s)) = true then .apart else if ((r == s) && keepsB r) = true then .keep else if ((r == s) && losesB r) = true then .lose
  else if ((r == 7) && (s == 7)) = true then .sync else if ((r == 7) && decide (sideI s >= 0)) = true then .syncL else if (decide (sideI r >= 0) && (s == 7)) = true then .syncR else .none := by
 have hs : ∀ x : Int, (decide (sideI x >= 0) = true) ↔ (x = 5 \/ x = 6) := fun x => by
  unfold sideI
  by_cases h5 : x = 5
  ·simp [h5] <;> decide
  ·by_cases h6 : x = 6
   ·simp [h6] <;> decide
   ·simp [h5, h6] <;> decide
 have e1 : (((decide (sideI r >= 0) && decide (sideI s >= 0)) && (sideI r != sideI s)) = true) ↔ ((r = 5 /\ s = 6) \/ (r = 6 /\ s = 5)) := by
  rw [Bool.and_eq_true, Bool.and_eq_true, hs, hs]
  constructor
  ·rintro ⟨⟨a, b⟩, c⟩
   rcases a with rfl | rfl <;> rcases b with rfl | rfl
   ·simp at c
   ·exact .inl ⟨rfl, rfl⟩
   ·exact .inr ⟨rfl, rfl⟩
   ·simp at c
  ·rintro (⟨rfl, rfl⟩ | ⟨rfl, rfl⟩)
   ·exact ⟨⟨.inl rfl, .inr rfl⟩, by decide⟩
   ·exact ⟨⟨.inr rfl, .inl rfl⟩, by decide⟩
 have e2 : ((r == s) && keepsB r) = true ↔ (r = s /\ keepsB r = true) := by rw [Bool.and_eq_true, beq_iff_eq]
 have e3 : ((r == s) && losesB r) = true ↔ (r = s /\ losesB r = true) := by rw [Bool.and_eq_true, beq_iff_eq]
 have e4 : ((r == 7) && (s == 7)) = true ↔ (r = 7 /\ s = 7) := by rw [Bool.and_eq_true, beq_iff_eq, beq_iff_eq]
 have e5 : ((r == 7) && decide (sideI s >= 0)) = true ↔ (r = 7 /\ (s = 5 \/ s = 6)) := by rw [Bool.and_eq_true, beq_iff_eq, hs]
 have e6 : (decide (sideI r >= 0) && (s == 7)) = true ↔ ((r = 5 \/ r = 6) /\ s = 7) := by rw [Bool.and_eq_true, beq_iff_eq, hs]
 unfold kind
 simp only [e1, e2, e3, e4, e5, e6]
theorem keeps_ar {r : Int} (h : keepsB r = true) : arN r = 1 := by
 simp only [keepsB, Bool.or_eq_true, beq_iff_eq] at h
 unfold arN
 rw [if_neg (by omega), if_neg (by omega)]
theorem loses_ar {r : Int} (h : losesB r = true) : arN r = 1 := by
 simp only [losesB, Bool.or_eq_true, beq_iff_eq] at h
 unfold arN
 rw [if_neg (by omega), if_neg (by omega)]
theorem side_ar {r : Int} (h : r = 5 \/ r = 6) : arN r = 1 := by unfold arN; rw [if_neg (by omega), if_neg (by omega)]
theorem len1 {l : List Dv} (h : l.length = 1) : ∃ d, l = [d] := by
 match l, h with
 | [d], _ => exact ⟨d, rfl⟩
theorem len2 {l : List Dv} (h : l.length = 2) : ∃ d e, l = [d, e] := by
 match l, h with
 | [d, e], _ => exact ⟨d, e, rfl⟩
theorem kind_keep {r s : Int} (h : kind r s = .keep) : arN r = 1 /\ arN s = 1 := by
 rw [kind_B] at h
 split at h; · cases h
 split at h
 ·rename_i h2
  simp only [Bool.and_eq_true, beq_iff_eq] at h2
  have := keeps_ar h2.2
  rw [<- h2.1]; exact ⟨this, this⟩
 split at h; · cases h
 split at h; · cases h
 split at h; · cases h
 split at h <;> cases h
theorem kind_lose {r s : Int} (h : kind r s = .lose) : arN r = 1 /\ arN s = 1 := by
 rw [kind_B] at h
 split at h; · cases h
 split at h; · cases h
 split at h
 ·rename_i h2
  simp only [Bool.and_eq_true, beq_iff_eq] at h2
  have := loses_ar h2.2
  rw [<- h2.1]; exact ⟨this, this⟩
 split at h; · cases h
 split at h; · cases h
 split at h <;> cases h
theorem fill3 {r : Int} {u v : AV} (hu : AV.one u = true) (hv : AV.one v = true) : fillA [.int .i64 (.ofNat 0), .nilsl, .nilsl] [(0, 1, .int .i64 r), (1, 1, u), (2, 1, v)] = some [.int .i64 r, u, v] := by
 cases u <;> first | (simp [AV.one] at hu; done) | (cases v <;> first | rfl | (simp [AV.one] at hv; done))
theorem fill13 {r : Int} {v : AV} (hv : AV.one v = true) : fillA [.int .i64 (.ofNat 0), .nilsl, .nilsl] [(0, 1, .int .i64 r), (2, 1, v)] = some [.int .i64 r, .nilsl, v] := by
 cases v <;> first | rfl | (simp [AV.one] at hv; done)
theorem bs1 {x : List AV} (hx : x.length = 3) : fillA [.int .i64 (.ofNat 0), .nilsl, .nilsl] [(0, 3, .agg x)] = some x := by
 match x, hx with
 | [a, b, c], _ => rfl
theorem bs2 {x y : List AV} (hx : x.length = 3) (hy : y.length = 3) : fillA [.int .i64 (.ofNat 0), .nilsl, .nilsl, .int .i64 (.ofNat 0), .nilsl, .nilsl] [(0, 3, .agg x), (3, 3, .agg y)] = some (x ++ y) := by
 match x, hx, y, hy with
 | [a, b, c], _, [d, e, f], _ => rfl
theorem clone3_run {F : Nat -> Prop} {st : St} {sl : AV} {xs : List (List AV)} (h : SlR F st sl xs) (hl : xs.length = 2) (n : Nat) (Y : Yenv) : R (n + 1) Y 74 [sl] st = .ret (.own st.next 0 (0 + 2) 3 none (0 + 2)) (st.new (.row ([] ++ xs.flatten))) := by
 have b00 : Nat.beq 0 0 = true := rfl
 have c1 := h.content (Same.refl F st)
 rw [hl] at c1
 have e : eqNilA 1 .eql sl .nilsl = some (.bool false) := by
  rcases h.2.2 with ⟨_, rfl⟩ | ⟨ex, rfl⟩ | ⟨id, cap, lo, rfl, _⟩
  ·simp at hl
  ·rfl
  ·rfl
 have a1 : appendA 56 3 st (.lst 0 [] true) 2 xs.flatten = some (.own st.next 0 (0 + 2) 3 none (0 + 2), st.new (.row ([] ++ xs.flatten))) := rfl
 have fl : fillA [] [] = some [] := rfl
 refine fun_of (mf := kf74) (fr := ?b0) t74 rfl (.inl ?b1) ?b2 ?b3
 case b1 =>
  simp only [amE, reduceEqDiff, ↓reduceIte, reduceCtorEq, reduceAdd, kf74, e, c1, a1, fl, tag0]
  rfl
 case b2 => rfl
 case b3 => simp only [kf74, amE, Fr.get_set, reduceEqDiff, ↓reduceIte]
def BhR (n : Nat) (Y : Yenv) (d e : Dv) (st : St) : Prop := ∃ x b cs st', R n Y 42 [.agg d.cells, .agg e.cells] st = .ret (.tuple [.agg cs, .bool b]) st' /\ Bh d e x b /\ RepD (fun i => st.next <= i /\ i < st'.next) st' x cs /\ Keeps st st'
set_option maxHeartbeats 4000000 in
theorem behind_run (d : Dv) : ∀ (e : Dv) (n : Nat) (Y : Yenv) (st : St), d.ok -> e.ok -> d.good gr = true -> e.good gr = true -> d.fz <= n -> BhR n Y d e st := by
 induction hs : d.fz using Nat.strongRecOn generalizing d with
 | _ s ih =>
 intro e n Y st hokd hoke hgd hge hn
 cases d with
 | mk r nv ev vs nl ex l =>
 cases e with
 | mk r' mv fv ws ml fx k =>
 obtain ⟨-, -, hlN, hvN, -, hgl⟩ := good_mk hgd
 obtain ⟨-, -, hkN, hwN, -, hgk⟩ := good_mk hge
 simp only [Dv.ok] at hokd hoke
 simp only [Dv.fz] at hs
 obtain ⟨m, rfl⟩ : ∃ m, n = m + 3 := ⟨n - 3, by omega⟩
 have b00 : Nat.beq 0 0 = true := rfl
 unfold BhR
 simp only [Dv.cells]
 -- the parts of both
 have hsl : SlR (fun _ => False) st (slAV nl ex (Dv.cellsL l)) (Dv.cellsL l) := SlR.sl _ st (Dv.cellsL3 l) (by rw [Dv.cellsL_len]; exact hokd.2.2.2.2.1) (fun h => by rw [hokd.2.2.2.1 h]; rfl)
 have hsk : SlR (fun _ => False) st (slAV ml fx (Dv.cellsL k)) (Dv.cellsL k) := SlR.sl _ st (Dv.cellsL3 k) (by rw [Dv.cellsL_len]; exact hoke.2.2.2.2.1) (fun h => by rw [hoke.2.2.2.1 h]; rfl)
 have hsw : SlR (fun _ => False) st (slAV mv fv (Tm.cellsL ws)) (Tm.cellsL ws) := SlR.sl _ st (Tm.cellsL3 ws) (by rw [Tm.cellsL_len]; exact hoke.2.1) (fun h => by rw [hoke.1 h]; rfl)
 have hrk := RepDs.line (fun _ => False) st k hoke.2.2.2.2.2
 have hrw := RepTs.line (fun _ => False) st ws hoke.2.2.1
 have c38 : ∀ s, ∃ s', ((gT (m + 2)).cg Y).fn 38 [slAV nv ev (Tm.cellsL vs), slAV mv fv (Tm.cellsL ws), .func (.func 39) [] []] s = .ret (.int .i64 (cmpTs vs ws)) s' /\ Keeps s s' := fun s => by
  obtain ⟨s', e1, k1⟩ := lists_run (n := m) (Y := Y) (nl1 := nv) (ex1 := ev) (nl2 := mv) (ex2 := fv) (cl := Tm.cells) (xs := vs) (ys := ws) (c := cmpT) (g := 39) (f := 68) (F := 38) (.inl ⟨rfl, rfl⟩) (zs := [(.int .i64 (.ofNat 0)), (.int .i64 (.ofNat 0)), .nilsl]) t68 rfl
   (fun x _ => x.cells3) (fun y _ => y.cells3) hokd.1 hoke.1 hokd.2.1
   (fun x hx y hy => sigCompare x y m Y (Tm.okL_mem hokd.2.2.1 x hx) (Tm.okL_mem hoke.2.2.1 y hy) (by have := Tm.fzL_mem hx; omega)) (by omega) s
  refine ⟨s', ?_, k1⟩
  rw [Tm.cellsL_eq, Tm.cellsL_eq, <- cmpL_cmpTs]; exact e1
 have hRe : ∀ s, RepD (fun i => st.next <= i /\ i < s.next) s (.mk r' mv fv ws ml fx k) [.int .i64 r', slAV mv fv (Tm.cellsL ws), slAV ml fx (Dv.cellsL k)] := fun s => by
  have := RepD.line (fun i => st.next <= i /\ i < s.next) s (.mk r' mv fv ws ml fx k) (by simp only [Dv.ok]; exact hoke)
  simpa only [Dv.cells] using this
 generalize slAV nv ev (Tm.cellsL vs) = sv at *
 generalize slAV mv fv (Tm.cellsL ws) = sw' at *
 generalize slAV nl ex (Dv.cellsL l) = sl at *
 generalize slAV ml fx (Dv.cellsL k) = sk at *
 have c71 : ∀ x s, ((gT (m + 2)).cg Y).fn 71 [.int .i64 x] s = .ret (.int .i64 (sideI x)) s := fun x s => side_run (m + 1) Y x s
 have c72 : ∀ s, ((gT (m + 2)).cg Y).fn 72 [.int .i64 r] s = .ret (.bool (keepsB r)) s := fun s => keeps_run (m + 1) Y r s
 have c73 : ∀ s, ((gT (m + 2)).cg Y).fn 73 [.int .i64 r] s = .ret (.bool (losesB r)) s := fun s => loses_run (m + 1) Y r s
 have hK := kind_B r r'
 have e1 : binB false .geq (.int .i64 (sideI r)) (.int .i64 (.ofNat 0)) = some (.bool (decide (sideI r >= 0))) := rfl
 have e2 : binB false .geq (.int .i64 (sideI r')) (.int .i64 (.ofNat 0)) = some (.bool (decide (sideI r' >= 0))) := rfl
 have e3 : binB false .neq (.int .i64 (sideI r)) (.int .i64 (sideI r')) = some (.bool (sideI r != sideI r')) := rfl
 have e4 : binB false .eql (.int .i64 r) (.int .i64 r') = some (.bool (r == r')) := rfl
 have e7 : binB false .eql (.int .i64 r) (.int .i64 (.ofNat 7)) = some (.bool (r == 7)) := rfl
 have e8 : binB false .eql (.int .i64 r') (.int .i64 (.ofNat 7)) = some (.bool (r' == 7)) := rfl
 have exA : ∀ (a b : AV), extractA 0 (.tuple [a, b]) = some a := fun _ _ => rfl
 have exB : ∀ (a b : AV), extractA 1 (.tuple [a, b]) = some b := fun _ _ => rfl
 obtain ⟨s1, hs1⟩ : ∃ s1, s1 = st.new (.row [.int .i64 (.ofNat 0), .nilsl, .nilsl]) := ⟨_, rfl⟩
 have n1 : s1.next = st.next + 1 := by rw [hs1]; rfl
 have k1 : Keeps st s1 := by rw [hs1]; exact Keeps.new _ _
 have g1 : s1.get st.next = some (.row [.int .i64 (.ofNat 0), .nilsl, .nilsl]) := by rw [hs1, St.get_new, if_pos rfl]
 have f0 : ∀ s : St, Same (fun _ => False) st s := fun _ _ h => h.elim
 generalize hB1 : decide (sideI r >= 0) = B1 at *
 generalize hB2 : decide (sideI r' >= 0) = B2 at *
 generalize hB3 : (sideI r != sideI r') = B3 at *
 generalize hB4 : (r == r') = B4 at *
 generalize hB5 : keepsB r = B5 at *
 generalize hB6 : losesB r = B6 at *
 generalize hB7 : (r == 7) = B7 at *
 generalize hB8 : (r' == 7) = B8 at *
 have zb : avsBeq [.int .i64 (.ofNat 0), .nilsl, .nilsl] [.int .i64 (.ofNat 0), .nilsl, .nilsl] = true := rfl
 have fz0 : fillA [.int .i64 (.ofNat 0), .nilsl, .nilsl] [] = some [.int .i64 (.ofNat 0), .nilsl, .nilsl] := rfl
 have how := hsw.one
 obtain ⟨fA1, hA1⟩ : ∃ fA, fA = frOf 0 [.agg [.int .i64 r, sv, sl], .agg [.int .i64 r', sw', sk]] Fr.nil := ⟨_, rfl⟩
 have gA1_0 : fA1.get 0 = some (.agg [.int .i64 r, sv, sl]) := by rw [hA1]; simp only [frOf, Fr.get_set, reduceAdd, reduceEqDiff, ↓reduceIte]
 have gA1_1 : fA1.get 1 = some (.agg [.int .i64 r', sw', sk]) := by rw [hA1]; simp only [frOf, Fr.get_set, reduceAdd, reduceEqDiff, ↓reduceIte]
 have dA1 : fA1.ds = [] := by rw [hA1]; rfl
 obtain ⟨fR2, hR2, kR2, oR2_2, oR2_3, oR2_4, oR2_5⟩ : ∃ fr', arun ((gT (m + 2)).cg Y) g42_0 fA1 st = .ok fr' s1 /\ Kp [] fA1 fr' /\ fr'.get 2 = some (.fptr [.int .i64 r, sv, sl] 0) /\ fr'.get 3 = some (.fptr [.int .i64 r', sw', sk] 0) /\ fr'.get 4 = some (.ptr st.next 0) /\ fr'.get 5 = some (.bool false) := ⟨_, by simp only [amE, reduceEqDiff, ↓reduceIte, reduceCtorEq, reduceAdd, gA1_0, gA1_1, g42_0, <- hs1] <;> rfl, Kp.refl.s.s.s.s, gn (gn (gn gh)), gn (gn gh), gn gh, gh⟩
 have dR2 := kR2.1.trans dA1
 obtain ⟨fR3, hR3, kR3, oR3_6, oR3_7⟩ : ∃ fr', adraw ((gT (m + 2)).cg Y) g42_1 [(4, some 2), (4, some 5)] fR2 s1 = .ok fr' s1 /\ Kp [2, 3, 4, 5] fR2 fr' /\ fr'.get 6 = some (.int .i64 (sideI r)) /\ fr'.get 7 = some (.int .i64 (sideI r')) := by
  refine ⟨?r30, ?r31, ?r32, ?r3o6, ?r3o7⟩
  case r31 =>
   refine adraw_ok (its := ?r3i) ?r3x ?r3y ?r3z
   case r3x =>
    simp only [amE, reduceEqDiff, ↓reduceIte, reduceCtorEq, reduceAdd, drun_cons, drun_nil, DR.cons, oprD, nextId, preA, oR2_2, oR2_3, g42_1, faf, ld0f, ld1f, ld2f, ld3f, c71]
    rfl
   case r3y => rfl
   case r3z =>
    simp only [List.all_cons, List.all_nil, Bool.and_true, Bool.and_eq_true]
    refine ⟨chk_of (i := 4) (k := 2) rfl rfl rfl rfl ?r3k0, chk_of (i := 4) (k := 5) rfl rfl rfl rfl ?r3k1⟩
    case r3k0 =>
     left
     simp only [amE, reduceEqDiff, ↓reduceIte, reduceCtorEq, reduceAdd, frzLoad, oR2_2, oR2_3, g42_1, faf, ld0f, ld1f, ld2f, ld3f, c71]
    case r3k1 =>
     left
     simp only [amE, reduceEqDiff, ↓reduceIte, reduceCtorEq, reduceAdd, frzLoad, oR2_2, oR2_3, g42_1, faf, ld0f, ld1f, ld2f, ld3f, c71]
  case r32 => repeat (first | exact Kp.refl | refine Kp.set (by decide) ?_)
  case r3o6 => simp only [Fr.get_set, reduceEqDiff, ↓reduceIte]
  case r3o7 => simp only [Fr.get_set, reduceEqDiff, ↓reduceIte]
 have gR3_2 := kR3.g 2 oR2_2
 have gR3_3 := kR3.g 3 oR2_3
 have gR3_4 := kR3.g 4 oR2_4
 have dR3 := kR3.1.trans dR2
 obtain ⟨fR4, hR4, kR4, oR4_25⟩ : ∃ fr', arun ((gT (m + 2)).cg Y) g42_2 fR3 s1 = .ok fr' s1 /\ Kp [2, 3, 4, 5, 6, 7] fR3 fr' /\ fr'.get 25 = some (.bool ((B1 && B2) && B3)) := by cases B1 <;> cases B2 <;> cases B3 <;> exact ⟨_, by simp only [amE, reduceEqDiff, ↓reduceIte, reduceCtorEq, reduceAdd, oR3_6, oR3_7, g42_2, e1, e2, e3, Bool.not_true, Bool.not_false] <;> rfl, Kp.refl.s.s.s.s.s.s.s.s.s.s.s.s, by simp only [Fr.get_set, reduceEqDiff, ↓reduceIte, amB]⟩
 have gR4_2 := kR4.g 2 gR3_2
 have gR4_3 := kR4.g 3 gR3_3
 have gR4_4 := kR4.g 4 gR3_4
 have gR4_6 := kR4.g 6 oR3_6
 have gR4_7 := kR4.g 7 oR3_7
 have dR4 := kR4.1.trans dR3
 generalize hhA1 : ((B1 && B2) && B3) = A1 at hK oR4_25
 cases A1 with
 | true =>
  have hk : kind r r' = .apart := by rw [hK]; simp
  obtain ⟨s9, sto9, n9, l9, k9, m9⟩ := fin_of (c := [.int .i64 r', sw', sk]) n1 k1 g1 (Keeps.refl s1) ((hRe st).cells3)
  obtain ⟨fR5, hR5, kR5, oR5_5⟩ : ∃ fr', arun ((gT (m + 2)).cg Y) g42_3 fR4 s1 = .ok fr' s9 /\ Kp [2, 3, 4, 6, 7] fR4 fr' /\ fr'.get 5 = some (.bool true) := ⟨_, by simp only [amE, reduceEqDiff, ↓reduceIte, reduceCtorEq, reduceAdd, gR4_3, gR4_4, g42_3, faf, ld0f, ld1f, ld2f, ld3f, sto9] <;> rfl, Kp.refl.s.s, gh⟩
  have gR5_4 := kR5.g 4 gR4_4
  have dR5 := kR5.1.trans dR4
  refine ⟨_, true, [.int .i64 r', sw', sk], s9, ?d5, .apart hk, ?rep5, k9⟩
  case d5 =>
   refine fun_of (mf := kf42) (fr := fR5) t42 rfl (.inl ?q5) dR5 (by simp only [kf42, amE, gR5_4, oR5_5, l9])
   case q5 =>
    rw [<- hA1]
    simp only [amE, reduceEqDiff, ↓reduceIte, reduceCtorEq, reduceAdd, kf42, b00, hR2, hR3, hR4, hR5, oR4_25]
  case rep5 =>
   exact hRe s9
 | false =>
  obtain ⟨fR6, hR6, kR6, oR6_38⟩ : ∃ fr', arun ((gT (m + 2)).cg Y) g42_4 fR4 s1 = .ok fr' s1 /\ Kp [2, 3, 4, 5, 6, 7] fR4 fr' /\ fr'.get 38 = some (.bool (B4 && B5)) := by cases B4 <;> exact ⟨_, by simp only [amE, reduceEqDiff, ↓reduceIte, reduceCtorEq, reduceAdd, gR4_2, gR4_3, g42_4, faf, ld0f, ld1f, ld2f, ld3f, e4, c72, Bool.not_true, Bool.not_false] <;> rfl, Kp.refl.s.s.s.s.s.s.s.s.s.s.s, by simp only [Fr.get_set, reduceEqDiff, ↓reduceIte, amB]⟩
  have gR6_2 := kR6.g 2 gR4_2
  have gR6_3 := kR6.g 3 gR4_3
  have gR6_4 := kR6.g 4 gR4_4
  have gR6_6 := kR6.g 6 gR4_6
  have gR6_7 := kR6.g 7 gR4_7
  have dR6 := kR6.1.trans dR4
  generalize hhA2 : (B4 && B5) = A2 at hK oR6_38
  cases A2 with
  | true =>
   have hk : kind r r' = .keep := by rw [hK]; simp
   obtain ⟨ar1, ar2⟩ := kind_keep hk
   obtain ⟨d0, rfl⟩ := len1 (l := l) (by omega)
   obtain ⟨e0, rfl⟩ := len1 (l := k) (by omega)
   obtain ⟨pud, iaud, lxud⟩ := hsl.at (k := 0) (x := d0.cells) (Dv.cellsL_at rfl)
   obtain ⟨pue, iaue, lxue⟩ := hsk.at (k := 0) (x := e0.cells) (Dv.cellsL_at rfl)
   have lxud := fun s => lxud s (f0 s)
   have lxue := fun s => lxue s (f0 s)
   obtain ⟨sAu, hsAu, nAu, kAu, gAu⟩ := new3 s1
   have memu := Dv.fzL_mem (l := [d0]) (t := d0) (by simp)
   obtain ⟨xu, bu, cu, sBu, hcu, hbhu, hrepu, kBu⟩ := ih d0.fz (by omega) d0 rfl e0 (m + 2) Y sAu (Dv.okL_mem hokd.2.2.2.2.2 _ (by simp)) (Dv.okL_mem hoke.2.2.2.2.2 _ (by simp)) (goodL_mem hgl _ (by simp)) (goodL_mem hgk _ (by simp)) (by omega)
   have hcu' : ((gT (m + 2)).cg Y).fn 42 [.agg d0.cells, .agg e0.cells] sAu = .ret (.tuple [.agg cu, .bool bu]) sBu := hcu
   have c3u := hrepu.cells3
   have nBu := kBu.1
   obtain ⟨sCu, stou, nCu, gCu, lCu, kCu, hrepu, pbu, gBu⟩ := sto3_of nAu kAu gAu kBu c3u hrepu
   obtain ⟨fR7, hR7, kR7, oR7_8, oR7_9⟩ : ∃ fr', adraw ((gT (m + 2)).cg Y) g42_5 [(12, some 8), (12, some 13)] fR6 s1 = .ok fr' sCu /\ Kp [2, 3, 4, 5, 6, 7] fR6 fr' /\ fr'.get 8 = some (.ptr s1.next 0) /\ fr'.get 9 = some (.bool bu) := by
    refine ⟨?r70, ?r71, ?r72, ?r7o8, ?r7o9⟩
    case r71 =>
     refine adraw_ok (its := ?r7i) ?r7x ?r7y ?r7z
     case r7x =>
      simp only [amE, reduceEqDiff, ↓reduceIte, reduceCtorEq, reduceAdd, drun_cons, drun_nil, DR.cons, oprD, nextId, preA, gR6_2, gR6_3, g42_5, faf, ld0f, ld1f, ld2f, ld3f, iaud, lxud, iaue, lxue, <- hsAu, gAu, gBu, zb, hcu', exA, exB, stou]
      rfl
     case r7y => rfl
     case r7z =>
      simp only [List.all_cons, List.all_nil, Bool.and_true, Bool.and_eq_true]
      refine ⟨chk_of (i := 12) (k := 8) rfl rfl rfl rfl ?r7k0, chk_of (i := 12) (k := 13) rfl rfl rfl rfl ?r7k1⟩
      case r7k0 =>
       right
       refine ⟨?r7s0, ?r7l0, pbu⟩
       case r7l0 =>
        simp only [amE, reduceEqDiff, ↓reduceIte, reduceCtorEq, reduceAdd, oprD, idAt, nextId, gR6_2, gR6_3, g42_5, faf, ld0f, ld1f, ld2f, ld3f, iaud, lxud, iaue, lxue, <- hsAu, gAu, gBu, zb, hcu', exA, exB, stou]
        rfl
      case r7k1 =>
       right
       refine ⟨?r7s1, ?r7l1, pbu⟩
       case r7l1 =>
        simp only [amE, reduceEqDiff, ↓reduceIte, reduceCtorEq, reduceAdd, oprD, idAt, nextId, gR6_2, gR6_3, g42_5, faf, ld0f, ld1f, ld2f, ld3f, iaud, lxud, iaue, lxue, <- hsAu, gAu, gBu, zb, hcu', exA, exB, stou]
        rfl
    case r72 => repeat (first | exact Kp.refl | refine Kp.set (by decide) ?_)
    case r7o8 => simp only [Fr.get_set, reduceEqDiff, ↓reduceIte]
    case r7o9 => simp only [Fr.get_set, reduceEqDiff, ↓reduceIte]
   have gR7_3 := kR7.g 3 gR6_3
   have gR7_4 := kR7.g 4 gR6_4
   have dR7 := kR7.1.trans dR6
   have fl := bs1 c3u.1
   have fl2 := fill3 (r := r') how (v := .lst 1 cu true) rfl
   obtain ⟨s9, sto9, n9, l9, k9, m9⟩ := fin_of (c := [.int .i64 r', sw', .lst 1 cu true]) n1 k1 g1 kCu (⟨rfl, by show (true && (AV.one sw' && (true && true))) = true; rw [how]; rfl⟩)
   obtain ⟨fR8, hR8, kR8, oR8_5⟩ : ∃ fr', arun ((gT (m + 2)).cg Y) g42_6 fR7 sCu = .ok fr' s9 /\ Kp [2, 3, 4, 6, 7] fR7 fr' /\ fr'.get 5 = some (.bool bu) := ⟨_, by simp only [amE, reduceEqDiff, ↓reduceIte, reduceCtorEq, reduceAdd, gR7_3, gR7_4, oR7_8, oR7_9, g42_6, faf, ld0f, ld1f, ld2f, ld3f, lCu, fl, fl2, sto9] <;> rfl, Kp.refl.s.s.s.s.s.s.s.s.s, gh⟩
   have gR8_4 := kR8.g 4 gR7_4
   have dR8 := kR8.1.trans dR7
   refine ⟨_, bu, [.int .i64 r', sw', .lst 1 cu true], s9, ?d8, .keep hk hbhu, ?rep8, k9⟩
   case d8 =>
    refine fun_of (mf := kf42) (fr := fR8) t42 rfl (.inl ?q8) dR8 (by simp only [kf42, amE, gR8_4, oR8_5, l9])
    case q8 =>
     rw [<- hA1]
     simp only [amE, reduceEqDiff, ↓reduceIte, reduceCtorEq, reduceAdd, kf42, b00, hR2, hR3, hR4, hR6, hR7, hR8, oR4_25, oR6_38]
   case rep8 =>
    simp only [RepD, RepDs]
    refine ⟨sw', _, .lst 1 cu true, [cu], rfl, hsw.mono (f0 s9) (fun _ h => h.elim), RepTs.mono (f0 s9) (fun _ h => h.elim) _ _ hrw, ?_, cu, [], rfl, hrepu.mono (m9 _ fun i hi => by omega) (fun i hi => ⟨by omega, by omega⟩), rfl⟩
    have := SlR.lst (fun i => st.next <= i /\ i < s9.next) s9 (n := 1) (xs := [cu]) (ex := true) (fun x hx => by simp only [List.mem_singleton] at hx; subst hx; exact c3u) (by simp) rfl
    simpa using this
  | false =>
   obtain ⟨fR9, hR9, kR9, oR9_69⟩ : ∃ fr', arun ((gT (m + 2)).cg Y) g42_7 fR6 s1 = .ok fr' s1 /\ Kp [2, 3, 4, 5, 6, 7] fR6 fr' /\ fr'.get 69 = some (.bool (B4 && B6)) := by cases B4 <;> exact ⟨_, by simp only [amE, reduceEqDiff, ↓reduceIte, reduceCtorEq, reduceAdd, gR6_2, gR6_3, g42_7, faf, ld0f, ld1f, ld2f, ld3f, e4, c73, Bool.not_true, Bool.not_false] <;> rfl, Kp.refl.s.s.s.s.s.s.s.s.s.s.s, by simp only [Fr.get_set, reduceEqDiff, ↓reduceIte, amB]⟩
   have gR9_2 := kR9.g 2 gR6_2
   have gR9_3 := kR9.g 3 gR6_3
   have gR9_4 := kR9.g 4 gR6_4
   have gR9_6 := kR9.g 6 gR6_6
   have gR9_7 := kR9.g 7 gR6_7
   have dR9 := kR9.1.trans dR6
   generalize hhA3 : (B4 && B6) = A3 at hK oR9_69
   cases A3 with
   | true =>
    have hk : kind r r' = .lose := by rw [hK]; simp
    obtain ⟨ar1, ar2⟩ := kind_lose hk
    obtain ⟨d0, rfl⟩ := len1 (l := l) (by omega)
    obtain ⟨e0, rfl⟩ := len1 (l := k) (by omega)
    obtain ⟨s2, hc2, k2⟩ := c38 s1
    have n2 := k2.1
    have e9 : binB false .neq (.int .i64 (cmpTs vs ws)) (.int .i64 (.ofNat 0)) = some (.bool (cmpTs vs ws != 0)) := rfl
    obtain ⟨fR10, hR10, kR10, oR10_85⟩ : ∃ fr', arun ((gT (m + 2)).cg Y) g42_8 fR9 s1 = .ok fr' s2 /\ Kp [2, 3, 4, 5, 6, 7] fR9 fr' /\ fr'.get 85 = some (.bool (cmpTs vs ws != 0)) := ⟨_, by simp only [amE, reduceEqDiff, ↓reduceIte, reduceCtorEq, reduceAdd, gR9_2, gR9_3, g42_8, faf, ld0f, ld1f, ld2f, ld3f, hc2, e9] <;> rfl, Kp.refl.s.s.s.s.s.s, gh⟩
    have gR10_2 := kR10.g 2 gR9_2
    have gR10_3 := kR10.g 3 gR9_3
    have gR10_4 := kR10.g 4 gR9_4
    have dR10 := kR10.1.trans dR9
    generalize hNE : (cmpTs vs ws != 0) = NE at oR10_85
    cases NE with
    | true =>
     obtain ⟨s9, sto9, n9, l9, k9, m9⟩ := fin_of (c := [.int .i64 (.ofNat 0), .nilsl, .nilsl]) n1 k1 g1 k2 (⟨rfl, rfl⟩)
     obtain ⟨fR11, hR11, kR11, oR11_5⟩ : ∃ fr', arun ((gT (m + 2)).cg Y) g42_9 fR10 s2 = .ok fr' s9 /\ Kp [2, 3, 4, 6, 7] fR10 fr' /\ fr'.get 5 = some (.bool false) := ⟨_, by simp only [amE, reduceEqDiff, ↓reduceIte, reduceCtorEq, reduceAdd, gR10_4, g42_9, faf, ld0f, ld1f, ld2f, ld3f, fz0, sto9] <;> rfl, Kp.refl.s.s, gh⟩
     have gR11_4 := kR11.g 4 gR10_4
     have dR11 := kR11.1.trans dR10
     refine ⟨.mk 0 true false [] true false [], false, [.int .i64 (.ofNat 0), .nilsl, .nilsl], s9, ?d11, .loseNo hk (by simpa using hNE), ?rep11, k9⟩
     case d11 =>
      refine fun_of (mf := kf42) (fr := fR11) t42 rfl (.inl ?q11) dR11 (by simp only [kf42, amE, gR11_4, oR11_5, l9])
      case q11 =>
       rw [<- hA1]
       simp only [amE, reduceEqDiff, ↓reduceIte, reduceCtorEq, reduceAdd, kf42, b00, hR2, hR3, hR4, hR6, hR9, hR10, hR11, oR4_25, oR6_38, oR9_69, oR10_85]
     case rep11 =>
      simp only [RepD]
      exact ⟨.nilsl, [], .nilsl, [], rfl, SlR.nil _ _, by simp only [RepTs], SlR.nil _ _, by simp only [RepDs]⟩
    | false =>
     obtain ⟨pud, iaud, lxud⟩ := hsl.at (k := 0) (x := d0.cells) (Dv.cellsL_at rfl)
     obtain ⟨pue, iaue, lxue⟩ := hsk.at (k := 0) (x := e0.cells) (Dv.cellsL_at rfl)
     have lxud := fun s => lxud s (f0 s)
     have lxue := fun s => lxue s (f0 s)
     have memu := Dv.fzL_mem (l := [d0]) (t := d0) (by simp)
     obtain ⟨xu, bu, cu, sBu, hcu, hbhu, hrepu, kBu⟩ := ih d0.fz (by omega) d0 rfl e0 (m + 2) Y s2 (Dv.okL_mem hokd.2.2.2.2.2 _ (by simp)) (Dv.okL_mem hoke.2.2.2.2.2 _ (by simp)) (goodL_mem hgl _ (by simp)) (goodL_mem hgk _ (by simp)) (by omega)
     have hcu' : ((gT (m + 2)).cg Y).fn 42 [.agg d0.cells, .agg e0.cells] s2 = .ret (.tuple [.agg cu, .bool bu]) sBu := hcu
     have nBu := kBu.1
     obtain ⟨s9, sto9, n9, l9, k9, m9⟩ := fin_of (c := cu) n1 k1 g1 (k2.trans kBu) (hrepu.cells3)
     obtain ⟨fR12, hR12, kR12, oR12_5⟩ : ∃ fr', adraw ((gT (m + 2)).cg Y) g42_10 [] fR10 s2 = .ok fr' s9 /\ Kp [2, 3, 4, 6, 7] fR10 fr' /\ fr'.get 5 = some (.bool bu) := by
      refine ⟨?r120, ?r121, ?r122, ?r12o5⟩
      case r121 =>
       refine adraw_ok (its := ?r12i) ?r12x ?r12y ?r12z
       case r12x =>
        simp only [amE, reduceEqDiff, ↓reduceIte, reduceCtorEq, reduceAdd, drun_cons, drun_nil, DR.cons, oprD, nextId, preA, gR10_2, gR10_3, gR10_4, g42_10, faf, ld0f, ld1f, ld2f, ld3f, iaud, lxud, iaue, lxue, hcu', exA, exB, sto9]
        rfl
       case r12y => rfl
       case r12z =>
        simp only [List.all_cons, List.all_nil, Bool.and_true, Bool.and_eq_true]
      case r122 => repeat (first | exact Kp.refl | refine Kp.set (by decide) ?_)
      case r12o5 => simp only [Fr.get_set, reduceEqDiff, ↓reduceIte]
     have gR12_4 := kR12.g 4 gR10_4
     have dR12 := kR12.1.trans dR10
     refine ⟨xu, bu, cu, s9, ?d12, .lose hk (by simpa using hNE) hbhu, ?rep12, k9⟩
     case d12 =>
      refine fun_of (mf := kf42) (fr := fR12) t42 rfl (.inl ?q12) dR12 (by simp only [kf42, amE, gR12_4, oR12_5, l9])
      case q12 =>
       rw [<- hA1]
       simp only [amE, reduceEqDiff, ↓reduceIte, reduceCtorEq, reduceAdd, kf42, b00, hR2, hR3, hR4, hR6, hR9, hR10, hR12, oR4_25, oR6_38, oR9_69, oR10_85]
     case rep12 =>
      exact hrepu.mono (m9 _ fun i hi => by omega) (fun i hi => ⟨by omega, by omega⟩)
   | false =>
    obtain ⟨fR13, hR13, kR13, oR13_98⟩ : ∃ fr', arun ((gT (m + 2)).cg Y) g42_11 fR9 s1 = .ok fr' s1 /\ Kp [2, 3, 4, 5, 6, 7] fR9 fr' /\ fr'.get 98 = some (.bool (B7 && B8)) := by cases B7 <;> exact ⟨_, by simp only [amE, reduceEqDiff, ↓reduceIte, reduceCtorEq, reduceAdd, gR9_2, gR9_3, g42_11, faf, ld0f, ld1f, ld2f, ld3f, e7, e8, Bool.not_true, Bool.not_false] <;> rfl, Kp.refl.s.s.s.s.s.s.s.s.s, by simp only [Fr.get_set, reduceEqDiff, ↓reduceIte, amB]⟩
    have gR13_2 := kR13.g 2 gR9_2
    have gR13_3 := kR13.g 3 gR9_3
    have gR13_4 := kR13.g 4 gR9_4
    have gR13_6 := kR13.g 6 gR9_6
    have gR13_7 := kR13.g 7 gR9_7
    have dR13 := kR13.1.trans dR9
    generalize hhA4 : (B7 && B8) = A4 at hK oR13_98
    cases A4 with
    | true =>
     have hk : kind r r' = .sync := by rw [hK]; simp
     have h7 := kind_sync hk
     have ar1 : arN r = 2 := by rw [h7.1]; rfl
     have ar2 : arN r' = 2 := by rw [h7.2]; rfl
     obtain ⟨d0, d1, rfl⟩ := len2 (l := l) (by omega)
     obtain ⟨e0, e1, rfl⟩ := len2 (l := k) (by omega)
     obtain ⟨pud, iaud, lxud⟩ := hsl.at (k := 0) (x := d0.cells) (Dv.cellsL_at rfl)
     obtain ⟨pue, iaue, lxue⟩ := hsk.at (k := 0) (x := e0.cells) (Dv.cellsL_at rfl)
     have lxud := fun s => lxud s (f0 s)
     have lxue := fun s => lxue s (f0 s)
     obtain ⟨sAu, hsAu, nAu, kAu, gAu⟩ := new3 s1
     have memu := Dv.fzL_mem (l := [d0, d1]) (t := d0) (by simp)
     obtain ⟨xu, bu, cu, sBu, hcu, hbhu, hrepu, kBu⟩ := ih d0.fz (by omega) d0 rfl e0 (m + 2) Y sAu (Dv.okL_mem hokd.2.2.2.2.2 _ (by simp)) (Dv.okL_mem hoke.2.2.2.2.2 _ (by simp)) (goodL_mem hgl _ (by simp)) (goodL_mem hgk _ (by simp)) (by omega)
     have hcu' : ((gT (m + 2)).cg Y).fn 42 [.agg d0.cells, .agg e0.cells] sAu = .ret (.tuple [.agg cu, .bool bu]) sBu := hcu
     have c3u := hrepu.cells3
     have nBu := kBu.1
     obtain ⟨sCu, stou, nCu, gCu, lCu, kCu, hrepu, pbu, gBu⟩ := sto3_of nAu kAu gAu kBu c3u hrepu
     obtain ⟨fR14, hR14, kR14, oR14_10, oR14_11⟩ : ∃ fr', adraw ((gT (m + 2)).cg Y) g42_12 [(12, some 8), (12, some 13)] fR13 s1 = .ok fr' sCu /\ Kp [2, 3, 4, 5, 6, 7] fR13 fr' /\ fr'.get 10 = some (.ptr s1.next 0) /\ fr'.get 11 = some (.bool bu) := by
      refine ⟨?r140, ?r141, ?r142, ?r14o10, ?r14o11⟩
      case r141 =>
       refine adraw_ok (its := ?r14i) ?r14x ?r14y ?r14z
       case r14x =>
        simp only [amE, reduceEqDiff, ↓reduceIte, reduceCtorEq, reduceAdd, drun_cons, drun_nil, DR.cons, oprD, nextId, preA, gR13_2, gR13_3, g42_12, faf, ld0f, ld1f, ld2f, ld3f, iaud, lxud, iaue, lxue, <- hsAu, gAu, gBu, zb, hcu', exA, exB, stou]
        rfl
       case r14y => rfl
       case r14z =>
        simp only [List.all_cons, List.all_nil, Bool.and_true, Bool.and_eq_true]
        refine ⟨chk_of (i := 12) (k := 8) rfl rfl rfl rfl ?r14k0, chk_of (i := 12) (k := 13) rfl rfl rfl rfl ?r14k1⟩
        case r14k0 =>
         right
         refine ⟨?r14s0, ?r14l0, pbu⟩
         case r14l0 =>
          simp only [amE, reduceEqDiff, ↓reduceIte, reduceCtorEq, reduceAdd, oprD, idAt, nextId, gR13_2, gR13_3, g42_12, faf, ld0f, ld1f, ld2f, ld3f, iaud, lxud, iaue, lxue, <- hsAu, gAu, gBu, zb, hcu', exA, exB, stou]
          rfl
        case r14k1 =>
         right
         refine ⟨?r14s1, ?r14l1, pbu⟩
         case r14l1 =>
          simp only [amE, reduceEqDiff, ↓reduceIte, reduceCtorEq, reduceAdd, oprD, idAt, nextId, gR13_2, gR13_3, g42_12, faf, ld0f, ld1f, ld2f, ld3f, iaud, lxud, iaue, lxue, <- hsAu, gAu, gBu, zb, hcu', exA, exB, stou]
          rfl
      case r142 => repeat (first | exact Kp.refl | refine Kp.set (by decide) ?_)
      case r14o10 => simp only [Fr.get_set, reduceEqDiff, ↓reduceIte]
      case r14o11 => simp only [Fr.get_set, reduceEqDiff, ↓reduceIte]
     have gR14_2 := kR14.g 2 gR13_2
     have gR14_3 := kR14.g 3 gR13_3
     have gR14_4 := kR14.g 4 gR13_4
     have dR14 := kR14.1.trans dR13
     obtain ⟨pwd, iawd, lxwd⟩ := hsl.at (k := 1) (x := d1.cells) (Dv.cellsL_at rfl)
     obtain ⟨pwe, iawe, lxwe⟩ := hsk.at (k := 1) (x := e1.cells) (Dv.cellsL_at rfl)
     have lxwd := fun s => lxwd s (f0 s)
     have lxwe := fun s => lxwe s (f0 s)
     obtain ⟨sAw, hsAw, nAw, kAw, gAw⟩ := new3 sCu
     have memw := Dv.fzL_mem (l := [d0, d1]) (t := d1) (by simp)
     obtain ⟨xw, bw, cw, sBw, hcw, hbhw, hrepw, kBw⟩ := ih d1.fz (by omega) d1 rfl e1 (m + 2) Y sAw (Dv.okL_mem hokd.2.2.2.2.2 _ (by simp)) (Dv.okL_mem hoke.2.2.2.2.2 _ (by simp)) (goodL_mem hgl _ (by simp)) (goodL_mem hgk _ (by simp)) (by omega)
     have hcw' : ((gT (m + 2)).cg Y).fn 42 [.agg d1.cells, .agg e1.cells] sAw = .ret (.tuple [.agg cw, .bool bw]) sBw := hcw
     have c3w := hrepw.cells3
     have nBw := kBw.1
     obtain ⟨sCw, stow, nCw, gCw, lCw, kCw, hrepw, pbw, gBw⟩ := sto3_of nAw kAw gAw kBw c3w hrepw
     obtain ⟨fR15, hR15, kR15, oR15_12, oR15_13⟩ : ∃ fr', adraw ((gT (m + 2)).cg Y) g42_13 [(12, some 8), (12, some 13)] fR14 sCu = .ok fr' sCw /\ Kp [2, 3, 4, 5, 6, 7, 10, 11] fR14 fr' /\ fr'.get 12 = some (.ptr sCu.next 0) /\ fr'.get 13 = some (.bool bw) := by
      refine ⟨?r150, ?r151, ?r152, ?r15o12, ?r15o13⟩
      case r151 =>
       refine adraw_ok (its := ?r15i) ?r15x ?r15y ?r15z
       case r15x =>
        simp only [amE, reduceEqDiff, ↓reduceIte, reduceCtorEq, reduceAdd, drun_cons, drun_nil, DR.cons, oprD, nextId, preA, gR14_2, gR14_3, g42_13, faf, ld0f, ld1f, ld2f, ld3f, iawd, lxwd, iawe, lxwe, <- hsAw, gAw, gBw, zb, hcw', exA, exB, stow]
        rfl
       case r15y => rfl
       case r15z =>
        simp only [List.all_cons, List.all_nil, Bool.and_true, Bool.and_eq_true]
        refine ⟨chk_of (i := 12) (k := 8) rfl rfl rfl rfl ?r15k0, chk_of (i := 12) (k := 13) rfl rfl rfl rfl ?r15k1⟩
        case r15k0 =>
         right
         refine ⟨?r15s0, ?r15l0, pbw⟩
         case r15l0 =>
          simp only [amE, reduceEqDiff, ↓reduceIte, reduceCtorEq, reduceAdd, oprD, idAt, nextId, gR14_2, gR14_3, g42_13, faf, ld0f, ld1f, ld2f, ld3f, iawd, lxwd, iawe, lxwe, <- hsAw, gAw, gBw, zb, hcw', exA, exB, stow]
          rfl
        case r15k1 =>
         right
         refine ⟨?r15s1, ?r15l1, pbw⟩
         case r15l1 =>
          simp only [amE, reduceEqDiff, ↓reduceIte, reduceCtorEq, reduceAdd, oprD, idAt, nextId, gR14_2, gR14_3, g42_13, faf, ld0f, ld1f, ld2f, ld3f, iawd, lxwd, iawe, lxwe, <- hsAw, gAw, gBw, zb, hcw', exA, exB, stow]
          rfl
      case r152 => repeat (first | exact Kp.refl | refine Kp.set (by decide) ?_)
      case r15o12 => simp only [Fr.get_set, reduceEqDiff, ↓reduceIte]
      case r15o13 => simp only [Fr.get_set, reduceEqDiff, ↓reduceIte]
     have gR15_4 := kR15.g 4 gR14_4
     have gR15_10 := kR15.g 10 oR14_10
     have gR15_11 := kR15.g 11 oR14_11
     have dR15 := kR15.1.trans dR14
     have lCu2 := load_row (kCw.get (i := s1.next) (by omega) gCu) c3u.1
     have fl := bs2 c3u.1 c3w.1
     have fl2 := fill13 (r := .ofNat 7) (v := .lst 2 (cu ++ cw) true) rfl
     obtain ⟨s9, sto9, n9, l9, k9, m9⟩ := fin_of (c := [.int .i64 (.ofNat 7), .nilsl, .lst 2 (cu ++ cw) true]) n1 k1 g1 (kCu.trans kCw) (⟨rfl, rfl⟩)
     obtain ⟨fR16, hR16, kR16, oR16_5⟩ : ∃ fr', arun ((gT (m + 2)).cg Y) g42_14 fR15 sCw = .ok fr' s9 /\ Kp [2, 3, 4, 6, 7] fR15 fr' /\ fr'.get 5 = some (.bool (bu && bw)) := by cases bu <;> exact ⟨_, by simp only [amE, reduceEqDiff, ↓reduceIte, reduceCtorEq, reduceAdd, gR15_4, gR15_10, gR15_11, oR15_12, oR15_13, g42_14, faf, ld0f, ld1f, ld2f, ld3f, lCu2, lCw, fl, fl2, sto9, Bool.not_true, Bool.not_false] <;> rfl, Kp.refl.s.s.s.s.s.s.s.s.s, by simp only [Fr.get_set, reduceEqDiff, ↓reduceIte, amB]⟩
     have gR16_4 := kR16.g 4 gR15_4
     have dR16 := kR16.1.trans dR15
     refine ⟨_, (bu && bw), [.int .i64 (.ofNat 7), .nilsl, .lst 2 (cu ++ cw) true], s9, ?d16, .sync hk hbhu hbhw, ?rep16, k9⟩
     case d16 =>
      refine fun_of (mf := kf42) (fr := fR16) t42 rfl (.inl ?q16) dR16 (by simp only [kf42, amE, gR16_4, oR16_5, l9])
      case q16 =>
       rw [<- hA1]
       simp only [amE, reduceEqDiff, ↓reduceIte, reduceCtorEq, reduceAdd, kf42, b00, hR2, hR3, hR4, hR6, hR9, hR13, hR14, hR15, hR16, oR4_25, oR6_38, oR9_69, oR13_98]
     case rep16 =>
      simp only [RepD, RepTs, RepDs]
      refine ⟨.nilsl, [], .lst 2 (cu ++ cw) true, [cu, cw], rfl, SlR.nil _ _, rfl, ?_, cu, [cw], rfl, (hrepu.mono (Same.of kCw fun i hi => by omega) (fun _ h => h)).mono (m9 _ fun i hi => by omega) (fun i hi => ⟨by omega, by omega⟩), cw, [], rfl, hrepw.mono (m9 _ fun i hi => by omega) (fun i hi => ⟨by omega, by omega⟩), rfl⟩
      have := SlR.lst (fun i => st.next <= i /\ i < s9.next) s9 (n := 2) (xs := [cu, cw]) (ex := true) (fun x hx => by
       simp only [List.mem_cons, List.not_mem_nil, or_false] at hx
       rcases hx with rfl | rfl
       ·exact c3u
       ·exact c3w) (by simp) rfl
      simpa using this
    | false =>
     obtain ⟨fR17, hR17, kR17, oR17_139⟩ : ∃ fr', arun ((gT (m + 2)).cg Y) g42_15 fR13 s1 = .ok fr' s1 /\ Kp [2, 3, 4, 5, 6, 7] fR13 fr' /\ fr'.get 139 = some (.bool (B7 && B2)) := by cases B7 <;> exact ⟨_, by simp only [amE, reduceEqDiff, ↓reduceIte, reduceCtorEq, reduceAdd, gR13_2, gR13_7, g42_15, faf, ld0f, ld1f, ld2f, ld3f, e7, e2, Bool.not_true, Bool.not_false] <;> rfl, Kp.refl.s.s.s.s.s.s.s.s, by simp only [Fr.get_set, reduceEqDiff, ↓reduceIte, amB]⟩
     have gR17_2 := kR17.g 2 gR13_2
     have gR17_3 := kR17.g 3 gR13_3
     have gR17_4 := kR17.g 4 gR13_4
     have gR17_6 := kR17.g 6 gR13_6
     have gR17_7 := kR17.g 7 gR13_7
     have dR17 := kR17.1.trans dR13
     generalize hhA5 : (B7 && B2) = A5 at hK oR17_139
     cases A5 with
     | true =>
      have hk : kind r r' = .syncL := by rw [hK]; simp
      have h56 := kind_syncL hk
      have h7 : r = 7 := by
       have : B7 = true := by cases B7 <;> simp at hhA5 <;> rfl
       rw [this] at hB7; simpa using hB7
      have ar1 : arN r = 2 := by rw [h7]; rfl
      have ar2 : arN r' = 1 := side_ar h56
      obtain ⟨d0, d1, rfl⟩ := len2 (l := l) (by omega)
      obtain ⟨e0, rfl⟩ := len1 (l := k) (by omega)
      rcases h56 with h5 | h5
      ·have hsd : sideI r' = .ofNat 0 := by rw [h5]; rfl
       obtain ⟨pud, iaud, lxud⟩ := hsl.at (k := 0) (x := d0.cells) (Dv.cellsL_at rfl)
       obtain ⟨pue, iaue, lxue⟩ := hsk.at (k := 0) (x := e0.cells) (Dv.cellsL_at rfl)
       have lxud := fun s => lxud s (f0 s)
       have lxue := fun s => lxue s (f0 s)
       obtain ⟨sAu, hsAu, nAu, kAu, gAu⟩ := new3 s1
       have memu := Dv.fzL_mem (l := [d0, d1]) (t := d0) (by simp)
       obtain ⟨xu, bu, cu, sBu, hcu, hbhu, hrepu, kBu⟩ := ih d0.fz (by omega) d0 rfl e0 (m + 2) Y sAu (Dv.okL_mem hokd.2.2.2.2.2 _ (by simp)) (Dv.okL_mem hoke.2.2.2.2.2 _ (by simp)) (goodL_mem hgl _ (by simp)) (goodL_mem hgk _ (by simp)) (by omega)
       have hcu' : ((gT (m + 2)).cg Y).fn 42 [.agg d0.cells, .agg e0.cells] sAu = .ret (.tuple [.agg cu, .bool bu]) sBu := hcu
       have c3u := hrepu.cells3
       have nBu := kBu.1
       obtain ⟨sCu, stou, nCu, gCu, lCu, kCu, hrepu, pbu, gBu⟩ := sto3_of nAu kAu gAu kBu c3u hrepu
       obtain ⟨fR18, hR18, kR18, oR18_14, oR18_15⟩ : ∃ fr', adraw ((gT (m + 2)).cg Y) g42_16 [(13, some 9), (13, some 14)] fR17 s1 = .ok fr' sCu /\ Kp [2, 3, 4, 5, 6] fR17 fr' /\ fr'.get 14 = some (.ptr s1.next 0) /\ fr'.get 15 = some (.bool bu) := by
        refine ⟨?r180, ?r181, ?r182, ?r18o14, ?r18o15⟩
        case r181 =>
         refine adraw_ok (its := ?r18i) ?r18x ?r18y ?r18z
         case r18x =>
          simp only [amE, reduceEqDiff, ↓reduceIte, reduceCtorEq, reduceAdd, drun_cons, drun_nil, DR.cons, oprD, nextId, preA, gR17_2, gR17_3, gR17_7, g42_16, faf, ld0f, ld1f, ld2f, ld3f, hsd, iaud, lxud, iaue, lxue, <- hsAu, gAu, gBu, zb, hcu', exA, exB, stou]
          rfl
         case r18y => rfl
         case r18z =>
          simp only [List.all_cons, List.all_nil, Bool.and_true, Bool.and_eq_true]
          refine ⟨chk_of (i := 13) (k := 9) rfl rfl rfl rfl ?r18k0, chk_of (i := 13) (k := 14) rfl rfl rfl rfl ?r18k1⟩
          case r18k0 =>
           right
           refine ⟨?r18s0, ?r18l0, pbu⟩
           case r18l0 =>
            simp only [amE, reduceEqDiff, ↓reduceIte, reduceCtorEq, reduceAdd, oprD, idAt, nextId, gR17_2, gR17_3, gR17_7, g42_16, faf, ld0f, ld1f, ld2f, ld3f, hsd, iaud, lxud, iaue, lxue, <- hsAu, gAu, gBu, zb, hcu', exA, exB, stou]
            rfl
          case r18k1 =>
           right
           refine ⟨?r18s1, ?r18l1, pbu⟩
           case r18l1 =>
            simp only [amE, reduceEqDiff, ↓reduceIte, reduceCtorEq, reduceAdd, oprD, idAt, nextId, gR17_2, gR17_3, gR17_7, g42_16, faf, ld0f, ld1f, ld2f, ld3f, hsd, iaud, lxud, iaue, lxue, <- hsAu, gAu, gBu, zb, hcu', exA, exB, stou]
            rfl
        case r182 => repeat (first | exact Kp.refl | refine Kp.set (by decide) ?_)
        case r18o14 => simp only [Fr.get_set, reduceEqDiff, ↓reduceIte]
        case r18o15 => simp only [Fr.get_set, reduceEqDiff, ↓reduceIte]
       have gR18_3 := kR18.g 3 gR17_3
       have gR18_4 := kR18.g 4 gR17_4
       have dR18 := kR18.1.trans dR17
       have fl := bs1 c3u.1
       have fl2 := fill13 (r := r') (v := .lst 1 cu true) rfl
       obtain ⟨s9, sto9, n9, l9, k9, m9⟩ := fin_of (c := [.int .i64 r', .nilsl, .lst 1 cu true]) n1 k1 g1 kCu (⟨rfl, rfl⟩)
       obtain ⟨fR19, hR19, kR19, oR19_5⟩ : ∃ fr', arun ((gT (m + 2)).cg Y) g42_17 fR18 sCu = .ok fr' s9 /\ Kp [2, 3, 4, 6] fR18 fr' /\ fr'.get 5 = some (.bool bu) := ⟨_, by simp only [amE, reduceEqDiff, ↓reduceIte, reduceCtorEq, reduceAdd, gR18_3, gR18_4, oR18_14, oR18_15, g42_17, faf, ld0f, ld1f, ld2f, ld3f, lCu, fl, fl2, sto9] <;> rfl, Kp.refl.s.s.s.s.s.s.s, gh⟩
       have gR19_4 := kR19.g 4 gR18_4
       have dR19 := kR19.1.trans dR18
       refine ⟨_, bu, [.int .i64 r', .nilsl, .lst 1 cu true], s9, ?d19, .syncL0 hk h5 hbhu, ?rep19, k9⟩
       case d19 =>
        refine fun_of (mf := kf42) (fr := fR19) t42 rfl (.inl ?q19) dR19 (by simp only [kf42, amE, gR19_4, oR19_5, l9])
        case q19 =>
         rw [<- hA1]
         simp only [amE, reduceEqDiff, ↓reduceIte, reduceCtorEq, reduceAdd, kf42, b00, hR2, hR3, hR4, hR6, hR9, hR13, hR17, hR18, hR19, oR4_25, oR6_38, oR9_69, oR13_98, oR17_139]
       case rep19 =>
        simp only [RepD, RepTs, RepDs]
        refine ⟨.nilsl, [], .lst 1 cu true, [cu], rfl, SlR.nil _ _, rfl, ?_, cu, [], rfl, hrepu.mono (m9 _ fun i hi => by omega) (fun i hi => ⟨by omega, by omega⟩), rfl⟩
        have := SlR.lst (fun i => st.next <= i /\ i < s9.next) s9 (n := 1) (xs := [cu]) (ex := true) (fun x hx => by simp only [List.mem_singleton] at hx; subst hx; exact c3u) (by simp) rfl
        simpa using this
      ·have hsd : sideI r' = .ofNat 1 := by rw [h5]; rfl
       obtain ⟨pud, iaud, lxud⟩ := hsl.at (k := 1) (x := d1.cells) (Dv.cellsL_at rfl)
       obtain ⟨pue, iaue, lxue⟩ := hsk.at (k := 0) (x := e0.cells) (Dv.cellsL_at rfl)
       have lxud := fun s => lxud s (f0 s)
       have lxue := fun s => lxue s (f0 s)
       obtain ⟨sAu, hsAu, nAu, kAu, gAu⟩ := new3 s1
       have memu := Dv.fzL_mem (l := [d0, d1]) (t := d1) (by simp)
       obtain ⟨xu, bu, cu, sBu, hcu, hbhu, hrepu, kBu⟩ := ih d1.fz (by omega) d1 rfl e0 (m + 2) Y sAu (Dv.okL_mem hokd.2.2.2.2.2 _ (by simp)) (Dv.okL_mem hoke.2.2.2.2.2 _ (by simp)) (goodL_mem hgl _ (by simp)) (goodL_mem hgk _ (by simp)) (by omega)
       have hcu' : ((gT (m + 2)).cg Y).fn 42 [.agg d1.cells, .agg e0.cells] sAu = .ret (.tuple [.agg cu, .bool bu]) sBu := hcu
       have c3u := hrepu.cells3
       have nBu := kBu.1
       obtain ⟨sCu, stou, nCu, gCu, lCu, kCu, hrepu, pbu, gBu⟩ := sto3_of nAu kAu gAu kBu c3u hrepu
       obtain ⟨fR20, hR20, kR20, oR20_14, oR20_15⟩ : ∃ fr', adraw ((gT (m + 2)).cg Y) g42_16 [(13, some 9), (13, some 14)] fR17 s1 = .ok fr' sCu /\ Kp [2, 3, 4, 5, 6] fR17 fr' /\ fr'.get 14 = some (.ptr s1.next 0) /\ fr'.get 15 = some (.bool bu) := by
        refine ⟨?r200, ?r201, ?r202, ?r20o14, ?r20o15⟩
        case r201 =>
         refine adraw_ok (its := ?r20i) ?r20x ?r20y ?r20z
         case r20x =>
          simp only [amE, reduceEqDiff, ↓reduceIte, reduceCtorEq, reduceAdd, drun_cons, drun_nil, DR.cons, oprD, nextId, preA, gR17_2, gR17_3, gR17_7, g42_16, faf, ld0f, ld1f, ld2f, ld3f, hsd, iaud, lxud, iaue, lxue, <- hsAu, gAu, gBu, zb, hcu', exA, exB, stou]
          rfl
         case r20y => rfl
         case r20z =>
          simp only [List.all_cons, List.all_nil, Bool.and_true, Bool.and_eq_true]
          refine ⟨chk_of (i := 13) (k := 9) rfl rfl rfl rfl ?r20k0, chk_of (i := 13) (k := 14) rfl rfl rfl rfl ?r20k1⟩
          case r20k0 =>
           right
           refine ⟨?r20s0, ?r20l0, pbu⟩
           case r20l0 =>
            simp only [amE, reduceEqDiff, ↓reduceIte, reduceCtorEq, reduceAdd, oprD, idAt, nextId, gR17_2, gR17_3, gR17_7, g42_16, faf, ld0f, ld1f, ld2f, ld3f, hsd, iaud, lxud, iaue, lxue, <- hsAu, gAu, gBu, zb, hcu', exA, exB, stou]
            rfl
          case r20k1 =>
           right
           refine ⟨?r20s1, ?r20l1, pbu⟩
           case r20l1 =>
            simp only [amE, reduceEqDiff, ↓reduceIte, reduceCtorEq, reduceAdd, oprD, idAt, nextId, gR17_2, gR17_3, gR17_7, g42_16, faf, ld0f, ld1f, ld2f, ld3f, hsd, iaud, lxud, iaue, lxue, <- hsAu, gAu, gBu, zb, hcu', exA, exB, stou]
            rfl
        case r202 => repeat (first | exact Kp.refl | refine Kp.set (by decide) ?_)
        case r20o14 => simp only [Fr.get_set, reduceEqDiff, ↓reduceIte]
        case r20o15 => simp only [Fr.get_set, reduceEqDiff, ↓reduceIte]
       have gR20_3 := kR20.g 3 gR17_3
       have gR20_4 := kR20.g 4 gR17_4
       have dR20 := kR20.1.trans dR17
       have fl := bs1 c3u.1
       have fl2 := fill13 (r := r') (v := .lst 1 cu true) rfl
       obtain ⟨s9, sto9, n9, l9, k9, m9⟩ := fin_of (c := [.int .i64 r', .nilsl, .lst 1 cu true]) n1 k1 g1 kCu (⟨rfl, rfl⟩)
       obtain ⟨fR21, hR21, kR21, oR21_5⟩ : ∃ fr', arun ((gT (m + 2)).cg Y) g42_17 fR20 sCu = .ok fr' s9 /\ Kp [2, 3, 4, 6] fR20 fr' /\ fr'.get 5 = some (.bool bu) := ⟨_, by simp only [amE, reduceEqDiff, ↓reduceIte, reduceCtorEq, reduceAdd, gR20_3, gR20_4, oR20_14, oR20_15, g42_17, faf, ld0f, ld1f, ld2f, ld3f, lCu, fl, fl2, sto9] <;> rfl, Kp.refl.s.s.s.s.s.s.s, gh⟩
       have gR21_4 := kR21.g 4 gR20_4
       have dR21 := kR21.1.trans dR20
       refine ⟨_, bu, [.int .i64 r', .nilsl, .lst 1 cu true], s9, ?d21, .syncL1 hk h5 hbhu, ?rep21, k9⟩
       case d21 =>
        refine fun_of (mf := kf42) (fr := fR21) t42 rfl (.inl ?q21) dR21 (by simp only [kf42, amE, gR21_4, oR21_5, l9])
        case q21 =>
         rw [<- hA1]
         simp only [amE, reduceEqDiff, ↓reduceIte, reduceCtorEq, reduceAdd, kf42, b00, hR2, hR3, hR4, hR6, hR9, hR13, hR17, hR20, hR21, oR4_25, oR6_38, oR9_69, oR13_98, oR17_139]
       case rep21 =>
        simp only [RepD, RepTs, RepDs]
        refine ⟨.nilsl, [], .lst 1 cu true, [cu], rfl, SlR.nil _ _, rfl, ?_, cu, [], rfl, hrepu.mono (m9 _ fun i hi => by omega) (fun i hi => ⟨by omega, by omega⟩), rfl⟩
        have := SlR.lst (fun i => st.next <= i /\ i < s9.next) s9 (n := 1) (xs := [cu]) (ex := true) (fun x hx => by simp only [List.mem_singleton] at hx; subst hx; exact c3u) (by simp) rfl
        simpa using this
     | false =>
      obtain ⟨fR22, hR22, kR22, oR22_166⟩ : ∃ fr', arun ((gT (m + 2)).cg Y) g42_18 fR17 s1 = .ok fr' s1 /\ Kp [2, 3, 4, 5, 6] fR17 fr' /\ fr'.get 166 = some (.bool (B1 && B8)) := by cases B1 <;> exact ⟨_, by simp only [amE, reduceEqDiff, ↓reduceIte, reduceCtorEq, reduceAdd, gR17_3, gR17_6, g42_18, faf, ld0f, ld1f, ld2f, ld3f, e8, e1, Bool.not_true, Bool.not_false] <;> rfl, Kp.refl.s.s.s.s.s.s.s.s, by simp only [Fr.get_set, reduceEqDiff, ↓reduceIte, amB]⟩
      have gR22_2 := kR22.g 2 gR17_2
      have gR22_3 := kR22.g 3 gR17_3
      have gR22_4 := kR22.g 4 gR17_4
      have gR22_6 := kR22.g 6 gR17_6
      have dR22 := kR22.1.trans dR17
      generalize hhA6 : (B1 && B8) = A6 at hK oR22_166
      cases A6 with
      | true =>
       have hk : kind r r' = .syncR := by rw [hK]; simp
       obtain ⟨h56, h7⟩ := kind_syncR hk
       have ar1 : arN r = 1 := side_ar h56
       have ar2 : arN r' = 2 := by rw [h7]; rfl
       obtain ⟨d0, rfl⟩ := len1 (l := l) (by omega)
       obtain ⟨e0, e1, rfl⟩ := len2 (l := k) (by omega)
       rcases h56 with h5 | h5
       ·have hsd : sideI r = .ofNat 0 := by rw [h5]; rfl
        obtain ⟨pud, iaud, lxud⟩ := hsl.at (k := 0) (x := d0.cells) (Dv.cellsL_at rfl)
        obtain ⟨pue, iaue, lxue⟩ := hsk.at (k := 0) (x := e0.cells) (Dv.cellsL_at rfl)
        have lxud := fun s => lxud s (f0 s)
        have lxue := fun s => lxue s (f0 s)
        obtain ⟨sAu, hsAu, nAu, kAu, gAu⟩ := new3 s1
        have memu := Dv.fzL_mem (l := [d0]) (t := d0) (by simp)
        obtain ⟨xu, bu, cu, sBu, hcu, hbhu, hrepu, kBu⟩ := ih d0.fz (by omega) d0 rfl e0 (m + 2) Y sAu (Dv.okL_mem hokd.2.2.2.2.2 _ (by simp)) (Dv.okL_mem hoke.2.2.2.2.2 _ (by simp)) (goodL_mem hgl _ (by simp)) (goodL_mem hgk _ (by simp)) (by omega)
        have hcu' : ((gT (m + 2)).cg Y).fn 42 [.agg d0.cells, .agg e0.cells] sAu = .ret (.tuple [.agg cu, .bool bu]) sBu := hcu
        have c3u := hrepu.cells3
        have nBu := kBu.1
        obtain ⟨sCu, stou, nCu, gCu, lCu, kCu, hrepu, pbu, gBu⟩ := sto3_of nAu kAu gAu kBu c3u hrepu
        obtain ⟨fR23, hR23, kR23, oR23_16, oR23_17⟩ : ∃ fr', adraw ((gT (m + 2)).cg Y) g42_19 [(13, some 9), (13, some 14)] fR22 s1 = .ok fr' sCu /\ Kp [3, 4, 5, 6] fR22 fr' /\ fr'.get 16 = some (.ptr s1.next 0) /\ fr'.get 17 = some (.bool bu) := by
         refine ⟨?r230, ?r231, ?r232, ?r23o16, ?r23o17⟩
         case r231 =>
          refine adraw_ok (its := ?r23i) ?r23x ?r23y ?r23z
          case r23x =>
           simp only [amE, reduceEqDiff, ↓reduceIte, reduceCtorEq, reduceAdd, drun_cons, drun_nil, DR.cons, oprD, nextId, preA, gR22_2, gR22_3, gR22_6, g42_19, faf, ld0f, ld1f, ld2f, ld3f, hsd, iaud, lxud, iaue, lxue, <- hsAu, gAu, gBu, zb, hcu', exA, exB, stou]
           rfl
          case r23y => rfl
          case r23z =>
           simp only [List.all_cons, List.all_nil, Bool.and_true, Bool.and_eq_true]
           refine ⟨chk_of (i := 13) (k := 9) rfl rfl rfl rfl ?r23k0, chk_of (i := 13) (k := 14) rfl rfl rfl rfl ?r23k1⟩
           case r23k0 =>
            right
            refine ⟨?r23s0, ?r23l0, pbu⟩
            case r23l0 =>
             simp only [amE, reduceEqDiff, ↓reduceIte, reduceCtorEq, reduceAdd, oprD, idAt, nextId, gR22_2, gR22_3, gR22_6, g42_19, faf, ld0f, ld1f, ld2f, ld3f, hsd, iaud, lxud, iaue, lxue, <- hsAu, gAu, gBu, zb, hcu', exA, exB, stou]
             rfl
           case r23k1 =>
            right
            refine ⟨?r23s1, ?r23l1, pbu⟩
            case r23l1 =>
             simp only [amE, reduceEqDiff, ↓reduceIte, reduceCtorEq, reduceAdd, oprD, idAt, nextId, gR22_2, gR22_3, gR22_6, g42_19, faf, ld0f, ld1f, ld2f, ld3f, hsd, iaud, lxud, iaue, lxue, <- hsAu, gAu, gBu, zb, hcu', exA, exB, stou]
             rfl
         case r232 => repeat (first | exact Kp.refl | refine Kp.set (by decide) ?_)
         case r23o16 => simp only [Fr.get_set, reduceEqDiff, ↓reduceIte]
         case r23o17 => simp only [Fr.get_set, reduceEqDiff, ↓reduceIte]
        have gR23_3 := kR23.g 3 gR22_3
        have gR23_4 := kR23.g 4 gR22_4
        have gR23_6 := kR23.g 6 gR22_6
        have dR23 := kR23.1.trans dR22
        have hcl : ((gT (m + 2)).cg Y).fn 74 [sk] sCu = .ret (.own sCu.next 0 (0 + 2) 3 none (0 + 2)) (sCu.new (.row ([] ++ (Dv.cellsL [e0, e1]).flatten))) := clone3_run (hsk.mono (f0 sCu) fun _ h => h) (by rw [Dv.cellsL_len]; rfl) (m + 1) Y
        have c30 := e0.cells3
        have c31 := e1.cells3
        have hfl : ([] ++ (Dv.cellsL [e0, e1]).flatten : List AV) = e0.cells ++ e1.cells := by simp [Dv.cellsL]
        rw [hfl] at hcl
        obtain ⟨s5, hs5⟩ : ∃ s, s = sCu.new (.row (e0.cells ++ e1.cells)) := ⟨_, rfl⟩
        rw [<- hs5] at hcl
        have n5 : s5.next = sCu.next + 1 := by rw [hs5]; rfl
        have k5 : Keeps sCu s5 := by rw [hs5]; exact Keeps.new _ _
        have g5 : s5.get sCu.next = some (.row (e0.cells ++ e1.cells)) := by rw [hs5, St.get_new, if_pos rfl]
        have lCu2 := load_row (k5.get (i := s1.next) (by omega) gCu) c3u.1
        have ia9 : iaddrA 3 (.own sCu.next 0 (0 + 2) 3 none (0 + 2)) (.int .i64 (.ofNat 0)) = some (.ptr sCu.next 0) := rfl
        have sto5 : storeA 3 s5 (.ptr sCu.next 0) (.agg cu) = some (s5.put sCu.next (.row (cu ++ e1.cells))) := by
         obtain ⟨a, b, c, ha⟩ : ∃ a b c, e0.cells = [a, b, c] := by
          match e0.cells, c30.1 with
          | [a, b, c], _ => exact ⟨a, b, c, rfl⟩
         obtain ⟨a', b', c', ha'⟩ : ∃ a b c, e1.cells = [a, b, c] := by
          match e1.cells, c31.1 with
          | [a, b, c], _ => exact ⟨a, b, c, rfl⟩
         obtain ⟨a2, b2, c2, ha2⟩ : ∃ a b c, cu = [a, b, c] := by
          match cu, c3u.1 with
          | [a, b, c], _ => exact ⟨a, b, c, rfl⟩
         have h1 := c3u.2
         rw [ha, ha'] at g5
         rw [ha', ha2]
         rw [ha2] at h1
         simp only [storeA, g5, AV.cells, h1]
         rfl
        obtain ⟨s6, hs6⟩ : ∃ s, s = s5.put sCu.next (.row (cu ++ e1.cells)) := ⟨_, rfl⟩
        rw [<- hs6] at sto5
        have n6 : s6.next = s5.next := by rw [hs6]; rfl
        have g6 : s6.get sCu.next = some (.row (cu ++ e1.cells)) := by rw [hs6, St.get_put, if_pos rfl]
        have k6 : Keeps sCu s6 := by rw [hs6]; exact k5.put' _ _ (Nat.le_refl _)
        have fl2 := fill13 (r := .ofNat 7) (v := .own sCu.next 0 (0 + 2) 3 none (0 + 2)) rfl
        obtain ⟨fR24, hR24, kR24, oR24_18⟩ : ∃ fr', arun ((gT (m + 2)).cg Y) g42_20 fR23 sCu = .ok fr' s5 /\ Kp [4, 5, 6, 16, 17] fR23 fr' /\ fr'.get 18 = some (.own sCu.next 0 (0 + 2) 3 none (0 + 2)) := ⟨_, by simp only [amE, reduceEqDiff, ↓reduceIte, reduceCtorEq, reduceAdd, gR23_3, g42_20, faf, ld0f, ld1f, ld2f, ld3f, hcl] <;> rfl, Kp.refl.s.s.s.s, gh⟩
        have gR24_4 := kR24.g 4 gR23_4
        have gR24_6 := kR24.g 6 gR23_6
        have gR24_16 := kR24.g 16 oR23_16
        have gR24_17 := kR24.g 17 oR23_17
        have dR24 := kR24.1.trans dR23
        obtain ⟨fR25, hR25, kR25⟩ : ∃ fr', arun ((gT (m + 2)).cg Y) g42_21 fR24 s5 = .ok fr' s6 /\ Kp [4, 5, 17, 18] fR24 fr' := ⟨_, by simp only [amE, reduceEqDiff, ↓reduceIte, reduceCtorEq, reduceAdd, gR24_6, gR24_16, oR24_18, g42_21, faf, ld0f, ld1f, ld2f, ld3f, hsd, lCu2, ia9, sto5] <;> rfl, Kp.refl.s.s.s.s⟩
        have gR25_4 := kR25.g 4 gR24_4
        have gR25_17 := kR25.g 17 gR24_17
        have gR25_18 := kR25.g 18 oR24_18
        have dR25 := kR25.1.trans dR24
        obtain ⟨s9, sto9, n9, l9, k9, m9⟩ := fin_of (c := [.int .i64 (.ofNat 7), .nilsl, .own sCu.next 0 (0 + 2) 3 none (0 + 2)]) n1 k1 g1 (kCu.trans k6) (⟨rfl, rfl⟩)
        obtain ⟨fR26, hR26, kR26, oR26_5⟩ : ∃ fr', arun ((gT (m + 2)).cg Y) g42_22 fR25 s6 = .ok fr' s9 /\ Kp [4] fR25 fr' /\ fr'.get 5 = some (.bool bu) := ⟨_, by simp only [amE, reduceEqDiff, ↓reduceIte, reduceCtorEq, reduceAdd, gR25_4, gR25_17, gR25_18, g42_22, faf, ld0f, ld1f, ld2f, ld3f, fl2, sto9] <;> rfl, Kp.refl.s.s.s.s, gh⟩
        have gR26_4 := kR26.g 4 gR25_4
        have dR26 := kR26.1.trans dR25
        refine ⟨_, bu, [.int .i64 (.ofNat 7), .nilsl, .own sCu.next 0 (0 + 2) 3 none (0 + 2)], s9, ?d26, .syncR0 hk h5 hbhu, ?rep26, k9⟩
        case d26 =>
         refine fun_of (mf := kf42) (fr := fR26) t42 rfl (.inl ?q26) dR26 (by simp only [kf42, amE, gR26_4, oR26_5, l9])
         case q26 =>
          rw [<- hA1]
          simp only [amE, reduceEqDiff, ↓reduceIte, reduceCtorEq, reduceAdd, kf42, b00, hR2, hR3, hR4, hR6, hR9, hR13, hR17, hR22, hR23, hR24, hR25, hR26, oR4_25, oR6_38, oR9_69, oR13_98, oR17_139, oR22_166]
        case rep26 =>
         simp only [RepD, RepTs, RepDs]
         refine ⟨.nilsl, [], .own sCu.next 0 (0 + 2) 3 none (0 + 2), [cu, e1.cells], rfl, SlR.nil _ _, rfl, ⟨fun x hx => ?_, by simp, .inr (.inr ⟨sCu.next, none, 2, rfl, ⟨by omega, by omega⟩, ?_⟩)⟩, cu, [e1.cells], rfl, (hrepu.mono (Same.of k6 fun i hi => by omega) (fun _ h => h)).mono (m9 _ fun i hi => by omega) (fun i hi => ⟨by omega, by omega⟩), e1.cells, [], rfl, RepD.line _ s9 e1 (Dv.okL_mem hoke.2.2.2.2.2 _ (by simp)), rfl⟩
         ·simp only [List.mem_cons, List.not_mem_nil, or_false] at hx
          rcases hx with rfl | rfl
          ·exact c3u
          ·exact c31
         ·rw [m9 (fun i => i = sCu.next) (fun i hi => by omega) _ rfl, g6]; simp
       ·have hsd : sideI r = .ofNat 1 := by rw [h5]; rfl
        obtain ⟨pud, iaud, lxud⟩ := hsl.at (k := 0) (x := d0.cells) (Dv.cellsL_at rfl)
        obtain ⟨pue, iaue, lxue⟩ := hsk.at (k := 1) (x := e1.cells) (Dv.cellsL_at rfl)
        have lxud := fun s => lxud s (f0 s)
        have lxue := fun s => lxue s (f0 s)
        obtain ⟨sAu, hsAu, nAu, kAu, gAu⟩ := new3 s1
        have memu := Dv.fzL_mem (l := [d0]) (t := d0) (by simp)
        obtain ⟨xu, bu, cu, sBu, hcu, hbhu, hrepu, kBu⟩ := ih d0.fz (by omega) d0 rfl e1 (m + 2) Y sAu (Dv.okL_mem hokd.2.2.2.2.2 _ (by simp)) (Dv.okL_mem hoke.2.2.2.2.2 _ (by simp)) (goodL_mem hgl _ (by simp)) (goodL_mem hgk _ (by simp)) (by omega)
        have hcu' : ((gT (m + 2)).cg Y).fn 42 [.agg d0.cells, .agg e1.cells] sAu = .ret (.tuple [.agg cu, .bool bu]) sBu := hcu
        have c3u := hrepu.cells3
        have nBu := kBu.1
        obtain ⟨sCu, stou, nCu, gCu, lCu, kCu, hrepu, pbu, gBu⟩ := sto3_of nAu kAu gAu kBu c3u hrepu
        obtain ⟨fR27, hR27, kR27, oR27_16, oR27_17⟩ : ∃ fr', adraw ((gT (m + 2)).cg Y) g42_19 [(13, some 9), (13, some 14)] fR22 s1 = .ok fr' sCu /\ Kp [3, 4, 5, 6] fR22 fr' /\ fr'.get 16 = some (.ptr s1.next 0) /\ fr'.get 17 = some (.bool bu) := by
         refine ⟨?r270, ?r271, ?r272, ?r27o16, ?r27o17⟩
         case r271 =>
          refine adraw_ok (its := ?r27i) ?r27x ?r27y ?r27z
          case r27x =>
           simp only [amE, reduceEqDiff, ↓reduceIte, reduceCtorEq, reduceAdd, drun_cons, drun_nil, DR.cons, oprD, nextId, preA, gR22_2, gR22_3, gR22_6, g42_19, faf, ld0f, ld1f, ld2f, ld3f, hsd, iaud, lxud, iaue, lxue, <- hsAu, gAu, gBu, zb, hcu', exA, exB, stou]
           rfl
          case r27y => rfl
          case r27z =>
           simp only [List.all_cons, List.all_nil, Bool.and_true, Bool.and_eq_true]
           refine ⟨chk_of (i := 13) (k := 9) rfl rfl rfl rfl ?r27k0, chk_of (i := 13) (k := 14) rfl rfl rfl rfl ?r27k1⟩
           case r27k0 =>
            right
            refine ⟨?r27s0, ?r27l0, pbu⟩
            case r27l0 =>
             simp only [amE, reduceEqDiff, ↓reduceIte, reduceCtorEq, reduceAdd, oprD, idAt, nextId, gR22_2, gR22_3, gR22_6, g42_19, faf, ld0f, ld1f, ld2f, ld3f, hsd, iaud, lxud, iaue, lxue, <- hsAu, gAu, gBu, zb, hcu', exA, exB, stou]
             rfl
           case r27k1 =>
            right
            refine ⟨?r27s1, ?r27l1, pbu⟩
            case r27l1 =>
             simp only [amE, reduceEqDiff, ↓reduceIte, reduceCtorEq, reduceAdd, oprD, idAt, nextId, gR22_2, gR22_3, gR22_6, g42_19, faf, ld0f, ld1f, ld2f, ld3f, hsd, iaud, lxud, iaue, lxue, <- hsAu, gAu, gBu, zb, hcu', exA, exB, stou]
             rfl
         case r272 => repeat (first | exact Kp.refl | refine Kp.set (by decide) ?_)
         case r27o16 => simp only [Fr.get_set, reduceEqDiff, ↓reduceIte]
         case r27o17 => simp only [Fr.get_set, reduceEqDiff, ↓reduceIte]
        have gR27_3 := kR27.g 3 gR22_3
        have gR27_4 := kR27.g 4 gR22_4
        have gR27_6 := kR27.g 6 gR22_6
        have dR27 := kR27.1.trans dR22
        have hcl : ((gT (m + 2)).cg Y).fn 74 [sk] sCu = .ret (.own sCu.next 0 (0 + 2) 3 none (0 + 2)) (sCu.new (.row ([] ++ (Dv.cellsL [e0, e1]).flatten))) := clone3_run (hsk.mono (f0 sCu) fun _ h => h) (by rw [Dv.cellsL_len]; rfl) (m + 1) Y
        have c30 := e0.cells3
        have c31 := e1.cells3
        have hfl : ([] ++ (Dv.cellsL [e0, e1]).flatten : List AV) = e0.cells ++ e1.cells := by simp [Dv.cellsL]
        rw [hfl] at hcl
        obtain ⟨s5, hs5⟩ : ∃ s, s = sCu.new (.row (e0.cells ++ e1.cells)) := ⟨_, rfl⟩
        rw [<- hs5] at hcl
        have n5 : s5.next = sCu.next + 1 := by rw [hs5]; rfl
        have k5 : Keeps sCu s5 := by rw [hs5]; exact Keeps.new _ _
        have g5 : s5.get sCu.next = some (.row (e0.cells ++ e1.cells)) := by rw [hs5, St.get_new, if_pos rfl]
        have lCu2 := load_row (k5.get (i := s1.next) (by omega) gCu) c3u.1
        have ia9 : iaddrA 3 (.own sCu.next 0 (0 + 2) 3 none (0 + 2)) (.int .i64 (.ofNat 1)) = some (.ptr sCu.next 3) := rfl
        have sto5 : storeA 3 s5 (.ptr sCu.next 3) (.agg cu) = some (s5.put sCu.next (.row (e0.cells ++ cu))) := by
         obtain ⟨a, b, c, ha⟩ : ∃ a b c, e0.cells = [a, b, c] := by
          match e0.cells, c30.1 with
          | [a, b, c], _ => exact ⟨a, b, c, rfl⟩
         obtain ⟨a', b', c', ha'⟩ : ∃ a b c, e1.cells = [a, b, c] := by
          match e1.cells, c31.1 with
          | [a, b, c], _ => exact ⟨a, b, c, rfl⟩
         obtain ⟨a2, b2, c2, ha2⟩ : ∃ a b c, cu = [a, b, c] := by
          match cu, c3u.1 with
          | [a, b, c], _ => exact ⟨a, b, c, rfl⟩
         have h1 := c3u.2
         rw [ha, ha'] at g5
         rw [ha, ha2]
         rw [ha2] at h1
         simp only [storeA, g5, AV.cells, h1]
         rfl
        obtain ⟨s6, hs6⟩ : ∃ s, s = s5.put sCu.next (.row (e0.cells ++ cu)) := ⟨_, rfl⟩
        rw [<- hs6] at sto5
        have n6 : s6.next = s5.next := by rw [hs6]; rfl
        have g6 : s6.get sCu.next = some (.row (e0.cells ++ cu)) := by rw [hs6, St.get_put, if_pos rfl]
        have k6 : Keeps sCu s6 := by rw [hs6]; exact k5.put' _ _ (Nat.le_refl _)
        have fl2 := fill13 (r := .ofNat 7) (v := .own sCu.next 0 (0 + 2) 3 none (0 + 2)) rfl
        obtain ⟨fR28, hR28, kR28, oR28_18⟩ : ∃ fr', arun ((gT (m + 2)).cg Y) g42_20 fR27 sCu = .ok fr' s5 /\ Kp [4, 5, 6, 16, 17] fR27 fr' /\ fr'.get 18 = some (.own sCu.next 0 (0 + 2) 3 none (0 + 2)) := ⟨_, by simp only [amE, reduceEqDiff, ↓reduceIte, reduceCtorEq, reduceAdd, gR27_3, g42_20, faf, ld0f, ld1f, ld2f, ld3f, hcl] <;> rfl, Kp.refl.s.s.s.s, gh⟩
        have gR28_4 := kR28.g 4 gR27_4
        have gR28_6 := kR28.g 6 gR27_6
        have gR28_16 := kR28.g 16 oR27_16
        have gR28_17 := kR28.g 17 oR27_17
        have dR28 := kR28.1.trans dR27
        obtain ⟨fR29, hR29, kR29⟩ : ∃ fr', arun ((gT (m + 2)).cg Y) g42_21 fR28 s5 = .ok fr' s6 /\ Kp [4, 5, 17, 18] fR28 fr' := ⟨_, by simp only [amE, reduceEqDiff, ↓reduceIte, reduceCtorEq, reduceAdd, gR28_6, gR28_16, oR28_18, g42_21, faf, ld0f, ld1f, ld2f, ld3f, hsd, lCu2, ia9, sto5] <;> rfl, Kp.refl.s.s.s.s⟩
        have gR29_4 := kR29.g 4 gR28_4
        have gR29_17 := kR29.g 17 gR28_17
        have gR29_18 := kR29.g 18 oR28_18
        have dR29 := kR29.1.trans dR28
        obtain ⟨s9, sto9, n9, l9, k9, m9⟩ := fin_of (c := [.int .i64 (.ofNat 7), .nilsl, .own sCu.next 0 (0 + 2) 3 none (0 + 2)]) n1 k1 g1 (kCu.trans k6) (⟨rfl, rfl⟩)
        obtain ⟨fR30, hR30, kR30, oR30_5⟩ : ∃ fr', arun ((gT (m + 2)).cg Y) g42_22 fR29 s6 = .ok fr' s9 /\ Kp [4] fR29 fr' /\ fr'.get 5 = some (.bool bu) := ⟨_, by simp only [amE, reduceEqDiff, ↓reduceIte, reduceCtorEq, reduceAdd, gR29_4, gR29_17, gR29_18, g42_22, faf, ld0f, ld1f, ld2f, ld3f, fl2, sto9] <;> rfl, Kp.refl.s.s.s.s, gh⟩
        have gR30_4 := kR30.g 4 gR29_4
        have dR30 := kR30.1.trans dR29
        refine ⟨_, bu, [.int .i64 (.ofNat 7), .nilsl, .own sCu.next 0 (0 + 2) 3 none (0 + 2)], s9, ?d30, .syncR1 hk h5 hbhu, ?rep30, k9⟩
        case d30 =>
         refine fun_of (mf := kf42) (fr := fR30) t42 rfl (.inl ?q30) dR30 (by simp only [kf42, amE, gR30_4, oR30_5, l9])
         case q30 =>
          rw [<- hA1]
          simp only [amE, reduceEqDiff, ↓reduceIte, reduceCtorEq, reduceAdd, kf42, b00, hR2, hR3, hR4, hR6, hR9, hR13, hR17, hR22, hR27, hR28, hR29, hR30, oR4_25, oR6_38, oR9_69, oR13_98, oR17_139, oR22_166]
        case rep30 =>
         simp only [RepD, RepTs, RepDs]
         refine ⟨.nilsl, [], .own sCu.next 0 (0 + 2) 3 none (0 + 2), [e0.cells, cu], rfl, SlR.nil _ _, rfl, ⟨fun x hx => ?_, by simp, .inr (.inr ⟨sCu.next, none, 2, rfl, ⟨by omega, by omega⟩, ?_⟩)⟩, e0.cells, [cu], rfl, RepD.line _ s9 e0 (Dv.okL_mem hoke.2.2.2.2.2 _ (by simp)), cu, [], rfl, (hrepu.mono (Same.of k6 fun i hi => by omega) (fun _ h => h)).mono (m9 _ fun i hi => by omega) (fun i hi => ⟨by omega, by omega⟩), rfl⟩
         ·simp only [List.mem_cons, List.not_mem_nil, or_false] at hx
          rcases hx with rfl | rfl
          ·exact c30
          ·exact c3u
         ·rw [m9 (fun i => i = sCu.next) (fun i hi => by omega) _ rfl, g6]; simp
      | false =>
       have hk : kind r r' = .none := by rw [hK]; simp
       obtain ⟨s9, sto9, n9, l9, k9, m9⟩ := fin_of (c := [.int .i64 (.ofNat 0), .nilsl, .nilsl]) n1 k1 g1 (Keeps.refl s1) (⟨rfl, rfl⟩)
       obtain ⟨fR31, hR31, kR31, oR31_5⟩ : ∃ fr', arun ((gT (m + 2)).cg Y) g42_23 fR22 s1 = .ok fr' s9 /\ Kp [4] fR22 fr' /\ fr'.get 5 = some (.bool false) := ⟨_, by simp only [amE, reduceEqDiff, ↓reduceIte, reduceCtorEq, reduceAdd, gR22_4, g42_23, faf, ld0f, ld1f, ld2f, ld3f, fz0, sto9] <;> rfl, Kp.refl.s.s, gh⟩
       have gR31_4 := kR31.g 4 gR22_4
       have dR31 := kR31.1.trans dR22
       refine ⟨.mk 0 true false [] true false [], false, [.int .i64 (.ofNat 0), .nilsl, .nilsl], s9, ?d31, .no hk, ?rep31, k9⟩
       case d31 =>
        refine fun_of (mf := kf42) (fr := fR31) t42 rfl (.inl ?q31) dR31 (by simp only [kf42, amE, gR31_4, oR31_5, l9])
        case q31 =>
         rw [<- hA1]
         simp only [amE, reduceEqDiff, ↓reduceIte, reduceCtorEq, reduceAdd, kf42, b00, hR2, hR3, hR4, hR6, hR9, hR13, hR17, hR22, hR31, oR4_25, oR6_38, oR9_69, oR13_98, oR17_139, oR22_166]
       case rep31 =>
        simp only [RepD]
        exact ⟨.nilsl, [], .nilsl, [], rfl, SlR.nil _ _, by simp only [RepTs], SlR.nil _ _, by simp only [RepDs]⟩
end
end Go.AM.D16
