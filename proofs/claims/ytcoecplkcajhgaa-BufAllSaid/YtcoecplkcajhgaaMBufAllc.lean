/- BufAll, packed. No condition beyond the statement's own. -/
import Derived.Test.YtcoecplkcajhgaaMBufAllb
import Derived.Test.YtcoecplkcajhgaaProg
import Derived.Lib.Overlaps
section
set_option linter.unusedVariables false
set_option maxRecDepth 100000
set_option linter.constructorNameAsVariable false
/- The functions, told over by a program of this session; Lean checks that they are the program's own. No condition. -/
namespace Go.Proofs.Ytcoecplkcajhgaa.D
open Go Go.Proofs
-- raddle/raddlelaw12.BufAll
def c3 : IC := .sq (.rg [⟨(some 4), none, .mv, [.k (.c (.bool false))]⟩] false) (.sq (.sq (.rg [⟨(some 17), none, .mv, [.t 0]⟩, ⟨(some 18), none, (.call 7 .fz), [.t 17]⟩, ⟨(some 19), none, .mv, [.t 18]⟩, ⟨(some 20), (some (19, false)), .mv, [.t 0]⟩, ⟨(some 21), (some (19, false)), .len, [.t 20]⟩, ⟨(some 22), (some (19, false)), (.bin .gtr), [.t 21, .k (.c (.int .i64 40))]⟩, ⟨(some 23), none, .pick, [.t 19, .k (.c (.bool true)), .t 22]⟩, ⟨(some 24), none, .mv, [.t 23]⟩, ⟨(some 25), (some (24, false)), .mv, [.t 0]⟩, ⟨(some 26), (some (24, false)), .len, [.t 25]⟩, ⟨(some 27), (some (24, false)), (.bin .eql), [.t 26, .k (.c (.int .i64 0))]⟩, ⟨(some 28), none, .pick, [.t 24, .k (.c (.bool true)), .t 27]⟩] false) (.cn (.t 28) (.sq (.rg [⟨(some 4), none, .mv, [.k (.c (.bool true))]⟩] false) (.rt)) (.skip))) (.sq (.rg [⟨(some 29), none, .mv, [.t 0]⟩, ⟨(some 30), none, (.ia 12), [.t 29, .k (.c (.int .i64 0))]⟩, ⟨(some 31), none, (.fa 2), [.t 30]⟩, ⟨(some 32), none, (.ld none), [.t 31]⟩, ⟨(some 33), none, .len, [.t 32]⟩, ⟨(some 5), none, .mv, [.t 33]⟩] false) (.sq (.sq (.rg [⟨(some 34), none, .mv, [.t 5]⟩, ⟨(some 35), none, (.bin .lss), [.t 34, .k (.c (.int .i64 1))]⟩, ⟨(some 36), none, .mv, [.t 35]⟩, ⟨(some 37), (some (36, false)), .mv, [.t 5]⟩, ⟨(some 38), (some (36, false)), (.bin .gtr), [.t 37, .k (.c (.int .i64 5))]⟩, ⟨(some 39), none, .pick, [.t 36, .k (.c (.bool true)), .t 38]⟩] false) (.cn (.t 39) (.sq (.rg [⟨(some 4), none, .mv, [.k (.c (.bool true))]⟩] false) (.rt)) (.skip))) (.sq (.rg [⟨(some 40), none, .mv, [.t 5]⟩, ⟨(some 41), none, (.mks 1 [(.c (.int .i64 0))] false), [.t 40, .t 40]⟩, ⟨(some 6), none, .mv, [.t 41]⟩] false) (.sq (.sq (.rg [⟨(some 7), none, .mv, [.k (.c (.int .i64 0))]⟩] false) (.bl 0 (.lp (.sq (.sq (.rg [⟨(some 42), none, .mv, [.t 7]⟩, ⟨(some 43), none, .mv, [.t 0]⟩, ⟨(some 44), none, .len, [.t 43]⟩, ⟨(some 45), none, (.bin .lss), [.t 42, .t 44]⟩] false) (.cn (.t 45) (.skip) (.ex 0))) (.sq (.bl 1 (.sq (.sq (.rg [⟨(some 48), none, .mv, [.t 6]⟩, ⟨(some 49), none, .mv, [.t 0]⟩, ⟨(some 50), none, .mv, [.t 7]⟩, ⟨(some 51), none, (.ia 12), [.t 49, .t 50]⟩, ⟨(some 52), none, (.ld (some 12)), [.t 51]⟩, ⟨(some 53), none, (.call 8 .fz), [.t 48, .t 52]⟩, ⟨(some 54), none, (.un .not), [.t 53]⟩] false) (.cn (.t 54) (.sq (.rg [⟨(some 4), none, .mv, [.k (.c (.bool true))]⟩] false) (.rt)) (.skip))) (.rg [⟨(some 55), none, .mv, [.t 6]⟩, ⟨(some 56), none, .mv, [.t 0]⟩, ⟨(some 57), none, .mv, [.t 7]⟩, ⟨(some 58), none, (.ia 12), [.t 56, .t 57]⟩, ⟨(some 59), none, (.fa 0), [.t 58]⟩, ⟨(some 60), none, (.fa 0), [.t 59]⟩, ⟨(some 61), none, (.ld none), [.t 60]⟩, ⟨(some 62), none, .mv, [.t 0]⟩, ⟨(some 63), none, .mv, [.t 7]⟩, ⟨(some 64), none, (.ia 12), [.t 62, .t 63]⟩, ⟨(some 65), none, (.fa 0), [.t 64]⟩, ⟨(some 66), none, (.fa 1), [.t 65]⟩, ⟨(some 67), none, (.ld none), [.t 66]⟩, ⟨(some 68), none, (.ia 1), [.t 55, .t 61]⟩, ⟨none, none, (.st 1), [.t 68, .t 67]⟩] true))) (.rg [⟨(some 46), none, .mv, [.t 7]⟩, ⟨(some 47), none, (.bin .add), [.t 46, .k (.c (.int .i64 1))]⟩, ⟨(some 7), none, .mv, [.t 47]⟩] false)))))) (.sq (.rg [⟨(some 69), none, .mv, [.t 5]⟩, ⟨(some 70), none, (.mks 1 [(.c (.int .i64 0))] false), [.t 69, .t 69]⟩, ⟨(some 8), none, .mv, [.t 70]⟩] false) (.sq (.rg [⟨(some 9), none, .mv, [.k .z]⟩] false) (.sq (.rg [⟨(some 10), none, .mv, [.k (.c (.int .i64 0))]⟩] false) (.sq (.sq (.rg [⟨(some 11), none, .mv, [.k (.c (.int .i64 0))]⟩] false) (.bl 2 (.lp (.sq (.sq (.rg [⟨(some 71), none, .mv, [.t 11]⟩, ⟨(some 72), none, .mv, [.t 0]⟩, ⟨(some 73), none, .len, [.t 72]⟩, ⟨(some 74), none, (.bin .lss), [.t 71, .t 73]⟩] false) (.cn (.t 74) (.skip) (.ex 2))) (.sq (.bl 3 (.sq (.rg [⟨(some 77), none, .mv, [.t 0]⟩, ⟨(some 78), none, .mv, [.t 1]⟩, ⟨(some 79), none, (.conv .u64), [.t 78]⟩, ⟨(some 80), none, .mv, [.t 0]⟩, ⟨(some 81), none, .len, [.t 80]⟩, ⟨(some 82), none, (.conv .u64), [.t 81]⟩, ⟨(some 83), none, (.bin .rem), [.t 79, .t 82]⟩, ⟨(some 84), none, (.conv .i64), [.t 83]⟩, ⟨(some 85), none, .mv, [.t 0]⟩, ⟨(some 86), none, .len, [.t 85]⟩, ⟨(some 87), none, (.bin .add), [.t 84, .t 86]⟩, ⟨(some 88), none, .mv, [.t 11]⟩, ⟨(some 89), none, (.bin .sub), [.t 87, .t 88]⟩, ⟨(some 90), none, .mv, [.t 0]⟩, ⟨(some 91), none, .len, [.t 90]⟩, ⟨(some 92), none, (.bin .rem), [.t 89, .t 91]⟩, ⟨(some 93), none, (.ia 12), [.t 77, .t 92]⟩, ⟨(some 94), none, (.ld (some 12)), [.t 93]⟩, ⟨(some 12), none, (.alloc [(.c (.int .i64 0)), (.c (.int .i64 0)), .z, (.c (.int .i64 0)), (.c (.int .i64 0)), (.c (.int .i64 0)), (.c (.int .i64 0)), (.c (.int .i64 0)), (.c (.string ⟨#[]⟩)), (.c (.int .i64 0)), .z, .z]), []⟩, ⟨none, none, (.st 12), [.t 12, .t 94]⟩] false) (.sq (.rg [⟨(some 96), none, .mv, [.t 8]⟩, ⟨(some 97), none, .mv, [.t 9]⟩, ⟨(some 98), none, (.ld (some 12)), [.t 12]⟩, ⟨(some 99), none, (.call 9 .fz), [.t 96, .t 97, .t 98]⟩, ⟨(some 95), none, .mv, [.t 99]⟩, ⟨(some 100), none, (.ext 0), [.t 95]⟩, ⟨(some 101), none, (.ext 1), [.t 95]⟩, ⟨(some 102), none, (.ext 2), [.t 95]⟩, ⟨(some 13), none, .mv, [.t 100]⟩, ⟨(some 14), none, .mv, [.t 101]⟩, ⟨(some 15), none, .mv, [.t 102]⟩] false) (.sq (.sq (.rg [⟨(some 103), none, .mv, [.t 15]⟩, ⟨(some 104), none, (.bin .neq), [.t 103, .k (.c (.int .i64 0))]⟩, ⟨(some 105), none, .mv, [.t 104]⟩, ⟨(some 106), (some (105, true)), .mv, [.t 15]⟩, ⟨(some 107), (some (105, true)), (.bin .neq), [.t 106, .k (.c (.int .i64 9))]⟩, ⟨(some 108), none, .pick, [.t 105, .t 107, .k (.c (.bool false))]⟩] false) (.cn (.t 108) (.sq (.rg [⟨(some 4), none, .mv, [.k (.c (.bool false))]⟩] false) (.rt)) (.skip))) (.sq (.sq (.rg [⟨(some 16), none, .mv, [.k (.c (.int .i64 0))]⟩] false) (.bl 4 (.lp (.sq (.sq (.rg [⟨(some 109), none, .mv, [.t 16]⟩, ⟨(some 110), none, .mv, [.t 13]⟩, ⟨(some 111), none, .len, [.t 110]⟩, ⟨(some 112), none, (.bin .lss), [.t 109, .t 111]⟩] false) (.cn (.t 112) (.skip) (.ex 4))) (.sq (.bl 5 (.sq (.sq (.rg [⟨(some 115), none, .mv, [.t 13]⟩, ⟨(some 116), none, .mv, [.t 16]⟩, ⟨(some 117), none, (.ia 12), [.t 115, .t 116]⟩, ⟨(some 118), none, (.fa 0), [.t 117]⟩, ⟨(some 119), none, (.fa 0), [.t 118]⟩, ⟨(some 120), none, (.ld none), [.t 119]⟩, ⟨(some 121), none, (.bin .lss), [.t 120, .k (.c (.int .i64 0))]⟩, ⟨(some 122), none, .mv, [.t 121]⟩, ⟨(some 123), (some (122, false)), .mv, [.t 13]⟩, ⟨(some 124), (some (122, false)), .mv, [.t 16]⟩, ⟨(some 125), (some (122, false)), (.ia 12), [.t 123, .t 124]⟩, ⟨(some 126), (some (122, false)), (.fa 0), [.t 125]⟩, ⟨(some 127), (some (122, false)), (.fa 0), [.t 126]⟩, ⟨(some 128), (some (122, false)), (.ld none), [.t 127]⟩, ⟨(some 129), (some (122, false)), .mv, [.t 5]⟩, ⟨(some 130), (some (122, false)), (.bin .geq), [.t 128, .t 129]⟩, ⟨(some 131), none, .pick, [.t 122, .k (.c (.bool true)), .t 130]⟩] false) (.cn (.t 131) (.sq (.rg [⟨(some 4), none, .mv, [.k (.c (.bool false))]⟩] false) (.rt)) (.skip))) (.rg [⟨(some 132), none, .mv, [.t 8]⟩, ⟨(some 133), none, .mv, [.t 13]⟩, ⟨(some 134), none, .mv, [.t 16]⟩, ⟨(some 135), none, (.ia 12), [.t 133, .t 134]⟩, ⟨(some 136), none, (.fa 0), [.t 135]⟩, ⟨(some 137), none, (.fa 0), [.t 136]⟩, ⟨(some 138), none, (.ld none), [.t 137]⟩, ⟨(some 139), none, .mv, [.t 13]⟩, ⟨(some 140), none, .mv, [.t 16]⟩, ⟨(some 141), none, (.ia 12), [.t 139, .t 140]⟩, ⟨(some 142), none, (.fa 0), [.t 141]⟩, ⟨(some 143), none, (.fa 1), [.t 142]⟩, ⟨(some 144), none, (.ld none), [.t 143]⟩, ⟨(some 145), none, (.ia 1), [.t 132, .t 138]⟩, ⟨none, none, (.st 1), [.t 145, .t 144]⟩] true))) (.rg [⟨(some 113), none, .mv, [.t 16]⟩, ⟨(some 114), none, (.bin .add), [.t 113, .k (.c (.int .i64 1))]⟩, ⟨(some 16), none, .mv, [.t 114]⟩] false)))))) (.rg [⟨(some 146), none, .mv, [.t 10]⟩, ⟨(some 147), none, .mv, [.t 13]⟩, ⟨(some 148), none, .len, [.t 147]⟩, ⟨(some 149), none, (.bin .add), [.t 146, .t 148]⟩, ⟨(some 150), none, .mv, [.t 14]⟩, ⟨(some 10), none, .mv, [.t 149]⟩, ⟨(some 9), none, .mv, [.t 150]⟩] false)))))) (.rg [⟨(some 75), none, .mv, [.t 11]⟩, ⟨(some 76), none, (.bin .add), [.t 75, .k (.c (.int .i64 1))]⟩, ⟨(some 11), none, .mv, [.t 76]⟩] false)))))) (.sq (.rg [⟨(some 151), none, .mv, [.t 10]⟩, ⟨(some 152), none, .mv, [.t 0]⟩, ⟨(some 153), none, .len, [.t 152]⟩, ⟨(some 154), none, (.bin .eql), [.t 151, .t 153]⟩, ⟨(some 155), none, .mv, [.t 154]⟩, ⟨(some 156), (some (155, true)), .mv, [.t 9]⟩, ⟨(some 157), (some (155, true)), .len, [.t 156]⟩, ⟨(some 158), (some (155, true)), (.bin .eql), [.t 157, .k (.c (.int .i64 0))]⟩, ⟨(some 159), none, .pick, [.t 155, .t 158, .k (.c (.bool false))]⟩, ⟨(some 160), none, .mv, [.t 159]⟩, ⟨(some 161), (some (160, true)), .mv, [.t 8]⟩, ⟨(some 162), (some (160, true)), .mv, [.t 6]⟩, ⟨(some 163), (some (160, true)), (.call 10 .fz), [.t 161, .t 162]⟩, ⟨(some 164), none, .pick, [.t 160, .t 163, .k (.c (.bool false))]⟩, ⟨(some 165), none, .mv, [.t 164]⟩, ⟨(some 166), (some (165, true)), (.call 11 .fz), []⟩, ⟨(some 167), none, .pick, [.t 165, .t 166, .k (.c (.bool false))]⟩, ⟨(some 4), none, .mv, [.t 167]⟩] false) (.rt)))))))))))
theorem cf3 : compF Try.prog 3 c3 = some ⟨c3, [.t 4], 168⟩ := by kernel_rfl

-- raddle/raddlelaw12.BufBack
def c4 : IC := .sq (.rg [⟨(some 6), none, .mv, [.k (.c (.bool false))]⟩] false) (.sq (.rg [⟨(some 17), none, .mv, [.t 0]⟩, ⟨(some 18), none, (.conv .u64), [.t 17]⟩, ⟨(some 19), none, (.bin .rem), [.t 18, .k (.c (.int .u64 5))]⟩, ⟨(some 20), none, (.conv .i64), [.t 19]⟩, ⟨(some 21), none, (.bin .add), [.k (.c (.int .i64 1)), .t 20]⟩, ⟨(some 0), none, .mv, [.t 21]⟩] false) (.sq (.rg [⟨(some 22), none, .mv, [.t 1]⟩, ⟨(some 23), none, (.conv .u64), [.t 22]⟩, ⟨(some 24), none, .mv, [.t 0]⟩, ⟨(some 25), none, (.conv .u64), [.t 24]⟩, ⟨(some 26), none, (.bin .rem), [.t 23, .t 25]⟩, ⟨(some 27), none, (.conv .i64), [.t 26]⟩, ⟨(some 28), none, .mv, [.t 2]⟩, ⟨(some 29), none, (.conv .u64), [.t 28]⟩, ⟨(some 30), none, (.bin .rem), [.t 29, .k (.c (.int .u64 40))]⟩, ⟨(some 31), none, (.conv .i64), [.t 30]⟩, ⟨(some 32), none, (.bin .add), [.k (.c (.int .i64 1)), .t 31]⟩, ⟨(some 1), none, .mv, [.t 27]⟩, ⟨(some 2), none, .mv, [.t 32]⟩] false) (.sq (.rg [⟨(some 33), none, .mv, [.t 0]⟩, ⟨(some 34), none, .mv, [.t 1]⟩, ⟨(some 35), none, .mv, [.t 2]⟩, ⟨(some 36), none, (.call 12 .fz), [.t 33, .t 34, .t 35]⟩, ⟨(some 7), none, .mv, [.t 36]⟩] false) (.sq (.rg [⟨(some 37), none, .mv, [.t 0]⟩, ⟨(some 38), none, (.mks 1 [(.c (.int .i64 0))] true), [.t 37, .t 37]⟩, ⟨(some 8), none, .mv, [.t 38]⟩] false) (.sq (.rg [⟨(some 9), none, .mv, [.k .z]⟩] false) (.sq (.sq (.rg [⟨(some 39), none, .mv, [.t 2]⟩, ⟨(some 40), none, (.bin .sub), [.t 39, .k (.c (.int .i64 1))]⟩, ⟨(some 10), none, .mv, [.t 40]⟩] false) (.bl 0 (.lp (.sq (.sq (.rg [⟨(some 41), none, .mv, [.t 10]⟩, ⟨(some 42), none, (.bin .gtr), [.t 41, .k (.c (.int .i64 0))]⟩] false) (.cn (.t 42) (.skip) (.ex 0))) (.sq (.bl 1 (.sq (.rg [⟨(some 46), none, .mv, [.t 8]⟩, ⟨(some 47), none, .mv, [.t 9]⟩, ⟨(some 48), none, .mv, [.t 7]⟩, ⟨(some 49), none, .mv, [.t 10]⟩, ⟨(some 50), none, (.ia 12), [.t 48, .t 49]⟩, ⟨(some 51), none, (.ld (some 12)), [.t 50]⟩, ⟨(some 52), none, (.call 9 .fz), [.t 46, .t 47, .t 51]⟩, ⟨(some 45), none, .mv, [.t 52]⟩, ⟨(some 53), none, (.ext 0), [.t 45]⟩, ⟨(some 54), none, (.ext 1), [.t 45]⟩, ⟨(some 55), none, (.ext 2), [.t 45]⟩, ⟨(some 11), none, .mv, [.t 53]⟩, ⟨(some 12), none, .mv, [.t 54]⟩, ⟨(some 13), none, .mv, [.t 55]⟩] false) (.sq (.sq (.rg [⟨(some 56), none, .mv, [.t 13]⟩, ⟨(some 57), none, (.bin .neq), [.t 56, .k (.c (.int .i64 9))]⟩, ⟨(some 58), none, .mv, [.t 57]⟩, ⟨(some 59), (some (58, false)), .mv, [.t 11]⟩, ⟨(some 60), (some (58, false)), .len, [.t 59]⟩, ⟨(some 61), (some (58, false)), (.bin .neq), [.t 60, .k (.c (.int .i64 0))]⟩, ⟨(some 62), none, .pick, [.t 58, .k (.c (.bool true)), .t 61]⟩, ⟨(some 63), none, .mv, [.t 62]⟩, ⟨(some 64), (some (63, false)), .mv, [.t 12]⟩, ⟨(some 65), (some (63, false)), .len, [.t 64]⟩, ⟨(some 66), (some (63, false)), .mv, [.t 2]⟩, ⟨(some 67), (some (63, false)), .mv, [.t 10]⟩, ⟨(some 68), (some (63, false)), (.bin .sub), [.t 66, .t 67]⟩, ⟨(some 69), (some (63, false)), (.bin .neq), [.t 65, .t 68]⟩, ⟨(some 70), none, .pick, [.t 63, .k (.c (.bool true)), .t 69]⟩] false) (.cn (.t 70) (.sq (.rg [⟨(some 6), none, .mv, [.k (.c (.bool false))]⟩] false) (.rt)) (.skip))) (.rg [⟨(some 71), none, .mv, [.t 12]⟩, ⟨(some 9), none, .mv, [.t 71]⟩] false)))) (.rg [⟨(some 43), none, .mv, [.t 10]⟩, ⟨(some 44), none, (.bin .sub), [.t 43, .k (.c (.int .i64 1))]⟩, ⟨(some 10), none, .mv, [.t 44]⟩] false)))))) (.sq (.rg [⟨(some 73), none, .mv, [.t 8]⟩, ⟨(some 74), none, .mv, [.t 9]⟩, ⟨(some 75), none, .mv, [.t 7]⟩, ⟨(some 76), none, (.ia 12), [.t 75, .k (.c (.int .i64 0))]⟩, ⟨(some 77), none, (.ld (some 12)), [.t 76]⟩, ⟨(some 78), none, (.call 9 .fz), [.t 73, .t 74, .t 77]⟩, ⟨(some 72), none, .mv, [.t 78]⟩, ⟨(some 79), none, (.ext 0), [.t 72]⟩, ⟨(some 80), none, (.ext 1), [.t 72]⟩, ⟨(some 81), none, (.ext 2), [.t 72]⟩, ⟨(some 14), none, .mv, [.t 79]⟩, ⟨(some 15), none, .mv, [.t 80]⟩, ⟨(some 16), none, .mv, [.t 81]⟩] false) (.sq (.rg [⟨(some 82), none, .mv, [.t 16]⟩, ⟨(some 83), none, (.bin .eql), [.t 82, .k (.c (.int .i64 0))]⟩, ⟨(some 84), none, .mv, [.t 83]⟩, ⟨(some 85), (some (84, true)), .mv, [.t 15]⟩, ⟨(some 86), (some (84, true)), .len, [.t 85]⟩, ⟨(some 87), (some (84, true)), (.bin .eql), [.t 86, .k (.c (.int .i64 0))]⟩, ⟨(some 88), none, .pick, [.t 84, .t 87, .k (.c (.bool false))]⟩, ⟨(some 89), none, .mv, [.t 88]⟩, ⟨(some 90), (some (89, true)), .mv, [.t 14]⟩, ⟨(some 91), (some (89, true)), .mv, [.t 7]⟩, ⟨(some 92), (some (89, true)), (.call 13 .fz), [.t 90, .t 91]⟩, ⟨(some 93), none, .pick, [.t 89, .t 92, .k (.c (.bool false))]⟩, ⟨(some 94), none, .mv, [.t 93]⟩, ⟨(some 95), (some (94, true)), (.call 11 .fz), []⟩, ⟨(some 96), none, .pick, [.t 94, .t 95, .k (.c (.bool false))]⟩, ⟨(some 6), none, .mv, [.t 96]⟩] false) (.rt)))))))))
theorem cf4 : compF Try.prog 4 c4 = some ⟨c4, [.t 6], 97⟩ := by kernel_rfl

-- raddle/raddlelaw12.BufFull
def c5 : IC := .sq (.rg [⟨(some 4), none, .mv, [.k (.c (.bool false))]⟩] false) (.sq (.rg [⟨(some 20), none, .mv, [.t 0]⟩, ⟨(some 21), none, (.conv .u64), [.t 20]⟩, ⟨(some 22), none, (.bin .rem), [.t 21, .k (.c (.int .u64 5))]⟩, ⟨(some 23), none, (.conv .i64), [.t 22]⟩, ⟨(some 24), none, (.bin .add), [.k (.c (.int .i64 1)), .t 23]⟩, ⟨(some 0), none, .mv, [.t 24]⟩] false) (.sq (.rg [⟨(some 25), none, .mv, [.t 1]⟩, ⟨(some 26), none, (.conv .u64), [.t 25]⟩, ⟨(some 27), none, .mv, [.t 0]⟩, ⟨(some 28), none, (.conv .u64), [.t 27]⟩, ⟨(some 29), none, (.bin .rem), [.t 26, .t 28]⟩, ⟨(some 30), none, (.conv .i64), [.t 29]⟩, ⟨(some 1), none, .mv, [.t 30]⟩] false) (.sq (.rg [⟨(some 31), none, .mv, [.t 0]⟩, ⟨(some 32), none, .mv, [.t 1]⟩, ⟨(some 33), none, (.call 12 .fz), [.t 31, .t 32, .k (.c (.int .i64 43))]⟩, ⟨(some 5), none, .mv, [.t 33]⟩] false) (.sq (.rg [⟨(some 34), none, .mv, [.t 0]⟩, ⟨(some 35), none, (.mks 1 [(.c (.int .i64 0))] false), [.t 34, .t 34]⟩, ⟨(some 6), none, .mv, [.t 35]⟩] false) (.sq (.rg [⟨(some 7), none, .mv, [.k .z]⟩] false) (.sq (.sq (.rg [⟨(some 8), none, .mv, [.k (.c (.int .i64 2))]⟩] false) (.bl 0 (.lp (.sq (.sq (.rg [⟨(some 36), none, .mv, [.t 8]⟩, ⟨(some 37), none, (.bin .lss), [.t 36, .k (.c (.int .i64 42))]⟩] false) (.cn (.t 37) (.skip) (.ex 0))) (.sq (.bl 1 (.sq (.rg [⟨(some 41), none, .mv, [.t 6]⟩, ⟨(some 42), none, .mv, [.t 7]⟩, ⟨(some 43), none, .mv, [.t 5]⟩, ⟨(some 44), none, .mv, [.t 8]⟩, ⟨(some 45), none, (.ia 12), [.t 43, .t 44]⟩, ⟨(some 46), none, (.ld (some 12)), [.t 45]⟩, ⟨(some 47), none, (.call 9 .fz), [.t 41, .t 42, .t 46]⟩, ⟨(some 40), none, .mv, [.t 47]⟩, ⟨(some 48), none, (.ext 0), [.t 40]⟩, ⟨(some 49), none, (.ext 1), [.t 40]⟩, ⟨(some 50), none, (.ext 2), [.t 40]⟩, ⟨(some 9), none, .mv, [.t 48]⟩, ⟨(some 10), none, .mv, [.t 49]⟩, ⟨(some 11), none, .mv, [.t 50]⟩] false) (.sq (.sq (.rg [⟨(some 51), none, .mv, [.t 11]⟩, ⟨(some 52), none, (.bin .neq), [.t 51, .k (.c (.int .i64 9))]⟩, ⟨(some 53), none, .mv, [.t 52]⟩, ⟨(some 54), (some (53, false)), .mv, [.t 9]⟩, ⟨(some 55), (some (53, false)), .len, [.t 54]⟩, ⟨(some 56), (some (53, false)), (.bin .neq), [.t 55, .k (.c (.int .i64 0))]⟩, ⟨(some 57), none, .pick, [.t 53, .k (.c (.bool true)), .t 56]⟩, ⟨(some 58), none, .mv, [.t 57]⟩, ⟨(some 59), (some (58, false)), .mv, [.t 10]⟩, ⟨(some 60), (some (58, false)), .len, [.t 59]⟩, ⟨(some 61), (some (58, false)), .mv, [.t 8]⟩, ⟨(some 62), (some (58, false)), (.bin .sub), [.t 61, .k (.c (.int .i64 1))]⟩, ⟨(some 63), (some (58, false)), (.bin .neq), [.t 60, .t 62]⟩, ⟨(some 64), none, .pick, [.t 58, .k (.c (.bool true)), .t 63]⟩] false) (.cn (.t 64) (.sq (.rg [⟨(some 4), none, .mv, [.k (.c (.bool false))]⟩] false) (.rt)) (.skip))) (.rg [⟨(some 65), none, .mv, [.t 10]⟩, ⟨(some 7), none, .mv, [.t 65]⟩] false)))) (.rg [⟨(some 38), none, .mv, [.t 8]⟩, ⟨(some 39), none, (.bin .add), [.t 38, .k (.c (.int .i64 1))]⟩, ⟨(some 8), none, .mv, [.t 39]⟩] false)))))) (.sq (.rg [⟨(some 67), none, .mv, [.t 6]⟩, ⟨(some 68), none, .mv, [.t 7]⟩, ⟨(some 69), none, .mv, [.t 5]⟩, ⟨(some 70), none, (.ia 12), [.t 69, .k (.c (.int .i64 42))]⟩, ⟨(some 71), none, (.ld (some 12)), [.t 70]⟩, ⟨(some 72), none, (.call 9 .fz), [.t 67, .t 68, .t 71]⟩, ⟨(some 66), none, .mv, [.t 72]⟩, ⟨(some 73), none, (.ext 0), [.t 66]⟩, ⟨(some 74), none, (.ext 1), [.t 66]⟩, ⟨(some 75), none, (.ext 2), [.t 66]⟩, ⟨(some 12), none, .mv, [.t 73]⟩, ⟨(some 13), none, .mv, [.t 74]⟩, ⟨(some 14), none, .mv, [.t 75]⟩] false) (.sq (.rg [⟨(some 77), none, .mv, [.t 6]⟩, ⟨(some 78), none, .mv, [.t 7]⟩, ⟨(some 79), none, .mv, [.t 5]⟩, ⟨(some 80), none, (.ia 12), [.t 79, .k (.c (.int .i64 5))]⟩, ⟨(some 81), none, (.ld (some 12)), [.t 80]⟩, ⟨(some 82), none, (.call 9 .fz), [.t 77, .t 78, .t 81]⟩, ⟨(some 76), none, .mv, [.t 82]⟩, ⟨(some 83), none, (.ext 0), [.t 76]⟩, ⟨(some 84), none, (.ext 1), [.t 76]⟩, ⟨(some 85), none, (.ext 2), [.t 76]⟩, ⟨(some 15), none, .mv, [.t 83]⟩, ⟨(some 16), none, .mv, [.t 84]⟩, ⟨(some 17), none, .mv, [.t 85]⟩] false) (.sq (.sq (.rg [⟨(some 86), none, .mv, [.t 14]⟩, ⟨(some 87), none, (.bin .neq), [.t 86, .k (.c (.int .i64 6))]⟩, ⟨(some 88), none, .mv, [.t 87]⟩, ⟨(some 89), (some (88, false)), .mv, [.t 17]⟩, ⟨(some 90), (some (88, false)), (.bin .neq), [.t 89, .k (.c (.int .i64 8))]⟩, ⟨(some 91), none, .pick, [.t 88, .k (.c (.bool true)), .t 90]⟩, ⟨(some 92), none, .mv, [.t 91]⟩, ⟨(some 93), (some (92, false)), .mv, [.t 12]⟩, ⟨(some 94), (some (92, false)), .len, [.t 93]⟩, ⟨(some 95), (some (92, false)), .mv, [.t 13]⟩, ⟨(some 96), (some (92, false)), .len, [.t 95]⟩, ⟨(some 97), (some (92, false)), (.bin .add), [.t 94, .t 96]⟩, ⟨(some 98), (some (92, false)), .mv, [.t 15]⟩, ⟨(some 99), (some (92, false)), .len, [.t 98]⟩, ⟨(some 100), (some (92, false)), (.bin .add), [.t 97, .t 99]⟩, ⟨(some 101), (some (92, false)), .mv, [.t 16]⟩, ⟨(some 102), (some (92, false)), .len, [.t 101]⟩, ⟨(some 103), (some (92, false)), (.bin .add), [.t 100, .t 102]⟩, ⟨(some 104), (some (92, false)), (.bin .neq), [.t 103, .k (.c (.int .i64 0))]⟩, ⟨(some 105), none, .pick, [.t 92, .k (.c (.bool true)), .t 104]⟩] false) (.cn (.t 105) (.sq (.rg [⟨(some 4), none, .mv, [.k (.c (.bool false))]⟩] false) (.rt)) (.skip))) (.sq (.rg [⟨(some 107), none, .mv, [.t 6]⟩, ⟨(some 108), none, .mv, [.t 7]⟩, ⟨(some 109), none, .mv, [.t 5]⟩, ⟨(some 110), none, (.ia 12), [.t 109, .k (.c (.int .i64 0))]⟩, ⟨(some 111), none, (.ld (some 12)), [.t 110]⟩, ⟨(some 112), none, (.call 9 .fz), [.t 107, .t 108, .t 111]⟩, ⟨(some 106), none, .mv, [.t 112]⟩, ⟨(some 113), none, (.ext 0), [.t 106]⟩, ⟨(some 114), none, (.ext 1), [.t 106]⟩, ⟨(some 115), none, (.ext 2), [.t 106]⟩, ⟨(some 18), none, .mv, [.t 113]⟩, ⟨(some 19), none, .mv, [.t 114]⟩, ⟨(some 14), none, .mv, [.t 115]⟩] false) (.sq (.sq (.rg [⟨(some 116), none, .mv, [.t 14]⟩, ⟨(some 117), none, (.bin .neq), [.t 116, .k (.c (.int .i64 0))]⟩, ⟨(some 118), none, .mv, [.t 117]⟩, ⟨(some 119), (some (118, false)), .mv, [.t 18]⟩, ⟨(some 120), (some (118, false)), .len, [.t 119]⟩, ⟨(some 121), (some (118, false)), (.bin .neq), [.t 120, .k (.c (.int .i64 1))]⟩, ⟨(some 122), none, .pick, [.t 118, .k (.c (.bool true)), .t 121]⟩, ⟨(some 123), none, .mv, [.t 122]⟩, ⟨(some 124), (some (123, false)), .mv, [.t 19]⟩, ⟨(some 125), (some (123, false)), .len, [.t 124]⟩, ⟨(some 126), (some (123, false)), (.bin .neq), [.t 125, .k (.c (.int .i64 40))]⟩, ⟨(some 127), none, .pick, [.t 123, .k (.c (.bool true)), .t 126]⟩] false) (.cn (.t 127) (.sq (.rg [⟨(some 4), none, .mv, [.k (.c (.bool false))]⟩] false) (.rt)) (.skip))) (.sq (.rg [⟨(some 128), none, .mv, [.t 6]⟩, ⟨(some 129), none, .mv, [.t 1]⟩, ⟨(some 130), none, (.ia 1), [.t 128, .t 129]⟩, ⟨none, none, (.st 1), [.t 130, .k (.c (.int .i64 1))]⟩] false) (.sq (.rg [⟨(some 132), none, .mv, [.t 6]⟩, ⟨(some 133), none, .mv, [.t 19]⟩, ⟨(some 134), none, .mv, [.t 5]⟩, ⟨(some 135), none, (.ia 12), [.t 134, .k (.c (.int .i64 1))]⟩, ⟨(some 136), none, (.ld (some 12)), [.t 135]⟩, ⟨(some 137), none, (.call 9 .fz), [.t 132, .t 133, .t 136]⟩, ⟨(some 131), none, .mv, [.t 137]⟩, ⟨(some 138), none, (.ext 0), [.t 131]⟩, ⟨(some 139), none, (.ext 1), [.t 131]⟩, ⟨(some 140), none, (.ext 2), [.t 131]⟩, ⟨(some 18), none, .mv, [.t 138]⟩, ⟨(some 19), none, .mv, [.t 139]⟩, ⟨(some 14), none, .mv, [.t 140]⟩] false) (.sq (.rg [⟨(some 141), none, .mv, [.t 14]⟩, ⟨(some 142), none, (.bin .eql), [.t 141, .k (.c (.int .i64 0))]⟩, ⟨(some 143), none, .mv, [.t 142]⟩, ⟨(some 144), (some (143, true)), .mv, [.t 18]⟩, ⟨(some 145), (some (143, true)), .len, [.t 144]⟩, ⟨(some 146), (some (143, true)), (.bin .eql), [.t 145, .k (.c (.int .i64 41))]⟩, ⟨(some 147), none, .pick, [.t 143, .t 146, .k (.c (.bool false))]⟩, ⟨(some 148), none, .mv, [.t 147]⟩, ⟨(some 149), (some (148, true)), .mv, [.t 19]⟩, ⟨(some 150), (some (148, true)), .len, [.t 149]⟩, ⟨(some 151), (some (148, true)), (.bin .eql), [.t 150, .k (.c (.int .i64 0))]⟩, ⟨(some 152), none, .pick, [.t 148, .t 151, .k (.c (.bool false))]⟩, ⟨(some 153), none, .mv, [.t 152]⟩, ⟨(some 154), (some (153, true)), (.call 11 .fz), []⟩, ⟨(some 155), none, .pick, [.t 153, .t 154, .k (.c (.bool false))]⟩, ⟨(some 4), none, .mv, [.t 155]⟩] false) (.rt)))))))))))))))
theorem cf5 : compF Try.prog 5 c5 = some ⟨c5, [.t 4], 156⟩ := by kernel_rfl

-- raddle/raddlelaw12.BufNeeds
def c6 : IC := .sq (.rg [⟨(some 2), none, .mv, [.k (.c (.bool false))]⟩] false) (.sq (.rg [⟨(some 14), none, .mv, [.t 0]⟩, ⟨(some 15), none, (.conv .u64), [.t 14]⟩, ⟨(some 16), none, (.bin .rem), [.t 15, .k (.c (.int .u64 20))]⟩, ⟨(some 17), none, (.conv .i64), [.t 16]⟩, ⟨(some 18), none, (.bin .add), [.k (.c (.int .i64 1)), .t 17]⟩, ⟨(some 0), none, .mv, [.t 18]⟩] false) (.sq (.rg [⟨(some 19), none, (.call 12 .fz), [.k (.c (.int .i64 2)), .k (.c (.int .i64 0)), .k (.c (.int .i64 1))]⟩, ⟨(some 20), none, .mv, [.t 0]⟩, ⟨(some 21), none, (.call 12 .fz), [.k (.c (.int .i64 2)), .k (.c (.int .i64 1)), .t 20]⟩, ⟨(some 3), none, .mv, [.t 19]⟩, ⟨(some 4), none, .mv, [.t 21]⟩] false) (.sq (.rg [⟨(some 22), none, (.bld [(.c (.int .i64 0)), (.c (.int .i64 0))] [(0, 1), (1, 1)]), [.k (.c (.int .i64 0)), .k (.c (.int .i64 2))]⟩, ⟨(some 23), none, .mv, [.t 0]⟩, ⟨(some 24), none, (.bsl 1 [(.c (.int .i64 0))] [0, 1] 2 true), [.k (.c (.int .i64 1)), .t 23]⟩, ⟨(some 25), none, (.bld [(.c (.int .i64 0)), (.c (.int .i64 0)), .z, (.c (.int .i64 0)), (.c (.int .i64 0)), (.c (.int .i64 0)), (.c (.int .i64 0)), (.c (.int .i64 0)), (.c (.string ⟨#[]⟩)), (.c (.int .i64 0)), .z, .z] [(0, 2), (2, 1)]), [.t 22, .t 24]⟩, ⟨(some 5), none, (.alloc [(.c (.int .i64 0)), (.c (.int .i64 0)), .z, (.c (.int .i64 0)), (.c (.int .i64 0)), (.c (.int .i64 0)), (.c (.int .i64 0)), (.c (.int .i64 0)), (.c (.string ⟨#[]⟩)), (.c (.int .i64 0)), .z, .z]), []⟩, ⟨none, none, (.st 12), [.t 5, .t 25]⟩] false) (.sq (.rg [⟨(some 26), none, (.bsl 1 [(.c (.int .i64 0))] [0, 1] 2 false), [.k (.c (.int .i64 0)), .k (.c (.int .i64 0))]⟩, ⟨(some 6), none, .mv, [.t 26]⟩] false) (.sq (.rg [⟨(some 28), none, .mv, [.t 6]⟩, ⟨(some 29), none, (.ld (some 12)), [.t 5]⟩, ⟨(some 30), none, (.call 9 .fz), [.t 28, .k .z, .t 29]⟩, ⟨(some 27), none, .mv, [.t 30]⟩, ⟨(some 31), none, (.ext 0), [.t 27]⟩, ⟨(some 32), none, (.ext 1), [.t 27]⟩, ⟨(some 33), none, (.ext 2), [.t 27]⟩, ⟨(some 7), none, .mv, [.t 31]⟩, ⟨(some 8), none, .mv, [.t 32]⟩, ⟨(some 9), none, .mv, [.t 33]⟩] false) (.sq (.sq (.rg [⟨(some 34), none, .mv, [.t 9]⟩, ⟨(some 35), none, (.bin .neq), [.t 34, .k (.c (.int .i64 9))]⟩, ⟨(some 36), none, .mv, [.t 35]⟩, ⟨(some 37), (some (36, false)), .mv, [.t 7]⟩, ⟨(some 38), (some (36, false)), .len, [.t 37]⟩, ⟨(some 39), (some (36, false)), (.bin .neq), [.t 38, .k (.c (.int .i64 0))]⟩, ⟨(some 40), none, .pick, [.t 36, .k (.c (.bool true)), .t 39]⟩] false) (.cn (.t 40) (.sq (.rg [⟨(some 2), none, .mv, [.k (.c (.bool false))]⟩] false) (.rt)) (.skip))) (.sq (.rg [⟨(some 42), none, .mv, [.t 6]⟩, ⟨(some 43), none, .mv, [.t 8]⟩, ⟨(some 44), none, .mv, [.t 3]⟩, ⟨(some 45), none, (.ia 12), [.t 44, .k (.c (.int .i64 0))]⟩, ⟨(some 46), none, (.ld (some 12)), [.t 45]⟩, ⟨(some 47), none, (.call 9 .fz), [.t 42, .t 43, .t 46]⟩, ⟨(some 41), none, .mv, [.t 47]⟩, ⟨(some 48), none, (.ext 0), [.t 41]⟩, ⟨(some 49), none, (.ext 1), [.t 41]⟩, ⟨(some 50), none, (.ext 2), [.t 41]⟩, ⟨(some 7), none, .mv, [.t 48]⟩, ⟨(some 8), none, .mv, [.t 49]⟩, ⟨(some 9), none, .mv, [.t 50]⟩] false) (.sq (.sq (.rg [⟨(some 51), none, .mv, [.t 9]⟩, ⟨(some 52), none, (.bin .neq), [.t 51, .k (.c (.int .i64 0))]⟩, ⟨(some 53), none, .mv, [.t 52]⟩, ⟨(some 54), (some (53, false)), .mv, [.t 7]⟩, ⟨(some 55), (some (53, false)), .len, [.t 54]⟩, ⟨(some 56), (some (53, false)), (.bin .neq), [.t 55, .k (.c (.int .i64 1))]⟩, ⟨(some 57), none, .pick, [.t 53, .k (.c (.bool true)), .t 56]⟩, ⟨(some 58), none, .mv, [.t 57]⟩, ⟨(some 59), (some (58, false)), .mv, [.t 8]⟩, ⟨(some 60), (some (58, false)), .len, [.t 59]⟩, ⟨(some 61), (some (58, false)), (.bin .neq), [.t 60, .k (.c (.int .i64 1))]⟩, ⟨(some 62), none, .pick, [.t 58, .k (.c (.bool true)), .t 61]⟩] false) (.cn (.t 62) (.sq (.rg [⟨(some 2), none, .mv, [.k (.c (.bool false))]⟩] false) (.rt)) (.skip))) (.sq (.rg [⟨(some 63), none, .mv, [.t 6]⟩, ⟨(some 64), none, (.ia 1), [.t 63, .k (.c (.int .i64 0))]⟩, ⟨none, none, (.st 1), [.t 64, .k (.c (.int .i64 1))]⟩] false) (.sq (.sq (.rg [⟨(some 10), none, .mv, [.k (.c (.int .i64 0))]⟩] false) (.bl 0 (.lp (.sq (.sq (.rg [⟨(some 65), none, .mv, [.t 10]⟩, ⟨(some 66), none, .mv, [.t 0]⟩, ⟨(some 67), none, (.bin .lss), [.t 65, .t 66]⟩] false) (.cn (.t 67) (.skip) (.ex 0))) (.sq (.bl 1 (.sq (.rg [⟨(some 71), none, .mv, [.t 6]⟩, ⟨(some 72), none, .mv, [.t 8]⟩, ⟨(some 73), none, .mv, [.t 4]⟩, ⟨(some 74), none, .mv, [.t 10]⟩, ⟨(some 75), none, (.ia 12), [.t 73, .t 74]⟩, ⟨(some 76), none, (.ld (some 12)), [.t 75]⟩, ⟨(some 77), none, (.call 9 .fz), [.t 71, .t 72, .t 76]⟩, ⟨(some 70), none, .mv, [.t 77]⟩, ⟨(some 78), none, (.ext 0), [.t 70]⟩, ⟨(some 79), none, (.ext 1), [.t 70]⟩, ⟨(some 80), none, (.ext 2), [.t 70]⟩, ⟨(some 7), none, .mv, [.t 78]⟩, ⟨(some 8), none, .mv, [.t 79]⟩, ⟨(some 9), none, .mv, [.t 80]⟩] false) (.sq (.rg [⟨(some 11), none, .mv, [.k (.c (.int .i64 1))]⟩] false) (.sq (.sq (.rg [⟨(some 81), none, .mv, [.t 10]⟩, ⟨(some 82), none, .mv, [.t 0]⟩, ⟨(some 83), none, (.bin .sub), [.t 82, .k (.c (.int .i64 1))]⟩, ⟨(some 84), none, (.bin .eql), [.t 81, .t 83]⟩] false) (.cn (.t 84) (.rg [⟨(some 11), none, .mv, [.k (.c (.int .i64 2))]⟩] false) (.skip))) (.sq (.sq (.rg [⟨(some 85), none, .mv, [.t 9]⟩, ⟨(some 86), none, (.bin .neq), [.t 85, .k (.c (.int .i64 0))]⟩, ⟨(some 87), none, .mv, [.t 86]⟩, ⟨(some 88), (some (87, false)), .mv, [.t 7]⟩, ⟨(some 89), (some (87, false)), .len, [.t 88]⟩, ⟨(some 90), (some (87, false)), .mv, [.t 11]⟩, ⟨(some 91), (some (87, false)), (.bin .neq), [.t 89, .t 90]⟩, ⟨(some 92), none, .pick, [.t 87, .k (.c (.bool true)), .t 91]⟩, ⟨(some 93), none, .mv, [.t 92]⟩, ⟨(some 94), (some (93, false)), .mv, [.t 8]⟩, ⟨(some 95), (some (93, false)), .len, [.t 94]⟩, ⟨(some 96), (some (93, false)), .mv, [.t 11]⟩, ⟨(some 97), (some (93, false)), (.bin .sub), [.k (.c (.int .i64 2)), .t 96]⟩, ⟨(some 98), (some (93, false)), (.bin .neq), [.t 95, .t 97]⟩, ⟨(some 99), none, .pick, [.t 93, .k (.c (.bool true)), .t 98]⟩] false) (.cn (.t 99) (.sq (.rg [⟨(some 2), none, .mv, [.k (.c (.bool false))]⟩] false) (.rt)) (.skip))) (.rg [⟨(some 100), none, .mv, [.t 6]⟩, ⟨(some 101), none, .mv, [.t 10]⟩, ⟨(some 102), none, (.bin .add), [.t 101, .k (.c (.int .i64 1))]⟩, ⟨(some 103), none, (.ia 1), [.t 100, .k (.c (.int .i64 1))]⟩, ⟨none, none, (.st 1), [.t 103, .t 102]⟩] false)))))) (.rg [⟨(some 68), none, .mv, [.t 10]⟩, ⟨(some 69), none, (.bin .add), [.t 68, .k (.c (.int .i64 1))]⟩, ⟨(some 10), none, .mv, [.t 69]⟩] false)))))) (.sq (.rg [⟨(some 105), none, .mv, [.t 0]⟩, ⟨(some 106), none, (.bsl 1 [(.c (.int .i64 0))] [0, 1] 2 true), [.k (.c (.int .i64 2)), .t 105]⟩, ⟨(some 107), none, (.ld (some 12)), [.t 5]⟩, ⟨(some 108), none, (.bsl 12 [(.c (.int .i64 0)), (.c (.int .i64 0)), .z, (.c (.int .i64 0)), (.c (.int .i64 0)), (.c (.int .i64 0)), (.c (.int .i64 0)), (.c (.int .i64 0)), (.c (.string ⟨#[]⟩)), (.c (.int .i64 0)), .z, .z] [0] 1 true), [.t 107]⟩, ⟨(some 109), none, (.call 14 .fz), [.t 106, .t 108]⟩, ⟨(some 104), none, .mv, [.t 109]⟩, ⟨(some 110), none, (.ext 0), [.t 104]⟩, ⟨(some 111), none, (.ext 1), [.t 104]⟩, ⟨(some 112), none, (.ext 2), [.t 104]⟩, ⟨(some 12), none, .mv, [.t 110]⟩, ⟨(some 13), none, .mv, [.t 111]⟩, ⟨(some 9), none, .mv, [.t 112]⟩] false) (.sq (.rg [⟨(some 113), none, .mv, [.t 9]⟩, ⟨(some 114), none, (.bin .eql), [.t 113, .k (.c (.int .i64 0))]⟩, ⟨(some 115), none, .mv, [.t 114]⟩, ⟨(some 116), (some (115, true)), .mv, [.t 12]⟩, ⟨(some 117), (some (115, true)), .len, [.t 116]⟩, ⟨(some 118), (some (115, true)), .mv, [.t 13]⟩, ⟨(some 119), (some (115, true)), .len, [.t 118]⟩, ⟨(some 120), (some (115, true)), (.bin .add), [.t 117, .t 119]⟩, ⟨(some 121), (some (115, true)), (.bin .eql), [.t 120, .k (.c (.int .i64 0))]⟩, ⟨(some 122), none, .pick, [.t 115, .t 121, .k (.c (.bool false))]⟩, ⟨(some 123), none, .mv, [.t 122]⟩, ⟨(some 124), (some (123, true)), (.call 11 .fz), []⟩, ⟨(some 125), none, .pick, [.t 123, .t 124, .k (.c (.bool false))]⟩, ⟨(some 2), none, .mv, [.t 125]⟩] false) (.rt)))))))))))))
theorem cf6 : compF Try.prog 6 c6 = some ⟨c6, [.t 2], 126⟩ := by kernel_rfl

-- raddle/raddlelaw07.Heavy
def c7 : IC := .sq (.rg [⟨(some 2), none, .mv, [.k (.c (.bool false))]⟩] false) (.sq (.sq (.rg [⟨(some 4), none, .mv, [.t 0]⟩, ⟨(some 5), none, .len, [.t 4]⟩, ⟨(some 6), none, (.bin .gtr), [.t 5, .k (.c (.int .i64 300))]⟩] false) (.cn (.t 6) (.sq (.rg [⟨(some 2), none, .mv, [.k (.c (.bool true))]⟩] false) (.rt)) (.skip))) (.sq (.sq (.rg [⟨(some 3), none, .mv, [.k (.c (.int .i64 0))]⟩] false) (.bl 0 (.lp (.sq (.sq (.rg [⟨(some 7), none, .mv, [.t 3]⟩, ⟨(some 8), none, .mv, [.t 0]⟩, ⟨(some 9), none, .len, [.t 8]⟩, ⟨(some 10), none, (.bin .lss), [.t 7, .t 9]⟩] false) (.cn (.t 10) (.skip) (.ex 0))) (.sq (.bl 1 (.sq (.rg [⟨(some 13), none, .mv, [.t 0]⟩, ⟨(some 14), none, .mv, [.t 3]⟩, ⟨(some 15), none, (.ia 12), [.t 13, .t 14]⟩, ⟨(some 16), none, (.fa 2), [.t 15]⟩, ⟨(some 17), none, (.ld none), [.t 16]⟩, ⟨(some 18), none, .len, [.t 17]⟩, ⟨(some 19), none, (.bin .gtr), [.t 18, .k (.c (.int .i64 30))]⟩, ⟨(some 20), none, .mv, [.t 19]⟩, ⟨(some 21), (some (20, false)), .mv, [.t 0]⟩, ⟨(some 22), (some (20, false)), .mv, [.t 3]⟩, ⟨(some 23), (some (20, false)), (.ia 12), [.t 21, .t 22]⟩, ⟨(some 24), (some (20, false)), (.fa 8), [.t 23]⟩, ⟨(some 25), (some (20, false)), (.ld none), [.t 24]⟩, ⟨(some 26), (some (20, false)), .slen, [.t 25]⟩, ⟨(some 27), (some (20, false)), (.bin .gtr), [.t 26, .k (.c (.int .i64 100))]⟩, ⟨(some 28), none, .pick, [.t 20, .k (.c (.bool true)), .t 27]⟩, ⟨(some 29), none, .mv, [.t 28]⟩, ⟨(some 30), (some (29, false)), .mv, [.t 0]⟩, ⟨(some 31), (some (29, false)), .mv, [.t 3]⟩, ⟨(some 32), (some (29, false)), (.ia 12), [.t 30, .t 31]⟩, ⟨(some 33), (some (29, false)), (.fa 10), [.t 32]⟩, ⟨(some 34), (some (29, false)), (.ld none), [.t 33]⟩, ⟨(some 35), (some (29, false)), (.call 15 .fz), [.t 34]⟩, ⟨(some 36), none, .pick, [.t 29, .k (.c (.bool true)), .t 35]⟩, ⟨(some 37), none, .mv, [.t 36]⟩, ⟨(some 38), (some (37, false)), .mv, [.t 0]⟩, ⟨(some 39), (some (37, false)), .mv, [.t 3]⟩, ⟨(some 40), (some (37, false)), (.ia 12), [.t 38, .t 39]⟩, ⟨(some 41), (some (37, false)), (.fa 11), [.t 40]⟩, ⟨(some 42), (some (37, false)), (.ld none), [.t 41]⟩, ⟨(some 43), (some (37, false)), .len, [.t 42]⟩, ⟨(some 44), (some (37, false)), (.bin .gtr), [.t 43, .k (.c (.int .i64 100))]⟩, ⟨(some 45), none, .pick, [.t 37, .k (.c (.bool true)), .t 44]⟩] false) (.cn (.t 45) (.sq (.rg [⟨(some 2), none, .mv, [.k (.c (.bool true))]⟩] false) (.rt)) (.skip)))) (.rg [⟨(some 11), none, .mv, [.t 3]⟩, ⟨(some 12), none, (.bin .add), [.t 11, .k (.c (.int .i64 1))]⟩, ⟨(some 3), none, .mv, [.t 12]⟩] false)))))) (.sq (.rg [⟨(some 2), none, .mv, [.k (.c (.bool false))]⟩] false) (.rt))))
theorem cf7 : compF Try.prog 7 c7 = some ⟨c7, [.t 2], 46⟩ := by kernel_rfl

-- raddle/raddleref09.Can
def c8 : IC := .sq (.rg [⟨(some 3), none, (.box (some 12)), [.t 1]⟩, ⟨(some 4), none, .mv, [.k (.c (.bool false))]⟩] false) (.sq (.rg [⟨(some 5), none, .mv, [.t 0]⟩, ⟨(some 6), none, (.fa 0), [.t 3]⟩, ⟨(some 7), none, (.ld (some 2)), [.t 6]⟩, ⟨(some 8), none, (.call 16 .fz), [.t 5, .t 7]⟩, ⟨(some 9), none, .mv, [.t 8]⟩, ⟨(some 10), (some (9, true)), (.fa 2), [.t 3]⟩, ⟨(some 11), (some (9, true)), (.ld none), [.t 10]⟩, ⟨(some 12), (some (9, true)), .mv, [.t 0]⟩, ⟨(some 13), (some (9, true)), (.call 17 .fz), [.t 11, .t 12]⟩, ⟨(some 14), none, .pick, [.t 9, .t 13, .k (.c (.bool false))]⟩, ⟨(some 4), none, .mv, [.t 14]⟩] false) (.rt))
theorem cf8 : compF Try.prog 8 c8 = some ⟨c8, [.t 4], 15⟩ := by kernel_rfl

-- raddle/cbuf.Offer
def c9 : IC := .sq (.rg [⟨(some 5), none, (.box (some 12)), [.t 2]⟩, ⟨(some 6), none, .mv, [.k .z]⟩, ⟨(some 7), none, .mv, [.k .z]⟩, ⟨(some 8), none, .mv, [.k (.c (.int .i64 0))]⟩] false) (.sq (.rg [⟨(some 10), none, .mv, [.t 0]⟩, ⟨(some 11), none, .mv, [.t 1]⟩, ⟨(some 12), none, (.call 18 .fz), [.t 10, .t 11]⟩, ⟨(some 8), none, .mv, [.t 12]⟩] false) (.sq (.bl 0 (.sq (.rg [⟨(some 14), none, .mv, [.t 8]⟩, ⟨(some 15), none, (.bin .neq), [.t 14, .k (.c (.int .i64 0))]⟩, ⟨(some 13), none, .mv, [.t 15]⟩] false) (.cn (.t 13) (.sq (.rg [⟨(some 16), none, .mv, [.t 8]⟩, ⟨(some 6), none, .mv, [.k .z]⟩, ⟨(some 7), none, .mv, [.k .z]⟩, ⟨(some 8), none, .mv, [.t 16]⟩] false) (.rt)) (.sq (.rg [⟨(some 18), none, .mv, [.t 0]⟩, ⟨(some 19), none, (.fa 0), [.t 5]⟩, ⟨(some 20), none, (.ld (some 2)), [.t 19]⟩, ⟨(some 21), none, (.call 19 .fz), [.t 18, .t 20]⟩, ⟨(some 22), none, .mv, [.t 21]⟩, ⟨(some 23), (some (22, false)), .mv, [.t 1]⟩, ⟨(some 24), (some (22, false)), (.mkf 21), [.t 5]⟩, ⟨(some 25), (some (22, false)), (.call 20 .fz), [.t 23, .t 24]⟩, ⟨(some 26), none, .pick, [.t 22, .k (.c (.bool true)), .t 25]⟩, ⟨(some 17), none, .mv, [.t 26]⟩] false) (.cn (.t 17) (.sq (.rg [⟨(some 6), none, .mv, [.k .z]⟩, ⟨(some 7), none, .mv, [.k .z]⟩, ⟨(some 8), none, .mv, [.k (.c (.int .i64 8))]⟩] false) (.rt)) (.sq (.rg [⟨(some 28), none, .mv, [.t 0]⟩, ⟨(some 29), none, (.ld (some 12)), [.t 5]⟩, ⟨(some 30), none, (.call 22 .fz), [.t 28, .t 29]⟩, ⟨(some 31), none, (.un .not), [.t 30]⟩, ⟨(some 32), none, .mv, [.t 31]⟩, ⟨(some 33), (some (32, true)), .mv, [.t 1]⟩, ⟨(some 34), (some (32, true)), .len, [.t 33]⟩, ⟨(some 35), (some (32, true)), (.bin .geq), [.t 34, .k (.c (.int .i64 40))]⟩, ⟨(some 36), none, .pick, [.t 32, .t 35, .k (.c (.bool false))]⟩, ⟨(some 27), none, .mv, [.t 36]⟩] false) (.cn (.t 27) (.sq (.rg [⟨(some 6), none, .mv, [.k .z]⟩, ⟨(some 7), none, .mv, [.k .z]⟩, ⟨(some 8), none, .mv, [.k (.c (.int .i64 6))]⟩] false) (.rt)) (.sq (.rg [⟨(some 38), none, .mv, [.t 0]⟩, ⟨(some 39), none, (.ld (some 12)), [.t 5]⟩, ⟨(some 40), none, (.call 22 .fz), [.t 38, .t 39]⟩, ⟨(some 41), none, (.un .not), [.t 40]⟩, ⟨(some 37), none, .mv, [.t 41]⟩] false) (.cn (.t 37) (.sq (.rb [⟨(some 42), none, .mv, [.t 1]⟩, ⟨(some 43), none, (.call 23 (.own 12)), [.t 42]⟩, ⟨(some 44), none, (.ld (some 12)), [.t 5]⟩, ⟨(some 45), none, (.call 24 .fz), [.t 44]⟩, ⟨(some 46), none, (.bsl 12 [(.c (.int .i64 0)), (.c (.int .i64 0)), .z, (.c (.int .i64 0)), (.c (.int .i64 0)), (.c (.int .i64 0)), (.c (.int .i64 0)), (.c (.int .i64 0)), (.c (.string ⟨#[]⟩)), (.c (.int .i64 0)), .z, .z] [0] 1 true), [.t 45]⟩] ⟨(some 47), none, (.app 12), [.t 43, .t 46]⟩ [⟨(some 6), none, .mv, [.k .z]⟩, ⟨(some 7), none, .mv, [.t 47]⟩, ⟨(some 8), none, .mv, [.k (.c (.int .i64 9))]⟩]) (.rt)) (.skip)))))))))) (.sq (.rg [⟨(some 48), none, .mv, [.t 0]⟩, ⟨(some 49), none, (.call 25 (.own 1)), [.t 48]⟩, ⟨(some 9), none, .mv, [.t 49]⟩] false) (.sq (.rg [⟨(some 50), none, .mv, [.t 9]⟩, ⟨(some 51), none, (.fa 0), [.t 5]⟩, ⟨(some 52), none, (.fa 0), [.t 51]⟩, ⟨(some 53), none, (.ld none), [.t 52]⟩, ⟨(some 54), none, (.fa 0), [.t 5]⟩, ⟨(some 55), none, (.fa 1), [.t 54]⟩, ⟨(some 56), none, (.ld none), [.t 55]⟩, ⟨(some 57), none, (.ia 1), [.t 50, .t 53]⟩, ⟨none, none, (.st 1), [.t 57, .t 56]⟩] false) (.sq (.rg [⟨(some 59), none, .mv, [.t 9]⟩, ⟨(some 60), none, .mv, [.t 1]⟩, ⟨(some 61), none, (.call 14 (.own 12)), [.t 59, .t 60]⟩, ⟨(some 58), none, .mv, [.t 61]⟩, ⟨(some 62), none, (.ext 0), [.t 58]⟩, ⟨(some 63), none, (.ext 1), [.t 58]⟩, ⟨(some 64), none, (.ext 2), [.t 58]⟩, ⟨(some 6), none, .mv, [.t 62]⟩, ⟨(some 7), none, .mv, [.t 63]⟩, ⟨(some 8), none, .mv, [.t 64]⟩] false) (.sq (.sq (.rg [⟨(some 65), none, .mv, [.t 8]⟩, ⟨(some 66), none, (.bin .neq), [.t 65, .k (.c (.int .i64 0))]⟩] false) (.cn (.t 66) (.sq (.rg [⟨(some 67), none, .mv, [.t 8]⟩, ⟨(some 6), none, .mv, [.k .z]⟩, ⟨(some 7), none, .mv, [.k .z]⟩, ⟨(some 8), none, .mv, [.t 67]⟩] false) (.rt)) (.skip))) (.sq (.rg [⟨(some 68), none, .mv, [.t 6]⟩, ⟨(some 69), none, (.ld (some 12)), [.t 5]⟩, ⟨(some 70), none, (.call 24 .fz), [.t 69]⟩, ⟨(some 71), none, (.bsl 12 [(.c (.int .i64 0)), (.c (.int .i64 0)), .z, (.c (.int .i64 0)), (.c (.int .i64 0)), (.c (.int .i64 0)), (.c (.int .i64 0)), (.c (.int .i64 0)), (.c (.string ⟨#[]⟩)), (.c (.int .i64 0)), .z, .z] [0] 1 false), [.t 70]⟩, ⟨(some 72), none, (.rcall 26), [.t 68, .k (.c (.int .i64 0)), .t 71]⟩, ⟨(some 73), none, .mv, [.t 7]⟩, ⟨(some 6), none, .mv, [.t 72]⟩, ⟨(some 7), none, .mv, [.t 73]⟩, ⟨(some 8), none, .mv, [.k (.c (.int .i64 0))]⟩] false) (.rt))))))))
theorem cf9 : compF Try.prog 9 c9 = some ⟨c9, [.t 6, .t 7, .t 8], 74⟩ := by kernel_rfl

-- raddle/raddlekeep.Ints
def c10 : IC := .sq (.rg [⟨(some 4), none, .mv, [.k (.c (.bool false))]⟩] false) (.sq (.sq (.rg [⟨(some 6), none, .mv, [.t 0]⟩, ⟨(some 7), none, .len, [.t 6]⟩, ⟨(some 8), none, .mv, [.t 1]⟩, ⟨(some 9), none, .len, [.t 8]⟩, ⟨(some 10), none, (.bin .neq), [.t 7, .t 9]⟩] false) (.cn (.t 10) (.sq (.rg [⟨(some 4), none, .mv, [.k (.c (.bool false))]⟩] false) (.rt)) (.skip))) (.sq (.sq (.rg [⟨(some 5), none, .mv, [.k (.c (.int .i64 0))]⟩] false) (.bl 0 (.lp (.sq (.sq (.rg [⟨(some 11), none, .mv, [.t 5]⟩, ⟨(some 12), none, .mv, [.t 0]⟩, ⟨(some 13), none, .len, [.t 12]⟩, ⟨(some 14), none, (.bin .lss), [.t 11, .t 13]⟩] false) (.cn (.t 14) (.skip) (.ex 0))) (.sq (.bl 1 (.sq (.rg [⟨(some 17), none, .mv, [.t 0]⟩, ⟨(some 18), none, .mv, [.t 5]⟩, ⟨(some 19), none, (.ia 1), [.t 17, .t 18]⟩, ⟨(some 20), none, (.ld none), [.t 19]⟩, ⟨(some 21), none, .mv, [.t 1]⟩, ⟨(some 22), none, .mv, [.t 5]⟩, ⟨(some 23), none, (.ia 1), [.t 21, .t 22]⟩, ⟨(some 24), none, (.ld none), [.t 23]⟩, ⟨(some 25), none, (.bin .neq), [.t 20, .t 24]⟩] true) (.cn (.t 25) (.sq (.rg [⟨(some 4), none, .mv, [.k (.c (.bool false))]⟩] false) (.rt)) (.skip)))) (.rg [⟨(some 15), none, .mv, [.t 5]⟩, ⟨(some 16), none, (.bin .add), [.t 15, .k (.c (.int .i64 1))]⟩, ⟨(some 5), none, .mv, [.t 16]⟩] false)))))) (.sq (.rg [⟨(some 4), none, .mv, [.k (.c (.bool true))]⟩] false) (.rt))))
theorem cf10 : compF Try.prog 10 c10 = some ⟨c10, [.t 4], 26⟩ := by kernel_rfl

-- raddle/raddlelaw12.wakes
def c11 : IC := .sq (.rg [⟨(some 0), none, .mv, [.k (.c (.bool false))]⟩] false) (.sq (.rg [⟨(some 6), none, (.bld [(.c (.int .i64 0)), (.c (.int .i64 0))] [(1, 1)]), [.k (.c (.int .i64 1))]⟩, ⟨(some 7), none, (.bsl 1 [(.c (.int .i64 0))] [0] 1 true), [.k (.c (.int .i64 0))]⟩, ⟨(some 8), none, (.bld [(.c (.int .i64 0)), (.c (.int .i64 0)), .z, (.c (.int .i64 0)), (.c (.int .i64 0)), (.c (.int .i64 0)), (.c (.int .i64 0)), (.c (.int .i64 0)), (.c (.string ⟨#[]⟩)), (.c (.int .i64 0)), .z, .z] [(0, 2), (2, 1)]), [.t 6, .t 7]⟩, ⟨(some 9), none, (.bld [(.c (.int .i64 0)), (.c (.int .i64 0))] [(1, 1)]), [.k (.c (.int .i64 2))]⟩, ⟨(some 10), none, (.bsl 1 [(.c (.int .i64 0))] [0] 1 true), [.k (.c (.int .i64 1))]⟩, ⟨(some 11), none, (.bld [(.c (.int .i64 0)), (.c (.int .i64 0)), .z, (.c (.int .i64 0)), (.c (.int .i64 0)), (.c (.int .i64 0)), (.c (.int .i64 0)), (.c (.int .i64 0)), (.c (.string ⟨#[]⟩)), (.c (.int .i64 0)), .z, .z] [(0, 2), (2, 1)]), [.t 9, .t 10]⟩, ⟨(some 1), none, (.alloc [(.c (.int .i64 0)), (.c (.int .i64 0)), .z, (.c (.int .i64 0)), (.c (.int .i64 0)), (.c (.int .i64 0)), (.c (.int .i64 0)), (.c (.int .i64 0)), (.c (.string ⟨#[]⟩)), (.c (.int .i64 0)), .z, .z]), []⟩, ⟨(some 2), none, (.alloc [(.c (.int .i64 0)), (.c (.int .i64 0)), .z, (.c (.int .i64 0)), (.c (.int .i64 0)), (.c (.int .i64 0)), (.c (.int .i64 0)), (.c (.int .i64 0)), (.c (.string ⟨#[]⟩)), (.c (.int .i64 0)), .z, .z]), []⟩, ⟨none, none, (.st 12), [.t 1, .t 8]⟩, ⟨none, none, (.st 12), [.t 2, .t 11]⟩] false) (.sq (.rg [⟨(some 13), none, (.bsl 1 [(.c (.int .i64 0))] [0] 1 true), [.k (.c (.int .i64 0))]⟩, ⟨(some 14), none, (.ld (some 12)), [.t 2]⟩, ⟨(some 15), none, (.call 9 .fz), [.t 13, .k .z, .t 14]⟩, ⟨(some 12), none, .mv, [.t 15]⟩, ⟨(some 16), none, (.ext 0), [.t 12]⟩, ⟨(some 17), none, (.ext 1), [.t 12]⟩, ⟨(some 18), none, (.ext 2), [.t 12]⟩, ⟨(some 3), none, .mv, [.t 16]⟩, ⟨(some 4), none, .mv, [.t 17]⟩, ⟨(some 5), none, .mv, [.t 18]⟩] false) (.sq (.sq (.rg [⟨(some 19), none, .mv, [.t 5]⟩, ⟨(some 20), none, (.bin .neq), [.t 19, .k (.c (.int .i64 9))]⟩, ⟨(some 21), none, .mv, [.t 20]⟩, ⟨(some 22), (some (21, false)), .mv, [.t 3]⟩, ⟨(some 23), (some (21, false)), .len, [.t 22]⟩, ⟨(some 24), (some (21, false)), (.bin .neq), [.t 23, .k (.c (.int .i64 0))]⟩, ⟨(some 25), none, .pick, [.t 21, .k (.c (.bool true)), .t 24]⟩, ⟨(some 26), none, .mv, [.t 25]⟩, ⟨(some 27), (some (26, false)), .mv, [.t 4]⟩, ⟨(some 28), (some (26, false)), .len, [.t 27]⟩, ⟨(some 29), (some (26, false)), (.bin .neq), [.t 28, .k (.c (.int .i64 1))]⟩, ⟨(some 30), none, .pick, [.t 26, .k (.c (.bool true)), .t 29]⟩] false) (.cn (.t 30) (.sq (.rg [⟨(some 0), none, .mv, [.k (.c (.bool false))]⟩] false) (.rt)) (.skip))) (.sq (.rg [⟨(some 32), none, (.bsl 1 [(.c (.int .i64 0))] [0] 1 true), [.k (.c (.int .i64 0))]⟩, ⟨(some 33), none, .mv, [.t 4]⟩, ⟨(some 34), none, (.ld (some 12)), [.t 1]⟩, ⟨(some 35), none, (.call 9 .fz), [.t 32, .t 33, .t 34]⟩, ⟨(some 31), none, .mv, [.t 35]⟩, ⟨(some 36), none, (.ext 0), [.t 31]⟩, ⟨(some 37), none, (.ext 1), [.t 31]⟩, ⟨(some 38), none, (.ext 2), [.t 31]⟩, ⟨(some 3), none, .mv, [.t 36]⟩, ⟨(some 4), none, .mv, [.t 37]⟩, ⟨(some 5), none, .mv, [.t 38]⟩] false) (.sq (.rg [⟨(some 39), none, .mv, [.t 5]⟩, ⟨(some 40), none, (.bin .eql), [.t 39, .k (.c (.int .i64 0))]⟩, ⟨(some 41), none, .mv, [.t 40]⟩, ⟨(some 42), (some (41, true)), .mv, [.t 3]⟩, ⟨(some 43), (some (41, true)), .len, [.t 42]⟩, ⟨(some 44), (some (41, true)), (.bin .eql), [.t 43, .k (.c (.int .i64 2))]⟩, ⟨(some 45), none, .pick, [.t 41, .t 44, .k (.c (.bool false))]⟩, ⟨(some 46), none, .mv, [.t 45]⟩, ⟨(some 47), (some (46, true)), .mv, [.t 4]⟩, ⟨(some 48), (some (46, true)), .len, [.t 47]⟩, ⟨(some 49), (some (46, true)), (.bin .eql), [.t 48, .k (.c (.int .i64 0))]⟩, ⟨(some 50), none, .pick, [.t 46, .t 49, .k (.c (.bool false))]⟩, ⟨(some 51), none, .mv, [.t 50]⟩, ⟨(some 52), (some (51, true)), .mv, [.t 3]⟩, ⟨(some 53), (some (51, true)), (.ia 12), [.t 52, .k (.c (.int .i64 1))]⟩, ⟨(some 54), (some (51, true)), (.fa 0), [.t 53]⟩, ⟨(some 55), (some (51, true)), (.fa 1), [.t 54]⟩, ⟨(some 56), (some (51, true)), (.ld none), [.t 55]⟩, ⟨(some 57), (some (51, true)), (.bin .eql), [.t 56, .k (.c (.int .i64 2))]⟩, ⟨(some 58), none, .pick, [.t 51, .t 57, .k (.c (.bool false))]⟩, ⟨(some 0), none, .mv, [.t 58]⟩] false) (.rt))))))
theorem cf11 : compF Try.prog 11 c11 = some ⟨c11, [.t 0], 59⟩ := by kernel_rfl

-- raddle/raddlelaw12.chain
def c12 : IC := .sq (.rg [⟨(some 6), none, .mv, [.k .z]⟩] false) (.sq (.rg [⟨(some 7), none, .mv, [.k .z]⟩] false) (.sq (.sq (.rg [⟨(some 8), none, .mv, [.k (.c (.int .i64 0))]⟩] false) (.bl 0 (.lp (.sq (.sq (.rg [⟨(some 10), none, .mv, [.t 8]⟩, ⟨(some 11), none, .mv, [.t 2]⟩, ⟨(some 12), none, (.bin .lss), [.t 10, .t 11]⟩] false) (.cn (.t 12) (.skip) (.ex 0))) (.sq (.bl 1 (.sq (.rg [⟨(some 15), none, .mv, [.t 0]⟩, ⟨(some 16), none, (.mks 1 [(.c (.int .i64 0))] false), [.t 15, .t 15]⟩, ⟨(some 9), none, .mv, [.t 16]⟩] false) (.sq (.rg [⟨(some 17), none, .mv, [.t 9]⟩, ⟨(some 18), none, .mv, [.t 1]⟩, ⟨(some 19), none, .mv, [.t 8]⟩, ⟨(some 20), none, (.ia 1), [.t 17, .t 18]⟩, ⟨none, none, (.st 1), [.t 20, .t 19]⟩] false) (.rg [⟨(some 21), none, .mv, [.t 7]⟩, ⟨(some 22), none, .mv, [.t 1]⟩, ⟨(some 23), none, .mv, [.t 8]⟩, ⟨(some 24), none, (.bin .add), [.t 23, .k (.c (.int .i64 1))]⟩, ⟨(some 25), none, (.bld [(.c (.int .i64 0)), (.c (.int .i64 0))] [(0, 1), (1, 1)]), [.t 22, .t 24]⟩, ⟨(some 26), none, .mv, [.t 9]⟩, ⟨(some 27), none, (.bld [(.c (.int .i64 0)), (.c (.int .i64 0)), .z, (.c (.int .i64 0)), (.c (.int .i64 0)), (.c (.int .i64 0)), (.c (.int .i64 0)), (.c (.int .i64 0)), (.c (.string ⟨#[]⟩)), (.c (.int .i64 0)), .z, .z] [(0, 2), (2, 1), (6, 1), (8, 1)]), [.t 25, .t 26, .k (.c (.int .i64 1)), .k (.c (.string ⟨#[107]⟩))]⟩, ⟨(some 28), none, (.bsl 12 [(.c (.int .i64 0)), (.c (.int .i64 0)), .z, (.c (.int .i64 0)), (.c (.int .i64 0)), (.c (.int .i64 0)), (.c (.int .i64 0)), (.c (.int .i64 0)), (.c (.string ⟨#[]⟩)), (.c (.int .i64 0)), .z, .z] [0] 1 true), [.t 27]⟩, ⟨(some 29), none, (.app 12), [.t 21, .t 28]⟩, ⟨(some 7), none, .mv, [.t 29]⟩] false)))) (.rg [⟨(some 13), none, .mv, [.t 8]⟩, ⟨(some 14), none, (.bin .add), [.t 13, .k (.c (.int .i64 1))]⟩, ⟨(some 8), none, .mv, [.t 14]⟩] false)))))) (.sq (.rg [⟨(some 30), none, .mv, [.t 7]⟩, ⟨(some 6), none, .mv, [.t 30]⟩] false) (.rt))))
theorem cf12 : compF Try.prog 12 c12 = some ⟨c12, [.t 6], 31⟩ := by kernel_rfl

-- raddle/raddlekeep.Ops
def c13 : IC := .sq (.rg [⟨(some 4), none, .mv, [.k (.c (.bool false))]⟩] false) (.sq (.sq (.rg [⟨(some 6), none, .mv, [.t 0]⟩, ⟨(some 7), none, .len, [.t 6]⟩, ⟨(some 8), none, .mv, [.t 1]⟩, ⟨(some 9), none, .len, [.t 8]⟩, ⟨(some 10), none, (.bin .neq), [.t 7, .t 9]⟩] false) (.cn (.t 10) (.sq (.rg [⟨(some 4), none, .mv, [.k (.c (.bool false))]⟩] false) (.rt)) (.skip))) (.sq (.sq (.rg [⟨(some 5), none, .mv, [.k (.c (.int .i64 0))]⟩] false) (.bl 0 (.lp (.sq (.sq (.rg [⟨(some 11), none, .mv, [.t 5]⟩, ⟨(some 12), none, .mv, [.t 0]⟩, ⟨(some 13), none, .len, [.t 12]⟩, ⟨(some 14), none, (.bin .lss), [.t 11, .t 13]⟩] false) (.cn (.t 14) (.skip) (.ex 0))) (.sq (.bl 1 (.sq (.rg [⟨(some 17), none, .mv, [.t 0]⟩, ⟨(some 18), none, .mv, [.t 5]⟩, ⟨(some 19), none, (.ia 12), [.t 17, .t 18]⟩, ⟨(some 20), none, (.ld (some 12)), [.t 19]⟩, ⟨(some 21), none, .mv, [.t 1]⟩, ⟨(some 22), none, .mv, [.t 5]⟩, ⟨(some 23), none, (.ia 12), [.t 21, .t 22]⟩, ⟨(some 24), none, (.ld (some 12)), [.t 23]⟩, ⟨(some 25), none, (.call 27 .fz), [.t 20, .t 24]⟩, ⟨(some 26), none, (.un .not), [.t 25]⟩] true) (.cn (.t 26) (.sq (.rg [⟨(some 4), none, .mv, [.k (.c (.bool false))]⟩] false) (.rt)) (.skip)))) (.rg [⟨(some 15), none, .mv, [.t 5]⟩, ⟨(some 16), none, (.bin .add), [.t 15, .k (.c (.int .i64 1))]⟩, ⟨(some 5), none, .mv, [.t 16]⟩] false)))))) (.sq (.rg [⟨(some 4), none, .mv, [.k (.c (.bool true))]⟩] false) (.rt))))
theorem cf13 : compF Try.prog 13 c13 = some ⟨c13, [.t 4], 27⟩ := by kernel_rfl

-- raddle/cbuf.Again
def c14 : IC := .sq (.rg [⟨(some 4), none, .mv, [.k .z]⟩, ⟨(some 5), none, .mv, [.k .z]⟩, ⟨(some 6), none, .mv, [.k (.c (.int .i64 0))]⟩] false) (.sq (.rg [⟨(some 11), none, .mv, [.t 0]⟩, ⟨(some 12), none, .mv, [.t 1]⟩, ⟨(some 13), none, (.call 18 .fz), [.t 11, .t 12]⟩, ⟨(some 6), none, .mv, [.t 13]⟩] false) (.sq (.sq (.rg [⟨(some 14), none, .mv, [.t 6]⟩, ⟨(some 15), none, (.bin .neq), [.t 14, .k (.c (.int .i64 0))]⟩] false) (.cn (.t 15) (.sq (.rg [⟨(some 16), none, .mv, [.t 6]⟩, ⟨(some 4), none, .mv, [.k .z]⟩, ⟨(some 5), none, .mv, [.k .z]⟩, ⟨(some 6), none, .mv, [.t 16]⟩] false) (.rt)) (.skip))) (.sq (.rg [⟨(some 17), none, .mv, [.t 0]⟩, ⟨(some 18), none, (.call 25 (.own 1)), [.t 17]⟩, ⟨(some 19), none, .mv, [.t 1]⟩, ⟨(some 20), none, (.call 23 (.own 12)), [.t 19]⟩, ⟨(some 7), none, (.alloc [.z]), []⟩, ⟨none, none, (.st 1), [.t 7, .t 18]⟩, ⟨(some 8), none, .mv, [.t 20]⟩] false) (.sq (.bl 0 (.lp (.bl 1 (.sq (.rg [⟨(some 21), none, .mv, [.t 8]⟩, ⟨(some 22), none, (.mkf 29), [.t 7]⟩, ⟨(some 23), none, (.call 28 .fz), [.t 21, .t 22]⟩, ⟨(some 9), none, .mv, [.t 23]⟩] false) (.sq (.sq (.rg [⟨(some 24), none, .mv, [.t 9]⟩, ⟨(some 25), none, (.bin .lss), [.t 24, .k (.c (.int .i64 0))]⟩] false) (.cn (.t 25) (.ex 0) (.skip))) (.sq (.rg [⟨(some 26), none, .mv, [.t 8]⟩, ⟨(some 27), none, .mv, [.t 9]⟩, ⟨(some 28), none, (.ia 12), [.t 26, .t 27]⟩, ⟨(some 29), none, (.ld (some 12)), [.t 28]⟩, ⟨(some 10), none, (.alloc [(.c (.int .i64 0)), (.c (.int .i64 0)), .z, (.c (.int .i64 0)), (.c (.int .i64 0)), (.c (.int .i64 0)), (.c (.int .i64 0)), (.c (.int .i64 0)), (.c (.string ⟨#[]⟩)), (.c (.int .i64 0)), .z, .z]), []⟩, ⟨none, none, (.st 12), [.t 10, .t 29]⟩] false) (.sq (.rg [⟨(some 30), none, (.ld none), [.t 7]⟩, ⟨(some 31), none, (.fa 0), [.t 10]⟩, ⟨(some 32), none, (.fa 0), [.t 31]⟩, ⟨(some 33), none, (.ld none), [.t 32]⟩, ⟨(some 34), none, (.fa 0), [.t 10]⟩, ⟨(some 35), none, (.fa 1), [.t 34]⟩, ⟨(some 36), none, (.ld none), [.t 35]⟩, ⟨(some 37), none, (.ia 1), [.t 30, .t 33]⟩, ⟨none, none, (.st 1), [.t 37, .t 36]⟩] false) (.rg [⟨(some 38), none, .mv, [.t 4]⟩, ⟨(some 39), none, (.ld (some 12)), [.t 10]⟩, ⟨(some 40), none, (.bsl 12 [(.c (.int .i64 0)), (.c (.int .i64 0)), .z, (.c (.int .i64 0)), (.c (.int .i64 0)), (.c (.int .i64 0)), (.c (.int .i64 0)), (.c (.int .i64 0)), (.c (.string ⟨#[]⟩)), (.c (.int .i64 0)), .z, .z] [0] 1 true), [.t 39]⟩, ⟨(some 41), none, (.app 12), [.t 38, .t 40]⟩, ⟨(some 42), none, .mv, [.t 8]⟩, ⟨(some 43), none, .mv, [.t 9]⟩, ⟨(some 44), none, .mv, [.t 9]⟩, ⟨(some 45), none, (.bin .add), [.t 44, .k (.c (.int .i64 1))]⟩, ⟨(some 46), none, (.rcall 30), [.t 42, .t 43, .t 45]⟩, ⟨(some 4), none, .mv, [.t 41]⟩, ⟨(some 8), none, .mv, [.t 46]⟩] false)))))))) (.sq (.rg [⟨(some 47), none, .mv, [.t 8]⟩, ⟨(some 48), none, (.mkf 32), [.t 7]⟩, ⟨(some 49), none, (.rcall 31), [.t 47, .t 48]⟩, ⟨(some 8), none, .mv, [.t 49]⟩] false) (.sq (.rg [⟨(some 50), none, .mv, [.t 4]⟩, ⟨(some 51), none, .mv, [.t 8]⟩, ⟨(some 52), none, (.call 33 .fz), [.t 51]⟩, ⟨(some 4), none, .mv, [.t 50]⟩, ⟨(some 5), none, .mv, [.t 52]⟩, ⟨(some 6), none, .mv, [.k (.c (.int .i64 0))]⟩] false) (.rt)))))))
theorem cf14 : compF Try.prog 14 c14 = some ⟨c14, [.t 4, .t 5, .t 6], 53⟩ := by kernel_rfl

-- raddle/raddlelaw04.Heavy
def c15 : IC := .sq (.rg [⟨(some 2), none, .mv, [.k (.c (.bool false))]⟩] false) (.sq (.rg [⟨(some 3), none, .mv, [.t 0]⟩, ⟨(some 4), none, .len, [.t 3]⟩, ⟨(some 5), none, (.bin .gtr), [.t 4, .k (.c (.int .i64 40))]⟩, ⟨(some 6), none, .mv, [.t 5]⟩, ⟨(some 7), (some (6, false)), .mv, [.t 0]⟩, ⟨(some 8), (some (6, false)), (.call 34 .fz), [.t 7]⟩, ⟨(some 9), none, .pick, [.t 6, .k (.c (.bool true)), .t 8]⟩, ⟨(some 2), none, .mv, [.t 9]⟩] false) (.rt))
theorem cf15 : compF Try.prog 15 c15 = some ⟨c15, [.t 2], 10⟩ := by kernel_rfl

-- raddle/raddleref01.Next
def c16 : IC := .sq (.rg [⟨(some 3), none, (.box (some 2)), [.t 1]⟩, ⟨(some 4), none, .mv, [.k (.c (.bool false))]⟩] false) (.sq (.rg [⟨(some 5), none, (.fa 0), [.t 3]⟩, ⟨(some 6), none, (.ld none), [.t 5]⟩, ⟨(some 7), none, .mv, [.t 0]⟩, ⟨(some 8), none, .len, [.t 7]⟩, ⟨(some 9), none, (.bin .sub), [.t 8, .k (.c (.int .i64 1))]⟩, ⟨(some 10), none, (.call 35 .fz), [.t 6, .k (.c (.int .i64 0)), .t 9]⟩, ⟨(some 11), none, .mv, [.t 10]⟩, ⟨(some 12), (some (11, true)), (.fa 1), [.t 3]⟩, ⟨(some 13), (some (11, true)), (.ld none), [.t 12]⟩, ⟨(some 14), (some (11, true)), .mv, [.t 0]⟩, ⟨(some 15), (some (11, true)), (.fa 0), [.t 3]⟩, ⟨(some 16), (some (11, true)), (.ld none), [.t 15]⟩, ⟨(some 17), (some (11, true)), (.ia 1), [.t 14, .t 16]⟩, ⟨(some 18), (some (11, true)), (.ld none), [.t 17]⟩, ⟨(some 19), (some (11, true)), (.bin .gtr), [.t 13, .t 18]⟩, ⟨(some 20), none, .pick, [.t 11, .t 19, .k (.c (.bool false))]⟩, ⟨(some 21), none, .mv, [.t 20]⟩, ⟨(some 22), (some (21, true)), (.fa 1), [.t 3]⟩, ⟨(some 23), (some (21, true)), (.ld none), [.t 22]⟩, ⟨(some 24), (some (21, true)), (.bin .sub), [.t 23, .k (.c (.int .i64 1))]⟩, ⟨(some 25), (some (21, true)), .mv, [.t 0]⟩, ⟨(some 26), (some (21, true)), (.fa 0), [.t 3]⟩, ⟨(some 27), (some (21, true)), (.ld none), [.t 26]⟩, ⟨(some 28), (some (21, true)), (.ia 1), [.t 25, .t 27]⟩, ⟨(some 29), (some (21, true)), (.ld none), [.t 28]⟩, ⟨(some 30), (some (21, true)), (.bin .eql), [.t 24, .t 29]⟩, ⟨(some 31), none, .pick, [.t 21, .t 30, .k (.c (.bool false))]⟩, ⟨(some 4), none, .mv, [.t 31]⟩] true) (.rt))
theorem cf16 : compF Try.prog 16 c16 = some ⟨c16, [.t 4], 32⟩ := by kernel_rfl

-- raddle/raddleref01.Le
def c17 : IC := .sq (.rg [⟨(some 4), none, .mv, [.k (.c (.bool false))]⟩] false) (.sq (.sq (.rg [⟨(some 6), none, .mv, [.t 0]⟩, ⟨(some 7), none, .len, [.t 6]⟩, ⟨(some 8), none, .mv, [.t 1]⟩, ⟨(some 9), none, .len, [.t 8]⟩, ⟨(some 10), none, (.bin .neq), [.t 7, .t 9]⟩] false) (.cn (.t 10) (.sq (.rg [⟨(some 4), none, .mv, [.k (.c (.bool false))]⟩] false) (.rt)) (.skip))) (.sq (.sq (.rg [⟨(some 5), none, .mv, [.k (.c (.int .i64 0))]⟩] false) (.bl 0 (.lp (.sq (.sq (.rg [⟨(some 11), none, .mv, [.t 5]⟩, ⟨(some 12), none, .mv, [.t 0]⟩, ⟨(some 13), none, .len, [.t 12]⟩, ⟨(some 14), none, (.bin .lss), [.t 11, .t 13]⟩] false) (.cn (.t 14) (.skip) (.ex 0))) (.sq (.bl 1 (.sq (.rg [⟨(some 17), none, .mv, [.t 0]⟩, ⟨(some 18), none, .mv, [.t 5]⟩, ⟨(some 19), none, (.ia 1), [.t 17, .t 18]⟩, ⟨(some 20), none, (.ld none), [.t 19]⟩, ⟨(some 21), none, .mv, [.t 1]⟩, ⟨(some 22), none, .mv, [.t 5]⟩, ⟨(some 23), none, (.ia 1), [.t 21, .t 22]⟩, ⟨(some 24), none, (.ld none), [.t 23]⟩, ⟨(some 25), none, (.bin .gtr), [.t 20, .t 24]⟩] true) (.cn (.t 25) (.sq (.rg [⟨(some 4), none, .mv, [.k (.c (.bool false))]⟩] false) (.rt)) (.skip)))) (.rg [⟨(some 15), none, .mv, [.t 5]⟩, ⟨(some 16), none, (.bin .add), [.t 15, .k (.c (.int .i64 1))]⟩, ⟨(some 5), none, .mv, [.t 16]⟩] false)))))) (.sq (.rg [⟨(some 4), none, .mv, [.k (.c (.bool true))]⟩] false) (.rt))))
theorem cf17 : compF Try.prog 17 c17 = some ⟨c17, [.t 4], 26⟩ := by kernel_rfl

-- raddle/cbuf.wrong
def c18 : IC := .sq (.rg [⟨(some 4), none, .mv, [.k (.c (.int .i64 0))]⟩] false) (.sq (.rg [⟨(some 6), none, .mv, [.t 0]⟩, ⟨(some 7), none, (.call 36 .fz), [.t 6]⟩, ⟨(some 5), none, .mv, [.t 7]⟩] false) (.sq (.bl 0 (.sq (.rg [⟨(some 9), none, .mv, [.t 5]⟩, ⟨(some 10), none, (.bin .neq), [.t 9, .k (.c (.int .i64 0))]⟩, ⟨(some 8), none, .mv, [.t 10]⟩] false) (.cn (.t 8) (.sq (.rg [⟨(some 11), none, .mv, [.t 5]⟩, ⟨(some 4), none, .mv, [.t 11]⟩] false) (.rt)) (.sq (.rg [⟨(some 13), none, .mv, [.t 1]⟩, ⟨(some 14), none, .len, [.t 13]⟩, ⟨(some 15), none, (.bin .gtr), [.t 14, .k (.c (.int .i64 40))]⟩, ⟨(some 12), none, .mv, [.t 15]⟩] false) (.cn (.t 12) (.sq (.rg [⟨(some 4), none, .mv, [.k (.c (.int .i64 2))]⟩] false) (.rt)) (.skip)))))) (.sq (.rg [⟨(some 4), none, .mv, [.k (.c (.int .i64 0))]⟩] false) (.rt))))
theorem cf18 : compF Try.prog 18 c18 = some ⟨c18, [.t 4], 16⟩ := by kernel_rfl

-- raddle/dot.Has
def c19 : IC := .sq (.rg [⟨(some 3), none, (.box (some 2)), [.t 1]⟩, ⟨(some 4), none, .mv, [.k (.c (.bool false))]⟩] false) (.sq (.rg [⟨(some 5), none, .mv, [.t 0]⟩, ⟨(some 6), none, (.fa 0), [.t 3]⟩, ⟨(some 7), none, (.ld none), [.t 6]⟩, ⟨(some 8), none, (.call 37 .fz), [.t 5, .t 7]⟩, ⟨(some 9), none, .mv, [.t 8]⟩, ⟨(some 10), (some (9, true)), (.fa 1), [.t 3]⟩, ⟨(some 11), (some (9, true)), (.ld none), [.t 10]⟩, ⟨(some 12), (some (9, true)), (.bin .geq), [.t 11, .k (.c (.int .i64 1))]⟩, ⟨(some 13), none, .pick, [.t 9, .t 12, .k (.c (.bool false))]⟩, ⟨(some 14), none, .mv, [.t 13]⟩, ⟨(some 15), (some (14, true)), (.fa 1), [.t 3]⟩, ⟨(some 16), (some (14, true)), (.ld none), [.t 15]⟩, ⟨(some 17), (some (14, true)), .mv, [.t 0]⟩, ⟨(some 18), (some (14, true)), (.fa 0), [.t 3]⟩, ⟨(some 19), (some (14, true)), (.ld none), [.t 18]⟩, ⟨(some 20), (some (14, true)), (.ia 1), [.t 17, .t 19]⟩, ⟨(some 21), (some (14, true)), (.ld none), [.t 20]⟩, ⟨(some 22), (some (14, true)), (.bin .leq), [.t 16, .t 21]⟩, ⟨(some 23), none, .pick, [.t 14, .t 22, .k (.c (.bool false))]⟩, ⟨(some 4), none, .mv, [.t 23]⟩] true) (.rt))
theorem cf19 : compF Try.prog 19 c19 = some ⟨c19, [.t 4], 24⟩ := by kernel_rfl

-- slices.ContainsFunc[[]raddle/api.Op,raddle/api.Op]
def c20 : IC := .sq (.rg [⟨(some 4), none, .mv, [.k (.c (.bool false))]⟩] false) (.sq (.rg [⟨(some 5), none, .mv, [.t 0]⟩, ⟨(some 6), none, .mv, [.t 1]⟩, ⟨(some 7), none, (.call 28 .fz), [.t 5, .t 6]⟩, ⟨(some 8), none, (.bin .geq), [.t 7, .k (.c (.int .i64 0))]⟩, ⟨(some 4), none, .mv, [.t 8]⟩] false) (.rt))
theorem cf20 : compF Try.prog 20 c20 = some ⟨c20, [.t 4], 9⟩ := by kernel_rfl

-- raddle/cbuf.Offer$1
def c21 : IC := .sq (.rg [⟨(some 2), none, (.box (some 12)), [.t 0]⟩, ⟨(some 3), none, .mv, [.k (.c (.bool false))]⟩] false) (.sq (.rg [⟨(some 4), none, (.fa 0), [.t 2]⟩, ⟨(some 5), none, (.ld (some 2)), [.t 4]⟩, ⟨(some 6), none, (.fa 0), [.t 1]⟩, ⟨(some 7), none, (.ld (some 2)), [.t 6]⟩, ⟨(some 8), none, (.eqs false [0, 0]), [.t 5, .t 7]⟩, ⟨(some 3), none, .mv, [.t 8]⟩] false) (.rt))
theorem cf21 : compF Try.prog 21 c21 = some ⟨c21, [.t 3], 9⟩ := by kernel_rfl

-- raddle/cbuf.Can
def c22 : IC := .sq (.rg [⟨(some 3), none, (.box (some 12)), [.t 1]⟩, ⟨(some 4), none, .mv, [.k (.c (.bool false))]⟩] false) (.sq (.rg [⟨(some 5), none, .mv, [.t 0]⟩, ⟨(some 6), none, (.fa 0), [.t 3]⟩, ⟨(some 7), none, (.ld (some 2)), [.t 6]⟩, ⟨(some 8), none, (.call 38 .fz), [.t 5, .t 7]⟩, ⟨(some 9), none, .mv, [.t 8]⟩, ⟨(some 10), (some (9, true)), (.fa 2), [.t 3]⟩, ⟨(some 11), (some (9, true)), (.ld none), [.t 10]⟩, ⟨(some 12), (some (9, true)), .mv, [.t 0]⟩, ⟨(some 13), (some (9, true)), (.call 39 .fz), [.t 11, .t 12]⟩, ⟨(some 14), none, .pick, [.t 9, .t 13, .k (.c (.bool false))]⟩, ⟨(some 4), none, .mv, [.t 14]⟩] false) (.rt))
theorem cf22 : compF Try.prog 22 c22 = some ⟨c22, [.t 4], 15⟩ := by kernel_rfl

-- raddle/op.Twins
def c23 : IC := .sq (.rg [⟨(some 2), none, .mv, [.k .z]⟩] false) (.sq (.rg [⟨(some 3), none, .mv, [.k .z]⟩] false) (.sq (.sq (.rg [⟨(some 6), none, .mv, [.t 0]⟩, ⟨(some 7), none, .len, [.t 6]⟩, ⟨(some 8), none, .mv, [.k (.c (.int .i64 0))]⟩] false) (.bl 0 (.lp (.sq (.rg [⟨(some 9), none, (.bin .lss), [.t 8, .t 7]⟩] false) (.sq (.cn (.t 9) (.skip) (.ex 0)) (.sq (.bl 1 (.sq (.rg [⟨(some 10), none, (.ia 12), [.t 6, .t 8]⟩, ⟨(some 11), none, (.ld (some 12)), [.t 10]⟩, ⟨(some 5), none, (.alloc [(.c (.int .i64 0)), (.c (.int .i64 0)), .z, (.c (.int .i64 0)), (.c (.int .i64 0)), (.c (.int .i64 0)), (.c (.int .i64 0)), (.c (.int .i64 0)), (.c (.string ⟨#[]⟩)), (.c (.int .i64 0)), .z, .z]), []⟩, ⟨none, none, (.st 12), [.t 5, .t 11]⟩] false) (.rg [⟨(some 12), none, .mv, [.t 3]⟩, ⟨(some 13), none, (.ld (some 12)), [.t 5]⟩, ⟨(some 14), none, (.call 24 .fz), [.t 13]⟩, ⟨(some 15), none, (.bsl 12 [(.c (.int .i64 0)), (.c (.int .i64 0)), .z, (.c (.int .i64 0)), (.c (.int .i64 0)), (.c (.int .i64 0)), (.c (.int .i64 0)), (.c (.int .i64 0)), (.c (.string ⟨#[]⟩)), (.c (.int .i64 0)), .z, .z] [0] 1 true), [.t 14]⟩, ⟨(some 16), none, (.app 12), [.t 12, .t 15]⟩, ⟨(some 3), none, .mv, [.t 16]⟩] false))) (.rg [⟨(some 17), none, (.bin .add), [.t 8, .k (.c (.int .i64 1))]⟩, ⟨(some 8), none, .mv, [.t 17]⟩] false))))))) (.sq (.rg [⟨(some 18), none, .mv, [.t 3]⟩, ⟨(some 2), none, .mv, [.t 18]⟩] false) (.rt))))
theorem cf23 : compF Try.prog 23 c23 = some ⟨c23, [.t 2], 19⟩ := by kernel_rfl

-- raddle/op.Twin
def c24 : IC := .sq (.rg [⟨(some 1), none, (.box (some 12)), [.t 0]⟩, ⟨(some 2), none, (.alloc [(.c (.int .i64 0)), (.c (.int .i64 0)), .z, (.c (.int .i64 0)), (.c (.int .i64 0)), (.c (.int .i64 0)), (.c (.int .i64 0)), (.c (.int .i64 0)), (.c (.string ⟨#[]⟩)), (.c (.int .i64 0)), .z, .z]), []⟩] false) (.sq (.rg [⟨(some 3), none, (.fa 2), [.t 1]⟩, ⟨(some 4), none, (.ld none), [.t 3]⟩, ⟨(some 5), none, (.call 25 .fz), [.t 4]⟩, ⟨(some 6), none, (.fa 10), [.t 1]⟩, ⟨(some 7), none, (.ld none), [.t 6]⟩, ⟨(some 8), none, (.call 40 .fz), [.t 7]⟩, ⟨(some 9), none, (.fa 11), [.t 1]⟩, ⟨(some 10), none, (.ld none), [.t 9]⟩, ⟨(some 11), none, (.call 41 .fz), [.t 10]⟩, ⟨(some 12), none, (.fa 2), [.t 1]⟩, ⟨none, none, (.st 1), [.t 12, .t 5]⟩, ⟨(some 13), none, (.fa 10), [.t 1]⟩, ⟨none, none, (.st 1), [.t 13, .t 8]⟩, ⟨(some 14), none, (.fa 11), [.t 1]⟩, ⟨none, none, (.st 1), [.t 14, .t 11]⟩] true) (.sq (.rg [⟨(some 15), none, (.ld (some 12)), [.t 1]⟩, ⟨none, none, (.st 12), [.t 2, .t 15]⟩] false) (.rt)))
theorem cf24 : compF Try.prog 24 c24 = some ⟨c24, [.c 2 (some 12)], 16⟩ := by kernel_rfl

-- slices.Clone[[]int,int]
def c25 : IC := .sq (.rg [⟨(some 2), none, .mv, [.k .z]⟩] false) (.sq (.sq (.rg [⟨(some 3), none, .mv, [.t 0]⟩, ⟨(some 4), none, (.nilq 0 false), [.t 3]⟩] false) (.cn (.t 4) (.sq (.rg [⟨(some 2), none, .mv, [.k .z]⟩] false) (.rt)) (.skip))) (.sq (.rg [⟨(some 5), none, (.bsl 1 [(.c (.int .i64 0))] [] 0 true), []⟩, ⟨(some 6), none, .mv, [.t 0]⟩, ⟨(some 7), none, (.app 1), [.t 5, .t 6]⟩, ⟨(some 2), none, .mv, [.t 7]⟩] false) (.rt)))
theorem cf25 : compF Try.prog 25 c25 = some ⟨c25, [.t 2], 8⟩ := by kernel_rfl

-- slices.Insert[[]raddle/api.Op,raddle/api.Op]
def c26 : IC := .sq (.rg [⟨(some 6), none, .mv, [.k .z]⟩] false) (.sq (.rg [⟨(some 10), none, .mv, [.t 0]⟩, ⟨(some 11), none, .mv, [.t 1]⟩, ⟨(some 12), none, (.slc 12 true false), [.t 10, .t 11]⟩] false) (.sq (.rg [⟨(some 13), none, .mv, [.t 2]⟩, ⟨(some 14), none, .len, [.t 13]⟩, ⟨(some 7), none, .mv, [.t 14]⟩] false) (.sq (.sq (.rg [⟨(some 15), none, .mv, [.t 7]⟩, ⟨(some 16), none, (.bin .eql), [.t 15, .k (.c (.int .i64 0))]⟩] false) (.cn (.t 16) (.sq (.rg [⟨(some 17), none, .mv, [.t 0]⟩, ⟨(some 6), none, .mv, [.t 17]⟩] false) (.rt)) (.skip))) (.sq (.rg [⟨(some 18), none, .mv, [.t 0]⟩, ⟨(some 19), none, .len, [.t 18]⟩, ⟨(some 8), none, .mv, [.t 19]⟩] false) (.sq (.sq (.rg [⟨(some 20), none, .mv, [.t 1]⟩, ⟨(some 21), none, .mv, [.t 8]⟩, ⟨(some 22), none, (.bin .eql), [.t 20, .t 21]⟩] false) (.cn (.t 22) (.sq (.rg [⟨(some 23), none, .mv, [.t 0]⟩, ⟨(some 24), none, .mv, [.t 2]⟩, ⟨(some 25), none, (.app 12), [.t 23, .t 24]⟩, ⟨(some 6), none, .mv, [.t 25]⟩] false) (.rt)) (.skip))) (.sq (.sq (.rg [⟨(some 26), none, .mv, [.t 8]⟩, ⟨(some 27), none, .mv, [.t 7]⟩, ⟨(some 28), none, (.bin .add), [.t 26, .t 27]⟩, ⟨(some 29), none, .mv, [.t 0]⟩, ⟨(some 30), none, .capo, [.t 29]⟩, ⟨(some 31), none, (.bin .gtr), [.t 28, .t 30]⟩] false) (.cn (.t 31) (.sq (.rg [⟨(some 32), none, .mv, [.t 0]⟩, ⟨(some 33), none, .mv, [.t 1]⟩, ⟨(some 34), none, (.slc 12 false true), [.t 32, .t 33]⟩, ⟨(some 35), none, .mv, [.t 8]⟩, ⟨(some 36), none, .mv, [.t 7]⟩, ⟨(some 37), none, (.bin .add), [.t 35, .t 36]⟩, ⟨(some 38), none, .mv, [.t 1]⟩, ⟨(some 39), none, (.bin .sub), [.t 37, .t 38]⟩, ⟨(some 40), none, (.appz 12 [(.c (.int .i64 0)), (.c (.int .i64 0)), .z, (.c (.int .i64 0)), (.c (.int .i64 0)), (.c (.int .i64 0)), (.c (.int .i64 0)), (.c (.int .i64 0)), (.c (.string ⟨#[]⟩)), (.c (.int .i64 0)), .z, .z]), [.t 34, .t 39]⟩, ⟨(some 9), none, .mv, [.t 40]⟩] false) (.sq (.rg [⟨(some 41), none, .mv, [.t 9]⟩, ⟨(some 42), none, .mv, [.t 1]⟩, ⟨(some 43), none, (.slc 12 true false), [.t 41, .t 42]⟩, ⟨(some 44), none, .mv, [.t 2]⟩, ⟨(some 45), none, (.cpy 12), [.t 43, .t 44]⟩] false) (.sq (.rg [⟨(some 46), none, .mv, [.t 9]⟩, ⟨(some 47), none, .mv, [.t 1]⟩, ⟨(some 48), none, .mv, [.t 7]⟩, ⟨(some 49), none, (.bin .add), [.t 47, .t 48]⟩, ⟨(some 50), none, (.slc 12 true false), [.t 46, .t 49]⟩, ⟨(some 51), none, .mv, [.t 0]⟩, ⟨(some 52), none, .mv, [.t 1]⟩, ⟨(some 53), none, (.slc 12 true false), [.t 51, .t 52]⟩, ⟨(some 54), none, (.cpy 12), [.t 50, .t 53]⟩] true) (.sq (.rg [⟨(some 55), none, .mv, [.t 9]⟩, ⟨(some 6), none, .mv, [.t 55]⟩] false) (.rt))))) (.skip))) (.sq (.rg [⟨(some 56), none, .mv, [.t 0]⟩, ⟨(some 57), none, .mv, [.t 8]⟩, ⟨(some 58), none, .mv, [.t 7]⟩, ⟨(some 59), none, (.bin .add), [.t 57, .t 58]⟩, ⟨(some 60), none, (.slc 12 false true), [.t 56, .t 59]⟩, ⟨(some 0), none, .mv, [.t 60]⟩] false) (.sq (.sq (.rg [⟨(some 61), none, .mv, [.t 2]⟩, ⟨(some 62), none, .mv, [.t 0]⟩, ⟨(some 63), none, .mv, [.t 1]⟩, ⟨(some 64), none, .mv, [.t 7]⟩, ⟨(some 65), none, (.bin .add), [.t 63, .t 64]⟩, ⟨(some 66), none, (.slc 12 true false), [.t 62, .t 65]⟩, ⟨(some 67), none, (.rcall 42), [.t 61, .t 66]⟩, ⟨(some 68), none, (.un .not), [.t 67]⟩] false) (.cn (.t 68) (.sq (.rg [⟨(some 69), none, .mv, [.t 0]⟩, ⟨(some 70), none, .mv, [.t 1]⟩, ⟨(some 71), none, .mv, [.t 7]⟩, ⟨(some 72), none, (.bin .add), [.t 70, .t 71]⟩, ⟨(some 73), none, (.slc 12 true false), [.t 69, .t 72]⟩, ⟨(some 74), none, .mv, [.t 0]⟩, ⟨(some 75), none, .mv, [.t 1]⟩, ⟨(some 76), none, (.slc 12 true false), [.t 74, .t 75]⟩, ⟨(some 77), none, (.cpy 12), [.t 73, .t 76]⟩] true) (.sq (.rg [⟨(some 78), none, .mv, [.t 0]⟩, ⟨(some 79), none, .mv, [.t 1]⟩, ⟨(some 80), none, (.slc 12 true false), [.t 78, .t 79]⟩, ⟨(some 81), none, .mv, [.t 2]⟩, ⟨(some 82), none, (.cpy 12), [.t 80, .t 81]⟩] false) (.sq (.rg [⟨(some 83), none, .mv, [.t 0]⟩, ⟨(some 6), none, .mv, [.t 83]⟩] false) (.rt)))) (.skip))) (.sq (.rg [⟨(some 84), none, .mv, [.t 0]⟩, ⟨(some 85), none, .mv, [.t 8]⟩, ⟨(some 86), none, (.slc 12 true false), [.t 84, .t 85]⟩, ⟨(some 87), none, .mv, [.t 2]⟩, ⟨(some 88), none, (.cpy 12), [.t 86, .t 87]⟩] false) (.sq (.rg [⟨(some 89), none, .mv, [.t 0]⟩, ⟨(some 90), none, .mv, [.t 1]⟩, ⟨(some 91), none, (.slc 12 true false), [.t 89, .t 90]⟩, ⟨(some 92), none, .mv, [.t 7]⟩, ⟨(some 93), none, (.call 43 .fz), [.t 91, .t 92]⟩] false) (.sq (.rg [⟨(some 94), none, .mv, [.t 0]⟩, ⟨(some 6), none, .mv, [.t 94]⟩] false) (.rt))))))))))))
theorem cf26 : compF Try.prog 26 c26 = some ⟨c26, [.t 6], 95⟩ := by kernel_rfl

-- raddle/raddlekeep.Op
def c27 : IC := .sq (.rg [⟨(some 2), none, (.box (some 12)), [.t 0]⟩, ⟨(some 3), none, (.box (some 12)), [.t 1]⟩, ⟨(some 4), none, .mv, [.k (.c (.bool false))]⟩] false) (.sq (.rg [⟨(some 5), none, (.fa 0), [.t 2]⟩, ⟨(some 6), none, (.ld (some 2)), [.t 5]⟩, ⟨(some 7), none, (.fa 0), [.t 3]⟩, ⟨(some 8), none, (.ld (some 2)), [.t 7]⟩, ⟨(some 9), none, (.call 44 .fz), [.t 6, .t 8]⟩, ⟨(some 10), none, .mv, [.t 9]⟩, ⟨(some 11), (some (10, true)), (.fa 2), [.t 2]⟩, ⟨(some 12), (some (10, true)), (.ld none), [.t 11]⟩, ⟨(some 13), (some (10, true)), (.fa 2), [.t 3]⟩, ⟨(some 14), (some (10, true)), (.ld none), [.t 13]⟩, ⟨(some 15), (some (10, true)), (.call 10 .fz), [.t 12, .t 14]⟩, ⟨(some 16), none, .pick, [.t 10, .t 15, .k (.c (.bool false))]⟩, ⟨(some 17), none, .mv, [.t 16]⟩, ⟨(some 18), (some (17, true)), (.fa 3), [.t 2]⟩, ⟨(some 19), (some (17, true)), (.ld (some 3)), [.t 18]⟩, ⟨(some 20), (some (17, true)), (.fa 3), [.t 3]⟩, ⟨(some 21), (some (17, true)), (.ld (some 3)), [.t 20]⟩, ⟨(some 22), (some (17, true)), (.call 45 .fz), [.t 19, .t 21]⟩, ⟨(some 23), none, .pick, [.t 17, .t 22, .k (.c (.bool false))]⟩, ⟨(some 24), none, .mv, [.t 23]⟩, ⟨(some 25), (some (24, true)), (.fa 6), [.t 2]⟩, ⟨(some 26), (some (24, true)), (.ld none), [.t 25]⟩, ⟨(some 27), (some (24, true)), (.fa 6), [.t 3]⟩, ⟨(some 28), (some (24, true)), (.ld none), [.t 27]⟩, ⟨(some 29), (some (24, true)), (.bin .eql), [.t 26, .t 28]⟩, ⟨(some 30), none, .pick, [.t 24, .t 29, .k (.c (.bool false))]⟩, ⟨(some 31), none, .mv, [.t 30]⟩, ⟨(some 32), (some (31, true)), (.fa 7), [.t 2]⟩, ⟨(some 33), (some (31, true)), (.ld none), [.t 32]⟩, ⟨(some 34), (some (31, true)), (.fa 7), [.t 3]⟩, ⟨(some 35), (some (31, true)), (.ld none), [.t 34]⟩, ⟨(some 36), (some (31, true)), (.bin .eql), [.t 33, .t 35]⟩, ⟨(some 37), none, .pick, [.t 31, .t 36, .k (.c (.bool false))]⟩, ⟨(some 38), none, .mv, [.t 37]⟩, ⟨(some 39), (some (38, true)), (.fa 8), [.t 2]⟩, ⟨(some 40), (some (38, true)), (.ld none), [.t 39]⟩, ⟨(some 41), (some (38, true)), (.fa 8), [.t 3]⟩, ⟨(some 42), (some (38, true)), (.ld none), [.t 41]⟩, ⟨(some 43), (some (38, true)), (.bin .eql), [.t 40, .t 42]⟩, ⟨(some 44), none, .pick, [.t 38, .t 43, .k (.c (.bool false))]⟩, ⟨(some 45), none, .mv, [.t 44]⟩, ⟨(some 46), (some (45, true)), (.fa 9), [.t 2]⟩, ⟨(some 47), (some (45, true)), (.ld none), [.t 46]⟩, ⟨(some 48), (some (45, true)), (.fa 9), [.t 3]⟩, ⟨(some 49), (some (45, true)), (.ld none), [.t 48]⟩, ⟨(some 50), (some (45, true)), (.bin .eql), [.t 47, .t 49]⟩, ⟨(some 51), none, .pick, [.t 45, .t 50, .k (.c (.bool false))]⟩, ⟨(some 52), none, .mv, [.t 51]⟩, ⟨(some 53), (some (52, true)), (.fa 10), [.t 2]⟩, ⟨(some 54), (some (52, true)), (.ld none), [.t 53]⟩, ⟨(some 55), (some (52, true)), (.fa 10), [.t 3]⟩, ⟨(some 56), (some (52, true)), (.ld none), [.t 55]⟩, ⟨(some 57), (some (52, true)), (.call 46 .fz), [.t 54, .t 56]⟩, ⟨(some 58), none, .pick, [.t 52, .t 57, .k (.c (.bool false))]⟩, ⟨(some 59), none, .mv, [.t 58]⟩, ⟨(some 60), (some (59, true)), (.fa 11), [.t 2]⟩, ⟨(some 61), (some (59, true)), (.ld none), [.t 60]⟩, ⟨(some 62), (some (59, true)), (.fa 11), [.t 3]⟩, ⟨(some 63), (some (59, true)), (.ld none), [.t 62]⟩, ⟨(some 64), (some (59, true)), (.call 47 .fz), [.t 61, .t 63]⟩, ⟨(some 65), none, .pick, [.t 59, .t 64, .k (.c (.bool false))]⟩, ⟨(some 4), none, .mv, [.t 65]⟩] false) (.rt))
theorem cf27 : compF Try.prog 27 c27 = some ⟨c27, [.t 4], 66⟩ := by kernel_rfl

-- slices.IndexFunc[[]raddle/api.Op,raddle/api.Op]
def c28 : IC := .sq (.rg [⟨(some 4), none, .mv, [.k (.c (.int .i64 0))]⟩] false) (.sq (.sq (.rg [⟨(some 6), none, .mv, [.t 0]⟩, ⟨(some 7), none, .len, [.t 6]⟩, ⟨(some 8), none, .mv, [.k (.c (.int .i64 0))]⟩] false) (.bl 0 (.lp (.sq (.rg [⟨(some 9), none, (.bin .lss), [.t 8, .t 7]⟩] false) (.sq (.cn (.t 9) (.skip) (.ex 0)) (.sq (.bl 1 (.sq (.rg [⟨(some 10), none, .mv, [.t 8]⟩, ⟨(some 5), none, .mv, [.t 10]⟩] false) (.sq (.rg [⟨(some 11), none, .mv, [.t 1]⟩, ⟨(some 12), none, .mv, [.t 0]⟩, ⟨(some 13), none, .mv, [.t 5]⟩, ⟨(some 14), none, (.ia 12), [.t 12, .t 13]⟩, ⟨(some 15), none, (.ld (some 12)), [.t 14]⟩, ⟨(some 16), none, (.callv .fz), [.t 11, .t 15]⟩] false) (.cn (.t 16) (.sq (.rg [⟨(some 17), none, .mv, [.t 5]⟩, ⟨(some 4), none, .mv, [.t 17]⟩] false) (.rt)) (.skip))))) (.rg [⟨(some 18), none, (.bin .add), [.t 8, .k (.c (.int .i64 1))]⟩, ⟨(some 8), none, .mv, [.t 18]⟩] false))))))) (.sq (.rg [⟨(some 4), none, .mv, [.k (.c (.int .i64 (-1)))]⟩] false) (.rt)))
theorem cf28 : compF Try.prog 28 c28 = some ⟨c28, [.t 4], 19⟩ := by kernel_rfl

-- raddle/cbuf.Again$1
def c29 : IC := .sq (.rg [⟨(some 2), none, (.box (some 12)), [.t 0]⟩, ⟨(some 3), none, .mv, [.k (.c (.bool false))]⟩] false) (.sq (.rg [⟨(some 4), none, (.ld none), [.t 1]⟩, ⟨(some 5), none, (.ld (some 12)), [.t 2]⟩, ⟨(some 6), none, (.call 22 .fz), [.t 4, .t 5]⟩, ⟨(some 3), none, .mv, [.t 6]⟩] false) (.rt))
theorem cf29 : compF Try.prog 29 c29 = some ⟨c29, [.t 3], 7⟩ := by kernel_rfl

-- slices.Delete[[]raddle/api.Op,raddle/api.Op]
def c30 : IC := .sq (.rg [⟨(some 6), none, .mv, [.k .z]⟩] false) (.sq (.rg [⟨(some 8), none, .mv, [.t 0]⟩, ⟨(some 9), none, .mv, [.t 1]⟩, ⟨(some 10), none, .mv, [.t 2]⟩, ⟨(some 11), none, .mv, [.t 0]⟩, ⟨(some 12), none, .len, [.t 11]⟩, ⟨(some 13), none, .slc3, [.t 8, .t 9, .t 10, .t 12]⟩] false) (.sq (.sq (.rg [⟨(some 14), none, .mv, [.t 1]⟩, ⟨(some 15), none, .mv, [.t 2]⟩, ⟨(some 16), none, (.bin .eql), [.t 14, .t 15]⟩] false) (.cn (.t 16) (.sq (.rg [⟨(some 17), none, .mv, [.t 0]⟩, ⟨(some 6), none, .mv, [.t 17]⟩] false) (.rt)) (.skip))) (.sq (.rg [⟨(some 18), none, .mv, [.t 0]⟩, ⟨(some 19), none, .len, [.t 18]⟩, ⟨(some 7), none, .mv, [.t 19]⟩] false) (.sq (.rg [⟨(some 20), none, .mv, [.t 0]⟩, ⟨(some 21), none, .mv, [.t 1]⟩, ⟨(some 22), none, (.slc 12 false true), [.t 20, .t 21]⟩, ⟨(some 23), none, .mv, [.t 0]⟩, ⟨(some 24), none, .mv, [.t 2]⟩, ⟨(some 25), none, (.slc 12 true false), [.t 23, .t 24]⟩, ⟨(some 26), none, (.app 12), [.t 22, .t 25]⟩, ⟨(some 0), none, .mv, [.t 26]⟩] true) (.sq (.rg [⟨(some 27), none, .mv, [.t 0]⟩, ⟨(some 28), none, .mv, [.t 0]⟩, ⟨(some 29), none, .len, [.t 28]⟩, ⟨(some 30), none, .mv, [.t 7]⟩, ⟨(some 31), none, (.slc 12 true true), [.t 27, .t 29, .t 30]⟩, ⟨none, none, (.clr 12 [(.c (.int .i64 0)), (.c (.int .i64 0)), .z, (.c (.int .i64 0)), (.c (.int .i64 0)), (.c (.int .i64 0)), (.c (.int .i64 0)), (.c (.int .i64 0)), (.c (.string ⟨#[]⟩)), (.c (.int .i64 0)), .z, .z]), [.t 31]⟩] false) (.sq (.rg [⟨(some 32), none, .mv, [.t 0]⟩, ⟨(some 6), none, .mv, [.t 32]⟩] false) (.rt)))))))
theorem cf30 : compF Try.prog 30 c30 = some ⟨c30, [.t 6], 33⟩ := by kernel_rfl

-- slices.DeleteFunc[[]raddle/api.Op,raddle/api.Op]
def c31 : IC := .sq (.rg [⟨(some 4), none, .mv, [.k .z]⟩] false) (.sq (.rg [⟨(some 8), none, .mv, [.t 0]⟩, ⟨(some 9), none, .mv, [.t 1]⟩, ⟨(some 10), none, (.call 28 .fz), [.t 8, .t 9]⟩, ⟨(some 5), none, .mv, [.t 10]⟩] false) (.sq (.sq (.rg [⟨(some 11), none, .mv, [.t 5]⟩, ⟨(some 12), none, (.bin .eql), [.t 11, .k (.c (.int .i64 (-1)))]⟩] false) (.cn (.t 12) (.sq (.rg [⟨(some 13), none, .mv, [.t 0]⟩, ⟨(some 4), none, .mv, [.t 13]⟩] false) (.rt)) (.skip))) (.sq (.sq (.rg [⟨(some 14), none, .mv, [.t 5]⟩, ⟨(some 15), none, (.bin .add), [.t 14, .k (.c (.int .i64 1))]⟩, ⟨(some 6), none, .mv, [.t 15]⟩] false) (.bl 0 (.lp (.sq (.sq (.rg [⟨(some 16), none, .mv, [.t 6]⟩, ⟨(some 17), none, .mv, [.t 0]⟩, ⟨(some 18), none, .len, [.t 17]⟩, ⟨(some 19), none, (.bin .lss), [.t 16, .t 18]⟩] false) (.cn (.t 19) (.skip) (.ex 0))) (.sq (.bl 1 (.sq (.rg [⟨(some 22), none, .mv, [.t 0]⟩, ⟨(some 23), none, .mv, [.t 6]⟩, ⟨(some 24), none, (.ia 12), [.t 22, .t 23]⟩, ⟨(some 25), none, (.ld (some 12)), [.t 24]⟩, ⟨(some 7), none, (.alloc [(.c (.int .i64 0)), (.c (.int .i64 0)), .z, (.c (.int .i64 0)), (.c (.int .i64 0)), (.c (.int .i64 0)), (.c (.int .i64 0)), (.c (.int .i64 0)), (.c (.string ⟨#[]⟩)), (.c (.int .i64 0)), .z, .z]), []⟩, ⟨none, none, (.st 12), [.t 7, .t 25]⟩] false) (.sq (.rg [⟨(some 26), none, .mv, [.t 1]⟩, ⟨(some 27), none, (.ld (some 12)), [.t 7]⟩, ⟨(some 28), none, (.callv .fz), [.t 26, .t 27]⟩, ⟨(some 29), none, (.un .not), [.t 28]⟩] false) (.cn (.t 29) (.sq (.rg [⟨(some 30), none, .mv, [.t 0]⟩, ⟨(some 31), none, .mv, [.t 5]⟩, ⟨(some 32), none, (.ld (some 12)), [.t 7]⟩, ⟨(some 33), none, (.ia 12), [.t 30, .t 31]⟩, ⟨none, none, (.st 12), [.t 33, .t 32]⟩] false) (.rg [⟨(some 34), none, .mv, [.t 5]⟩, ⟨(some 35), none, (.bin .add), [.t 34, .k (.c (.int .i64 1))]⟩, ⟨(some 5), none, .mv, [.t 35]⟩] false)) (.skip))))) (.rg [⟨(some 20), none, .mv, [.t 6]⟩, ⟨(some 21), none, (.bin .add), [.t 20, .k (.c (.int .i64 1))]⟩, ⟨(some 6), none, .mv, [.t 21]⟩] false)))))) (.sq (.rg [⟨(some 36), none, .mv, [.t 0]⟩, ⟨(some 37), none, .mv, [.t 5]⟩, ⟨(some 38), none, (.slc 12 true false), [.t 36, .t 37]⟩, ⟨none, none, (.clr 12 [(.c (.int .i64 0)), (.c (.int .i64 0)), .z, (.c (.int .i64 0)), (.c (.int .i64 0)), (.c (.int .i64 0)), (.c (.int .i64 0)), (.c (.int .i64 0)), (.c (.string ⟨#[]⟩)), (.c (.int .i64 0)), .z, .z]), [.t 38]⟩] false) (.sq (.rg [⟨(some 39), none, .mv, [.t 0]⟩, ⟨(some 40), none, .mv, [.t 5]⟩, ⟨(some 41), none, (.slc 12 false true), [.t 39, .t 40]⟩, ⟨(some 4), none, .mv, [.t 41]⟩] false) (.rt))))))
theorem cf31 : compF Try.prog 31 c31 = some ⟨c31, [.t 4], 42⟩ := by kernel_rfl

-- raddle/cbuf.Again$2
def c32 : IC := .sq (.rg [⟨(some 2), none, (.box (some 12)), [.t 0]⟩, ⟨(some 3), none, .mv, [.k (.c (.bool false))]⟩] false) (.sq (.rg [⟨(some 4), none, (.ld none), [.t 1]⟩, ⟨(some 5), none, (.fa 0), [.t 2]⟩, ⟨(some 6), none, (.ld (some 2)), [.t 5]⟩, ⟨(some 7), none, (.call 19 .fz), [.t 4, .t 6]⟩, ⟨(some 3), none, .mv, [.t 7]⟩] false) (.rt))
theorem cf32 : compF Try.prog 32 c32 = some ⟨c32, [.t 3], 8⟩ := by kernel_rfl

-- slices.Clone[[]raddle/api.Op,raddle/api.Op]
def c33 : IC := .sq (.rg [⟨(some 2), none, .mv, [.k .z]⟩] false) (.sq (.sq (.rg [⟨(some 3), none, .mv, [.t 0]⟩, ⟨(some 4), none, (.nilq 0 false), [.t 3]⟩] false) (.cn (.t 4) (.sq (.rg [⟨(some 2), none, .mv, [.k .z]⟩] false) (.rt)) (.skip))) (.sq (.rg [⟨(some 5), none, (.bsl 12 [(.c (.int .i64 0)), (.c (.int .i64 0)), .z, (.c (.int .i64 0)), (.c (.int .i64 0)), (.c (.int .i64 0)), (.c (.int .i64 0)), (.c (.int .i64 0)), (.c (.string ⟨#[]⟩)), (.c (.int .i64 0)), .z, .z] [] 0 true), []⟩, ⟨(some 6), none, .mv, [.t 0]⟩, ⟨(some 7), none, (.app 12), [.t 5, .t 6]⟩, ⟨(some 2), none, .mv, [.t 7]⟩] false) (.rt)))
theorem cf33 : compF Try.prog 33 c33 = some ⟨c33, [.t 2], 8⟩ := by kernel_rfl

-- raddle/raddlelaw03.Long
def c34 : IC := .sq (.rg [⟨(some 2), none, .mv, [.k (.c (.bool false))]⟩] false) (.sq (.sq (.rg [⟨(some 3), none, .mv, [.k (.c (.int .i64 0))]⟩] false) (.bl 0 (.lp (.sq (.sq (.rg [⟨(some 4), none, .mv, [.t 3]⟩, ⟨(some 5), none, .mv, [.t 0]⟩, ⟨(some 6), none, .len, [.t 5]⟩, ⟨(some 7), none, (.bin .lss), [.t 4, .t 6]⟩] false) (.cn (.t 7) (.skip) (.ex 0))) (.sq (.bl 1 (.sq (.rg [⟨(some 10), none, .mv, [.t 0]⟩, ⟨(some 11), none, .mv, [.t 3]⟩, ⟨(some 12), none, (.ia 3), [.t 10, .t 11]⟩, ⟨(some 13), none, (.fa 2), [.t 12]⟩, ⟨(some 14), none, (.ld none), [.t 13]⟩, ⟨(some 15), none, .slen, [.t 14]⟩, ⟨(some 16), none, (.bin .gtr), [.t 15, .k (.c (.int .i64 300))]⟩] false) (.cn (.t 16) (.sq (.rg [⟨(some 2), none, .mv, [.k (.c (.bool true))]⟩] false) (.rt)) (.skip)))) (.rg [⟨(some 8), none, .mv, [.t 3]⟩, ⟨(some 9), none, (.bin .add), [.t 8, .k (.c (.int .i64 1))]⟩, ⟨(some 3), none, .mv, [.t 9]⟩] false)))))) (.sq (.rg [⟨(some 2), none, .mv, [.k (.c (.bool false))]⟩] false) (.rt)))
theorem cf34 : compF Try.prog 34 c34 = some ⟨c34, [.t 2], 17⟩ := by kernel_rfl

-- raddle/raddleref01.in
def c35 : IC := .sq (.rg [⟨(some 6), none, .mv, [.k (.c (.bool false))]⟩] false) (.sq (.rg [⟨(some 7), none, .mv, [.t 0]⟩, ⟨(some 8), none, .mv, [.t 1]⟩, ⟨(some 9), none, (.bin .geq), [.t 7, .t 8]⟩, ⟨(some 10), none, .mv, [.t 9]⟩, ⟨(some 11), (some (10, true)), .mv, [.t 0]⟩, ⟨(some 12), (some (10, true)), .mv, [.t 2]⟩, ⟨(some 13), (some (10, true)), (.bin .leq), [.t 11, .t 12]⟩, ⟨(some 14), none, .pick, [.t 10, .t 13, .k (.c (.bool false))]⟩, ⟨(some 6), none, .mv, [.t 14]⟩] false) (.rt))
theorem cf35 : compF Try.prog 35 c35 = some ⟨c35, [.t 6], 15⟩ := by kernel_rfl

-- raddle/dot.Check
def c36 : IC := .sq (.rg [⟨(some 2), none, .mv, [.k (.c (.int .i64 0))]⟩] false) (.sq (.bl 0 (.sq (.rg [⟨(some 4), none, .mv, [.t 0]⟩, ⟨(some 5), none, .len, [.t 4]⟩, ⟨(some 6), none, (.bin .lss), [.t 5, .k (.c (.int .i64 1))]⟩, ⟨(some 7), none, .mv, [.t 6]⟩, ⟨(some 8), (some (7, false)), .mv, [.t 0]⟩, ⟨(some 9), (some (7, false)), .len, [.t 8]⟩, ⟨(some 10), (some (7, false)), (.bin .gtr), [.t 9, .k (.c (.int .i64 5))]⟩, ⟨(some 11), none, .pick, [.t 7, .k (.c (.bool true)), .t 10]⟩, ⟨(some 3), none, .mv, [.t 11]⟩] false) (.cn (.t 3) (.sq (.rg [⟨(some 2), none, .mv, [.k (.c (.int .i64 2))]⟩] false) (.rt)) (.sq (.rg [⟨(some 13), none, .mv, [.t 0]⟩, ⟨(some 14), none, (.call 48 .fz), [.t 13, .k (.fn 49 [])]⟩, ⟨(some 12), none, .mv, [.t 14]⟩] false) (.cn (.t 12) (.sq (.rg [⟨(some 2), none, .mv, [.k (.c (.int .i64 1))]⟩] false) (.rt)) (.skip)))))) (.sq (.rg [⟨(some 2), none, .mv, [.k (.c (.int .i64 0))]⟩] false) (.rt)))
theorem cf36 : compF Try.prog 36 c36 = some ⟨c36, [.t 2], 15⟩ := by kernel_rfl

-- raddle/dot.in
def c37 : IC := .sq (.rg [⟨(some 4), none, .mv, [.k (.c (.bool false))]⟩] false) (.sq (.rg [⟨(some 5), none, .mv, [.t 1]⟩, ⟨(some 6), none, (.bin .geq), [.t 5, .k (.c (.int .i64 0))]⟩, ⟨(some 7), none, .mv, [.t 6]⟩, ⟨(some 8), (some (7, true)), .mv, [.t 1]⟩, ⟨(some 9), (some (7, true)), .mv, [.t 0]⟩, ⟨(some 10), (some (7, true)), .len, [.t 9]⟩, ⟨(some 11), (some (7, true)), (.bin .lss), [.t 8, .t 10]⟩, ⟨(some 12), none, .pick, [.t 7, .t 11, .k (.c (.bool false))]⟩, ⟨(some 4), none, .mv, [.t 12]⟩] false) (.rt))
theorem cf37 : compF Try.prog 37 c37 = some ⟨c37, [.t 4], 13⟩ := by kernel_rfl

-- raddle/dot.Next
def c38 : IC := .sq (.rg [⟨(some 3), none, (.box (some 2)), [.t 1]⟩, ⟨(some 4), none, .mv, [.k (.c (.bool false))]⟩] false) (.sq (.rg [⟨(some 5), none, .mv, [.t 0]⟩, ⟨(some 6), none, (.fa 0), [.t 3]⟩, ⟨(some 7), none, (.ld none), [.t 6]⟩, ⟨(some 8), none, (.call 37 .fz), [.t 5, .t 7]⟩, ⟨(some 9), none, .mv, [.t 8]⟩, ⟨(some 10), (some (9, true)), .mv, [.t 0]⟩, ⟨(some 11), (some (9, true)), (.fa 0), [.t 3]⟩, ⟨(some 12), (some (9, true)), (.ld none), [.t 11]⟩, ⟨(some 13), (some (9, true)), (.ia 1), [.t 10, .t 12]⟩, ⟨(some 14), (some (9, true)), (.ld none), [.t 13]⟩, ⟨(some 15), (some (9, true)), (.fa 1), [.t 3]⟩, ⟨(some 16), (some (9, true)), (.ld none), [.t 15]⟩, ⟨(some 17), (some (9, true)), (.bin .lss), [.t 14, .t 16]⟩, ⟨(some 18), none, .pick, [.t 9, .t 17, .k (.c (.bool false))]⟩, ⟨(some 19), none, .mv, [.t 18]⟩, ⟨(some 20), (some (19, true)), (.fa 1), [.t 3]⟩, ⟨(some 21), (some (19, true)), (.ld none), [.t 20]⟩, ⟨(some 22), (some (19, true)), (.bin .sub), [.t 21, .k (.c (.int .i64 1))]⟩, ⟨(some 23), (some (19, true)), .mv, [.t 0]⟩, ⟨(some 24), (some (19, true)), (.fa 0), [.t 3]⟩, ⟨(some 25), (some (19, true)), (.ld none), [.t 24]⟩, ⟨(some 26), (some (19, true)), (.ia 1), [.t 23, .t 25]⟩, ⟨(some 27), (some (19, true)), (.ld none), [.t 26]⟩, ⟨(some 28), (some (19, true)), (.bin .eql), [.t 22, .t 27]⟩, ⟨(some 29), none, .pick, [.t 19, .t 28, .k (.c (.bool false))]⟩, ⟨(some 4), none, .mv, [.t 29]⟩] true) (.rt))
theorem cf38 : compF Try.prog 38 c38 = some ⟨c38, [.t 4], 30⟩ := by kernel_rfl

-- raddle/dot.Le
def c39 : IC := .sq (.rg [⟨(some 4), none, .mv, [.k (.c (.bool false))]⟩] false) (.sq (.rg [⟨(some 5), none, .mv, [.t 0]⟩, ⟨(some 6), none, .mv, [.t 1]⟩, ⟨(some 7), none, (.call 50 .fz), [.t 5, .t 6, .k (.fn 51 [])]⟩, ⟨(some 4), none, .mv, [.t 7]⟩] false) (.rt))
theorem cf39 : compF Try.prog 39 c39 = some ⟨c39, [.t 4], 8⟩ := by kernel_rfl

-- slices.Clone[[]raddle/api.Value,raddle/api.Value]
def c40 : IC := .sq (.rg [⟨(some 2), none, .mv, [.k .z]⟩] false) (.sq (.sq (.rg [⟨(some 3), none, .mv, [.t 0]⟩, ⟨(some 4), none, (.nilq 0 false), [.t 3]⟩] false) (.cn (.t 4) (.sq (.rg [⟨(some 2), none, .mv, [.k .z]⟩] false) (.rt)) (.skip))) (.sq (.rg [⟨(some 5), none, (.bsl 3 [(.c (.int .i64 0)), (.c (.int .i64 0)), (.c (.string ⟨#[]⟩))] [] 0 true), []⟩, ⟨(some 6), none, .mv, [.t 0]⟩, ⟨(some 7), none, (.app 3), [.t 5, .t 6]⟩, ⟨(some 2), none, .mv, [.t 7]⟩] false) (.rt)))
theorem cf40 : compF Try.prog 40 c40 = some ⟨c40, [.t 2], 8⟩ := by kernel_rfl

-- slices.Clone[[]raddle/api.Dot,raddle/api.Dot]
def c41 : IC := .sq (.rg [⟨(some 2), none, .mv, [.k .z]⟩] false) (.sq (.sq (.rg [⟨(some 3), none, .mv, [.t 0]⟩, ⟨(some 4), none, (.nilq 0 false), [.t 3]⟩] false) (.cn (.t 4) (.sq (.rg [⟨(some 2), none, .mv, [.k .z]⟩] false) (.rt)) (.skip))) (.sq (.rg [⟨(some 5), none, (.bsl 2 [(.c (.int .i64 0)), (.c (.int .i64 0))] [] 0 true), []⟩, ⟨(some 6), none, .mv, [.t 0]⟩, ⟨(some 7), none, (.app 2), [.t 5, .t 6]⟩, ⟨(some 2), none, .mv, [.t 7]⟩] false) (.rt)))
theorem cf41 : compF Try.prog 41 c41 = some ⟨c41, [.t 2], 8⟩ := by kernel_rfl

-- slices.rotateRight[raddle/api.Op]
def c43 : IC := .rg [⟨(some 4), none, .mv, [.t 0]⟩, ⟨(some 5), none, .mv, [.t 0]⟩, ⟨(some 6), none, .len, [.t 5]⟩, ⟨(some 7), none, .mv, [.t 1]⟩, ⟨(some 8), none, (.bin .sub), [.t 6, .t 7]⟩, ⟨(some 9), none, (.call 52 .fz), [.t 4, .t 8]⟩] false
theorem cf43 : compF Try.prog 43 c43 = some ⟨c43, [], 10⟩ := by kernel_rfl

-- raddle/raddlekeep.Dot
def c44 : IC := .sq (.rg [⟨(some 2), none, (.box (some 2)), [.t 0]⟩, ⟨(some 3), none, (.box (some 2)), [.t 1]⟩, ⟨(some 4), none, .mv, [.k (.c (.bool false))]⟩] false) (.sq (.rg [⟨(some 5), none, (.fa 0), [.t 2]⟩, ⟨(some 6), none, (.ld none), [.t 5]⟩, ⟨(some 7), none, (.fa 0), [.t 3]⟩, ⟨(some 8), none, (.ld none), [.t 7]⟩, ⟨(some 9), none, (.bin .eql), [.t 6, .t 8]⟩, ⟨(some 10), none, .mv, [.t 9]⟩, ⟨(some 11), (some (10, true)), (.fa 1), [.t 2]⟩, ⟨(some 12), (some (10, true)), (.ld none), [.t 11]⟩, ⟨(some 13), (some (10, true)), (.fa 1), [.t 3]⟩, ⟨(some 14), (some (10, true)), (.ld none), [.t 13]⟩, ⟨(some 15), (some (10, true)), (.bin .eql), [.t 12, .t 14]⟩, ⟨(some 16), none, .pick, [.t 10, .t 15, .k (.c (.bool false))]⟩, ⟨(some 4), none, .mv, [.t 16]⟩] false) (.rt))
theorem cf44 : compF Try.prog 44 c44 = some ⟨c44, [.t 4], 17⟩ := by kernel_rfl

-- raddle/raddlekeep.Stamp
def c45 : IC := .sq (.rg [⟨(some 2), none, (.box (some 3)), [.t 0]⟩, ⟨(some 3), none, (.box (some 3)), [.t 1]⟩, ⟨(some 4), none, .mv, [.k (.c (.bool false))]⟩] false) (.sq (.rg [⟨(some 5), none, (.fa 0), [.t 2]⟩, ⟨(some 6), none, (.ld none), [.t 5]⟩, ⟨(some 7), none, (.fa 0), [.t 3]⟩, ⟨(some 8), none, (.ld none), [.t 7]⟩, ⟨(some 9), none, (.bin .eql), [.t 6, .t 8]⟩, ⟨(some 10), none, .mv, [.t 9]⟩, ⟨(some 11), (some (10, true)), (.fa 1), [.t 2]⟩, ⟨(some 12), (some (10, true)), (.ld none), [.t 11]⟩, ⟨(some 13), (some (10, true)), (.fa 1), [.t 3]⟩, ⟨(some 14), (some (10, true)), (.ld none), [.t 13]⟩, ⟨(some 15), (some (10, true)), (.bin .eql), [.t 12, .t 14]⟩, ⟨(some 16), none, .pick, [.t 10, .t 15, .k (.c (.bool false))]⟩, ⟨(some 17), none, .mv, [.t 16]⟩, ⟨(some 18), (some (17, true)), (.fa 2), [.t 2]⟩, ⟨(some 19), (some (17, true)), (.ld none), [.t 18]⟩, ⟨(some 20), (some (17, true)), (.fa 2), [.t 3]⟩, ⟨(some 21), (some (17, true)), (.ld none), [.t 20]⟩, ⟨(some 22), (some (17, true)), (.bin .eql), [.t 19, .t 21]⟩, ⟨(some 23), none, .pick, [.t 17, .t 22, .k (.c (.bool false))]⟩, ⟨(some 4), none, .mv, [.t 23]⟩] false) (.rt))
theorem cf45 : compF Try.prog 45 c45 = some ⟨c45, [.t 4], 24⟩ := by kernel_rfl

-- raddle/raddlekeep.Row
def c46 : IC := .sq (.rg [⟨(some 4), none, .mv, [.k (.c (.bool false))]⟩] false) (.sq (.sq (.rg [⟨(some 6), none, .mv, [.t 0]⟩, ⟨(some 7), none, .len, [.t 6]⟩, ⟨(some 8), none, .mv, [.t 1]⟩, ⟨(some 9), none, .len, [.t 8]⟩, ⟨(some 10), none, (.bin .neq), [.t 7, .t 9]⟩] false) (.cn (.t 10) (.sq (.rg [⟨(some 4), none, .mv, [.k (.c (.bool false))]⟩] false) (.rt)) (.skip))) (.sq (.sq (.rg [⟨(some 5), none, .mv, [.k (.c (.int .i64 0))]⟩] false) (.bl 0 (.lp (.sq (.sq (.rg [⟨(some 11), none, .mv, [.t 5]⟩, ⟨(some 12), none, .mv, [.t 0]⟩, ⟨(some 13), none, .len, [.t 12]⟩, ⟨(some 14), none, (.bin .lss), [.t 11, .t 13]⟩] false) (.cn (.t 14) (.skip) (.ex 0))) (.sq (.bl 1 (.sq (.rg [⟨(some 17), none, .mv, [.t 0]⟩, ⟨(some 18), none, .mv, [.t 5]⟩, ⟨(some 19), none, (.ia 3), [.t 17, .t 18]⟩, ⟨(some 20), none, (.ld (some 3)), [.t 19]⟩, ⟨(some 21), none, .mv, [.t 1]⟩, ⟨(some 22), none, .mv, [.t 5]⟩, ⟨(some 23), none, (.ia 3), [.t 21, .t 22]⟩, ⟨(some 24), none, (.ld (some 3)), [.t 23]⟩, ⟨(some 25), none, (.call 53 .fz), [.t 20, .t 24]⟩, ⟨(some 26), none, (.un .not), [.t 25]⟩] true) (.cn (.t 26) (.sq (.rg [⟨(some 4), none, .mv, [.k (.c (.bool false))]⟩] false) (.rt)) (.skip)))) (.rg [⟨(some 15), none, .mv, [.t 5]⟩, ⟨(some 16), none, (.bin .add), [.t 15, .k (.c (.int .i64 1))]⟩, ⟨(some 5), none, .mv, [.t 16]⟩] false)))))) (.sq (.rg [⟨(some 4), none, .mv, [.k (.c (.bool true))]⟩] false) (.rt))))
theorem cf46 : compF Try.prog 46 c46 = some ⟨c46, [.t 4], 27⟩ := by kernel_rfl

-- raddle/raddlekeep.Dots
def c47 : IC := .sq (.rg [⟨(some 4), none, .mv, [.k (.c (.bool false))]⟩] false) (.sq (.sq (.rg [⟨(some 6), none, .mv, [.t 0]⟩, ⟨(some 7), none, .len, [.t 6]⟩, ⟨(some 8), none, .mv, [.t 1]⟩, ⟨(some 9), none, .len, [.t 8]⟩, ⟨(some 10), none, (.bin .neq), [.t 7, .t 9]⟩] false) (.cn (.t 10) (.sq (.rg [⟨(some 4), none, .mv, [.k (.c (.bool false))]⟩] false) (.rt)) (.skip))) (.sq (.sq (.rg [⟨(some 5), none, .mv, [.k (.c (.int .i64 0))]⟩] false) (.bl 0 (.lp (.sq (.sq (.rg [⟨(some 11), none, .mv, [.t 5]⟩, ⟨(some 12), none, .mv, [.t 0]⟩, ⟨(some 13), none, .len, [.t 12]⟩, ⟨(some 14), none, (.bin .lss), [.t 11, .t 13]⟩] false) (.cn (.t 14) (.skip) (.ex 0))) (.sq (.bl 1 (.sq (.rg [⟨(some 17), none, .mv, [.t 0]⟩, ⟨(some 18), none, .mv, [.t 5]⟩, ⟨(some 19), none, (.ia 2), [.t 17, .t 18]⟩, ⟨(some 20), none, (.ld (some 2)), [.t 19]⟩, ⟨(some 21), none, .mv, [.t 1]⟩, ⟨(some 22), none, .mv, [.t 5]⟩, ⟨(some 23), none, (.ia 2), [.t 21, .t 22]⟩, ⟨(some 24), none, (.ld (some 2)), [.t 23]⟩, ⟨(some 25), none, (.call 44 .fz), [.t 20, .t 24]⟩, ⟨(some 26), none, (.un .not), [.t 25]⟩] true) (.cn (.t 26) (.sq (.rg [⟨(some 4), none, .mv, [.k (.c (.bool false))]⟩] false) (.rt)) (.skip)))) (.rg [⟨(some 15), none, .mv, [.t 5]⟩, ⟨(some 16), none, (.bin .add), [.t 15, .k (.c (.int .i64 1))]⟩, ⟨(some 5), none, .mv, [.t 16]⟩] false)))))) (.sq (.rg [⟨(some 4), none, .mv, [.k (.c (.bool true))]⟩] false) (.rt))))
theorem cf47 : compF Try.prog 47 c47 = some ⟨c47, [.t 4], 27⟩ := by kernel_rfl

-- slices.ContainsFunc[[]int,int]
def c48 : IC := .sq (.rg [⟨(some 4), none, .mv, [.k (.c (.bool false))]⟩] false) (.sq (.rg [⟨(some 5), none, .mv, [.t 0]⟩, ⟨(some 6), none, .mv, [.t 1]⟩, ⟨(some 7), none, (.call 54 .fz), [.t 5, .t 6]⟩, ⟨(some 8), none, (.bin .geq), [.t 7, .k (.c (.int .i64 0))]⟩, ⟨(some 4), none, .mv, [.t 8]⟩] false) (.rt))
theorem cf48 : compF Try.prog 48 c48 = some ⟨c48, [.t 4], 9⟩ := by kernel_rfl

-- raddle/dot.Check$1
def c49 : IC := .sq (.rg [⟨(some 2), none, .mv, [.k (.c (.bool false))]⟩] false) (.sq (.rg [⟨(some 3), none, .mv, [.t 0]⟩, ⟨(some 4), none, (.bin .lss), [.t 3, .k (.c (.int .i64 0))]⟩, ⟨(some 5), none, .mv, [.t 4]⟩, ⟨(some 6), (some (5, false)), .mv, [.t 0]⟩, ⟨(some 7), (some (5, false)), (.bin .gtr), [.t 6, .k (.c (.int .i64 1073741824))]⟩, ⟨(some 8), none, .pick, [.t 5, .k (.c (.bool true)), .t 7]⟩, ⟨(some 2), none, .mv, [.t 8]⟩] false) (.rt))
theorem cf49 : compF Try.prog 49 c49 = some ⟨c49, [.t 2], 9⟩ := by kernel_rfl

-- slices.EqualFunc[[]int,[]int,int,int]
def c50 : IC := .sq (.rg [⟨(some 6), none, .mv, [.k (.c (.bool false))]⟩] false) (.sq (.sq (.rg [⟨(some 10), none, .mv, [.t 0]⟩, ⟨(some 11), none, .len, [.t 10]⟩, ⟨(some 12), none, .mv, [.t 1]⟩, ⟨(some 13), none, .len, [.t 12]⟩, ⟨(some 14), none, (.bin .neq), [.t 11, .t 13]⟩] false) (.cn (.t 14) (.sq (.rg [⟨(some 6), none, .mv, [.k (.c (.bool false))]⟩] false) (.rt)) (.skip))) (.sq (.sq (.rg [⟨(some 15), none, .mv, [.t 0]⟩, ⟨(some 16), none, .len, [.t 15]⟩, ⟨(some 17), none, .mv, [.k (.c (.int .i64 0))]⟩] false) (.bl 0 (.lp (.sq (.rg [⟨(some 18), none, (.bin .lss), [.t 17, .t 16]⟩] false) (.sq (.cn (.t 18) (.skip) (.ex 0)) (.sq (.bl 1 (.sq (.rg [⟨(some 19), none, .mv, [.t 17]⟩, ⟨(some 20), none, (.ia 1), [.t 15, .t 17]⟩, ⟨(some 21), none, (.ld none), [.t 20]⟩, ⟨(some 7), none, .mv, [.t 19]⟩, ⟨(some 8), none, .mv, [.t 21]⟩] false) (.sq (.rg [⟨(some 22), none, .mv, [.t 1]⟩, ⟨(some 23), none, .mv, [.t 7]⟩, ⟨(some 24), none, (.ia 1), [.t 22, .t 23]⟩, ⟨(some 25), none, (.ld none), [.t 24]⟩, ⟨(some 9), none, .mv, [.t 25]⟩] false) (.sq (.rg [⟨(some 26), none, .mv, [.t 2]⟩, ⟨(some 27), none, .mv, [.t 8]⟩, ⟨(some 28), none, .mv, [.t 9]⟩, ⟨(some 29), none, (.callv .fz), [.t 26, .t 27, .t 28]⟩, ⟨(some 30), none, (.un .not), [.t 29]⟩] false) (.cn (.t 30) (.sq (.rg [⟨(some 6), none, .mv, [.k (.c (.bool false))]⟩] false) (.rt)) (.skip)))))) (.rg [⟨(some 31), none, (.bin .add), [.t 17, .k (.c (.int .i64 1))]⟩, ⟨(some 17), none, .mv, [.t 31]⟩] false))))))) (.sq (.rg [⟨(some 6), none, .mv, [.k (.c (.bool true))]⟩] false) (.rt))))
theorem cf50 : compF Try.prog 50 c50 = some ⟨c50, [.t 6], 32⟩ := by kernel_rfl

-- raddle/dot.Le$1
def c51 : IC := .sq (.rg [⟨(some 4), none, .mv, [.k (.c (.bool false))]⟩] false) (.sq (.rg [⟨(some 5), none, .mv, [.t 0]⟩, ⟨(some 6), none, .mv, [.t 1]⟩, ⟨(some 7), none, (.bin .leq), [.t 5, .t 6]⟩, ⟨(some 4), none, .mv, [.t 7]⟩] false) (.rt))
theorem cf51 : compF Try.prog 51 c51 = some ⟨c51, [.t 4], 8⟩ := by kernel_rfl

-- slices.rotateLeft[raddle/api.Op]
def c52 : IC := .sq (.rg [⟨(some 4), none, .mv, [.t 0]⟩, ⟨(some 5), none, .mv, [.t 1]⟩, ⟨(some 6), none, (.slc 12 false true), [.t 4, .t 5]⟩, ⟨(some 7), none, (.call 55 .fz), [.t 6]⟩] false) (.sq (.rg [⟨(some 8), none, .mv, [.t 0]⟩, ⟨(some 9), none, .mv, [.t 1]⟩, ⟨(some 10), none, (.slc 12 true false), [.t 8, .t 9]⟩, ⟨(some 11), none, (.call 55 .fz), [.t 10]⟩] false) (.rg [⟨(some 12), none, .mv, [.t 0]⟩, ⟨(some 13), none, (.call 55 .fz), [.t 12]⟩] false))
theorem cf52 : compF Try.prog 52 c52 = some ⟨c52, [], 14⟩ := by kernel_rfl

-- raddle/raddlekeep.Value
def c53 : IC := .sq (.rg [⟨(some 2), none, (.box (some 3)), [.t 0]⟩, ⟨(some 3), none, (.box (some 3)), [.t 1]⟩, ⟨(some 4), none, .mv, [.k (.c (.bool false))]⟩] false) (.sq (.rg [⟨(some 5), none, (.fa 0), [.t 2]⟩, ⟨(some 6), none, (.ld none), [.t 5]⟩, ⟨(some 7), none, (.fa 0), [.t 3]⟩, ⟨(some 8), none, (.ld none), [.t 7]⟩, ⟨(some 9), none, (.bin .eql), [.t 6, .t 8]⟩, ⟨(some 10), none, .mv, [.t 9]⟩, ⟨(some 11), (some (10, true)), (.fa 1), [.t 2]⟩, ⟨(some 12), (some (10, true)), (.ld none), [.t 11]⟩, ⟨(some 13), (some (10, true)), (.fa 1), [.t 3]⟩, ⟨(some 14), (some (10, true)), (.ld none), [.t 13]⟩, ⟨(some 15), (some (10, true)), (.bin .eql), [.t 12, .t 14]⟩, ⟨(some 16), none, .pick, [.t 10, .t 15, .k (.c (.bool false))]⟩, ⟨(some 17), none, .mv, [.t 16]⟩, ⟨(some 18), (some (17, true)), (.fa 2), [.t 2]⟩, ⟨(some 19), (some (17, true)), (.ld none), [.t 18]⟩, ⟨(some 20), (some (17, true)), (.fa 2), [.t 3]⟩, ⟨(some 21), (some (17, true)), (.ld none), [.t 20]⟩, ⟨(some 22), (some (17, true)), (.bin .eql), [.t 19, .t 21]⟩, ⟨(some 23), none, .pick, [.t 17, .t 22, .k (.c (.bool false))]⟩, ⟨(some 4), none, .mv, [.t 23]⟩] false) (.rt))
theorem cf53 : compF Try.prog 53 c53 = some ⟨c53, [.t 4], 24⟩ := by kernel_rfl

-- slices.IndexFunc[[]int,int]
def c54 : IC := .sq (.rg [⟨(some 4), none, .mv, [.k (.c (.int .i64 0))]⟩] false) (.sq (.sq (.rg [⟨(some 6), none, .mv, [.t 0]⟩, ⟨(some 7), none, .len, [.t 6]⟩, ⟨(some 8), none, .mv, [.k (.c (.int .i64 0))]⟩] false) (.bl 0 (.lp (.sq (.rg [⟨(some 9), none, (.bin .lss), [.t 8, .t 7]⟩] false) (.sq (.cn (.t 9) (.skip) (.ex 0)) (.sq (.bl 1 (.sq (.rg [⟨(some 10), none, .mv, [.t 8]⟩, ⟨(some 5), none, .mv, [.t 10]⟩] false) (.sq (.rg [⟨(some 11), none, .mv, [.t 1]⟩, ⟨(some 12), none, .mv, [.t 0]⟩, ⟨(some 13), none, .mv, [.t 5]⟩, ⟨(some 14), none, (.ia 1), [.t 12, .t 13]⟩, ⟨(some 15), none, (.ld none), [.t 14]⟩, ⟨(some 16), none, (.callv .fz), [.t 11, .t 15]⟩] false) (.cn (.t 16) (.sq (.rg [⟨(some 17), none, .mv, [.t 5]⟩, ⟨(some 4), none, .mv, [.t 17]⟩] false) (.rt)) (.skip))))) (.rg [⟨(some 18), none, (.bin .add), [.t 8, .k (.c (.int .i64 1))]⟩, ⟨(some 8), none, .mv, [.t 18]⟩] false))))))) (.sq (.rg [⟨(some 4), none, .mv, [.k (.c (.int .i64 (-1)))]⟩] false) (.rt)))
theorem cf54 : compF Try.prog 54 c54 = some ⟨c54, [.t 4], 19⟩ := by kernel_rfl

-- slices.Reverse[[]raddle/api.Op,raddle/api.Op]
def c55 : IC := .sq (.rg [⟨(some 4), none, .mv, [.t 0]⟩, ⟨(some 5), none, .len, [.t 4]⟩, ⟨(some 6), none, (.bin .sub), [.t 5, .k (.c (.int .i64 1))]⟩, ⟨(some 2), none, .mv, [.k (.c (.int .i64 0))]⟩, ⟨(some 3), none, .mv, [.t 6]⟩] false) (.bl 0 (.lp (.sq (.sq (.rg [⟨(some 7), none, .mv, [.t 2]⟩, ⟨(some 8), none, .mv, [.t 3]⟩, ⟨(some 9), none, (.bin .lss), [.t 7, .t 8]⟩] false) (.cn (.t 9) (.skip) (.ex 0))) (.sq (.bl 1 (.rg [⟨(some 14), none, .mv, [.t 0]⟩, ⟨(some 15), none, .mv, [.t 2]⟩, ⟨(some 16), none, .mv, [.t 0]⟩, ⟨(some 17), none, .mv, [.t 3]⟩, ⟨(some 18), none, .mv, [.t 0]⟩, ⟨(some 19), none, .mv, [.t 3]⟩, ⟨(some 20), none, (.ia 12), [.t 18, .t 19]⟩, ⟨(some 21), none, (.ld (some 12)), [.t 20]⟩, ⟨(some 22), none, .mv, [.t 0]⟩, ⟨(some 23), none, .mv, [.t 2]⟩, ⟨(some 24), none, (.ia 12), [.t 22, .t 23]⟩, ⟨(some 25), none, (.ld (some 12)), [.t 24]⟩, ⟨(some 26), none, (.ia 12), [.t 14, .t 15]⟩, ⟨none, none, (.st 12), [.t 26, .t 21]⟩, ⟨(some 27), none, (.ia 12), [.t 16, .t 17]⟩, ⟨none, none, (.st 12), [.t 27, .t 25]⟩] true)) (.rg [⟨(some 10), none, .mv, [.t 2]⟩, ⟨(some 11), none, (.bin .add), [.t 10, .k (.c (.int .i64 1))]⟩, ⟨(some 12), none, .mv, [.t 3]⟩, ⟨(some 13), none, (.bin .sub), [.t 12, .k (.c (.int .i64 1))]⟩, ⟨(some 2), none, .mv, [.t 11]⟩, ⟨(some 3), none, .mv, [.t 13]⟩] false)))))
theorem cf55 : compF Try.prog 55 c55 = some ⟨c55, [], 28⟩ := by kernel_rfl

end Go.Proofs.Ytcoecplkcajhgaa.D
end
section
set_option linter.unusedVariables false
set_option linter.unusedSimpArgs false
set_option maxRecDepth 100000
set_option linter.constructorNameAsVariable false

/- What functions of raddlekeep, raddleref01 and dot answer. No condition. -/
namespace Go.Proofs.Ytcoecplkcajhgaa.D
open Go Go.Proofs

theorem refIn_ok (n lo hi : Int) : FnB Try.prog 35 [vi n, vi lo, vi hi] (vb (decide (lo ≤ n ∧ n ≤ hi))) := by
  refine fnB_intro cf35 (by simp) ?_
  simp (config := {contextual := true, maxSteps := 1000000}) only [go_sem, ints, intRows, iv_c, Nat.reduceAdd, Nat.reduceBEq, Nat.reduceEqDiff, Nat.reduceLeDiff, Nat.reduceLT, reduceIte, Nat.le_refl, true_or, or_true, and_self, Int.reduceLE, Int.reduceLT, Int.reduceEq, Int.reduceNeg, Int.natCast_nonneg, Int.reduceToNat, c35]
  simp

theorem in_ok {fl : Fl} (l : List Int) (p : Int) : FnB Try.prog 37 [ints fl l, vi p] (vb (decide (0 ≤ p ∧ p < l.length))) := by
  refine fnB_intro cf37 (by simp) ?_
  simp (config := {contextual := true, maxSteps := 1000000}) only [go_sem, ints, intRows, iv_c, Nat.reduceAdd, Nat.reduceBEq, Nat.reduceEqDiff, Nat.reduceLeDiff, Nat.reduceLT, reduceIte, Nat.le_refl, true_or, or_true, and_self, Int.reduceLE, Int.reduceLT, Int.reduceEq, Int.reduceNeg, Int.natCast_nonneg, Int.reduceToNat, c37]
  simp

theorem take_succ_iff {α : Type} [Inhabited α] {p : α → Prop} {l : List α} {i : Nat} (h : i < l.length) : (∀ n ∈ l.take (i + 1), p n) ↔ (∀ n ∈ l.take i, p n) ∧ p (gN l i) := by
  rw [List.take_add_one, gN_at h]; simp [or_imp, forall_and]
theorem take_succ_eq {α : Type} [Inhabited α] {a b : List α} {i : Nat} (h : i < a.length) (h' : i < b.length) (e : a.take i = b.take i) (e' : gN a i = gN b i) : a.take (i + 1) = b.take (i + 1) := by
  rw [List.take_add_one, List.take_add_one, gN_at h, gN_at h', e, e']

theorem Ints_ok {fl fm : Fl} (a b : List Int) (ha : a.length ≤ maxLen) : FnB Try.prog 10 [ints fl a, ints fm b] (vb (decide (a = b))) := by
  unfold maxLen at ha
  refine fnB_intro cf10 (by simp) ?_
  simp (config := {contextual := true, maxSteps := 1000000}) only [go_sem, ints, intRows, iv_c, Nat.reduceAdd, Nat.reduceBEq, Nat.reduceEqDiff, Nat.reduceLeDiff, Nat.reduceLT, reduceIte, Nat.le_refl, true_or, or_true, and_self, Int.reduceLE, Int.reduceLT, Int.reduceEq, Int.reduceNeg, Int.natCast_nonneg, Int.reduceToNat, c10]
  refine ⟨?_, ?_⟩
  · intro h; simp at h ⊢
    intro e; exact absurd (congrArg List.length e) (by omega)
  · intro h; simp at h
    refine wpC_lp (fun env ob n => env 0 = ints fl a ∧ env 1 = ints fm b ∧ ∃ i : Nat, env 5 = vi i ∧ i ≤ a.length ∧ a.take i = b.take i) (fun env ob n => (a.length - iv (env 5)).toNat) ?_ ?_
    · simp (config := {contextual := true, maxSteps := 1000000}) only [go_sem, ints, intRows, iv_c, Nat.reduceAdd, Nat.reduceBEq, Nat.reduceEqDiff, Nat.reduceLeDiff, Nat.reduceLT, reduceIte, Nat.le_refl, true_or, or_true, and_self, Int.reduceLE, Int.reduceLT, Int.reduceEq, Int.reduceNeg, Int.natCast_nonneg, Int.reduceToNat]
      simp
      exact ⟨0, by simp⟩
    · rintro env ob n ⟨h0, h1, i, h5, hi, he⟩
      simp (config := {contextual := true, maxSteps := 1000000}) only [go_sem, ints, intRows, iv_c, Nat.reduceAdd, Nat.reduceBEq, Nat.reduceEqDiff, Nat.reduceLeDiff, Nat.reduceLT, reduceIte, Nat.le_refl, true_or, or_true, and_self, Int.reduceLE, Int.reduceLT, Int.reduceEq, Int.reduceNeg, Int.natCast_nonneg, Int.reduceToNat, h0, h1, h5]
      simp
      refine ⟨fun hlt => ⟨by omega, by omega, fun hne e => hne (by rw [e]), fun heq => ⟨⟨i + 1, ?_, by omega, take_succ_eq (by omega) (by omega) he heq⟩, ?_⟩⟩, fun hge => ?_⟩
      · rw [w64 (by omega)]; simp
      · rw [w64 (by omega)]; omega
      · rw [List.take_of_length_le (by omega), List.take_of_length_le (by omega)] at he; exact he

/-- Whether a vector may be. -/
def vecE (v : List Int) : Int := if 1 ≤ v.length ∧ v.length ≤ 5 then (if ∀ n ∈ v, 0 ≤ n ∧ n ≤ 1073741824 then 0 else 1) else 2

end Go.Proofs.Ytcoecplkcajhgaa.D
end
section
set_option linter.unusedVariables false
set_option linter.unusedSimpArgs false
set_option maxRecDepth 100000
set_option linter.constructorNameAsVariable false

/- What functions of slices and dot answer. No condition. -/
namespace Go.Proofs.Ytcoecplkcajhgaa.D
open Go Go.Proofs

/-- Where the first stands, if any does. -/
def idxI {α : Type} (p : α → Bool) (l : List α) : Int := if l.any p then (l.findIdx p : Nat) else -1
theorem idxI_ge {α : Type} (p : α → Bool) (l : List α) : decide (0 ≤ idxI p l) = l.any p := by
  unfold idxI; split <;> simp_all
theorem idxI_at {α : Type} [Inhabited α] {p : α → Bool} {l : List α} {i : Nat} (h : i < l.length) (h1 : ∀ n ∈ l.take i, p n = false) (h2 : p (gN l i) = true) : idxI p l = i := by
  rw [gN_eq h] at h2
  have : l.any p = true := List.any_eq_true.2 ⟨l[i], List.getElem_mem _, h2⟩
  rw [idxI, if_pos this, (List.findIdx_eq h).2 ⟨h2, fun j hj => h1 _ (List.mem_take_iff_getElem.2 ⟨j, by omega, rfl⟩)⟩]
theorem idxI_no {α : Type} {p : α → Bool} {l : List α} (h1 : ∀ n ∈ l, p n = false) : idxI p l = -1 := by
  rw [idxI, if_neg]; simp; exact h1

theorem IndexInts_ok {fl : Fl} (l : List Int) (f : Nat) (caps : List V) (p : Int → Bool) (hl : l.length ≤ maxLen) (hc : ∀ ob, caps.map (resV ob 6) = caps) (hp : ∀ x ∈ l, FnB Try.prog f (vi x :: caps) (vb (p x))) :
    FnB Try.prog 54 [ints fl l, .fn f caps] (vi (idxI p l)) := by
  unfold maxLen at hl
  refine fnB_intro cf54 (by simp) ?_
  simp (config := {contextual := true, maxSteps := 1000000}) only [go_sem, ints, intRows, iv_c, Nat.reduceAdd, Nat.reduceBEq, Nat.reduceEqDiff, Nat.reduceLeDiff, Nat.reduceLT, reduceIte, Nat.le_refl, true_or, or_true, and_self, Int.reduceLE, Int.reduceLT, Int.reduceEq, Int.reduceNeg, Int.natCast_nonneg, Int.reduceToNat, c54]
  refine wpC_lp (fun env ob n => env 0 = ints fl l ∧ env 1 = .fn f caps ∧ env 7 = vi l.length ∧ ∃ i : Nat, env 8 = vi i ∧ i ≤ l.length ∧ ∀ n ∈ l.take i, p n = false) (fun env ob n => (l.length - iv (env 8)).toNat) ?_ ?_
  · simp (config := {contextual := true, maxSteps := 1000000}) only [go_sem, ints, intRows, iv_c, Nat.reduceAdd, Nat.reduceBEq, Nat.reduceEqDiff, Nat.reduceLeDiff, Nat.reduceLT, reduceIte, Nat.le_refl, true_or, or_true, and_self, Int.reduceLE, Int.reduceLT, Int.reduceEq, Int.reduceNeg, Int.natCast_nonneg, Int.reduceToNat]
    simp
    exact ⟨0, by simp⟩
  · rintro env ob n ⟨h0, h1, h7, i, h8, hi, he⟩
    simp (config := {contextual := true, maxSteps := 1000000}) only [go_sem, ints, intRows, iv_c, Nat.reduceAdd, Nat.reduceBEq, Nat.reduceEqDiff, Nat.reduceLeDiff, Nat.reduceLT, reduceIte, Nat.le_refl, true_or, or_true, and_self, Int.reduceLE, Int.reduceLT, Int.reduceEq, Int.reduceNeg, Int.natCast_nonneg, Int.reduceToNat, h0, h1, h7, h8, List.map_append, List.map_cons, hc]
    refine ⟨fun hlt => ?_, fun hge => ?_⟩
    · simp at hlt
      have hpi := hp (gN l i) (by rw [gN_eq hlt]; exact List.getElem_mem _)
      try simp only [ints] at hpi
      refine ⟨by omega, caS_i hpi trivial ?_⟩
      simp (config := {contextual := true, maxSteps := 1000000}) only [go_sem, ints, intRows, iv_c, Nat.reduceAdd, Nat.reduceBEq, Nat.reduceEqDiff, Nat.reduceLeDiff, Nat.reduceLT, reduceIte, Nat.le_refl, true_or, or_true, and_self, Int.reduceLE, Int.reduceLT, Int.reduceEq, Int.reduceNeg, Int.natCast_nonneg, Int.reduceToNat, h0, h1, h7, h8]
      refine ⟨fun hb => ?_, fun hg => ⟨⟨i + 1, ?_, by omega, (take_succ_iff hlt).2 ⟨he, hg⟩⟩, ?_⟩⟩
      · rw [idxI_at hlt he hb]
      · rw [w64 (by omega)]; simp
      · rw [w64 (by omega)]; omega
    · simp at hge
      rw [List.take_of_length_le (by omega)] at he
      rw [idxI_no he]
theorem ContainsInts_ok {fl : Fl} (l : List Int) (f : Nat) (caps : List V) (p : Int → Bool) (hl : l.length ≤ maxLen) (hc : ∀ ob, caps.map (resV ob 6) = caps) (hc' : ∀ ob, caps.map (resV ob 5) = caps) (hp : ∀ x ∈ l, FnB Try.prog f (vi x :: caps) (vb (p x))) :
    FnB Try.prog 48 [ints fl l, .fn f caps] (vb (l.any p)) := by
  refine fnB_intro cf48 (by simp) ?_
  simp (config := {contextual := true, maxSteps := 1000000}) only [go_sem, ints, intRows, iv_c, Nat.reduceAdd, Nat.reduceBEq, Nat.reduceEqDiff, Nat.reduceLeDiff, Nat.reduceLT, reduceIte, Nat.le_refl, true_or, or_true, and_self, Int.reduceLE, Int.reduceLT, Int.reduceEq, Int.reduceNeg, Int.natCast_nonneg, Int.reduceToNat, c48, hc']
  refine caS_i (IndexInts_ok l f caps p hl hc hp) trivial ?_
  simp (config := {contextual := true, maxSteps := 1000000}) only [go_sem, ints, intRows, iv_c, Nat.reduceAdd, Nat.reduceBEq, Nat.reduceEqDiff, Nat.reduceLeDiff, Nat.reduceLT, reduceIte, Nat.le_refl, true_or, or_true, and_self, Int.reduceLE, Int.reduceLT, Int.reduceEq, Int.reduceNeg, Int.natCast_nonneg, Int.reduceToNat, idxI_ge]
theorem okn_ok (n : Int) : FnB Try.prog 49 [vi n] (vb (decide (n < 0 ∨ 1073741824 < n))) := by
  refine fnB_intro cf49 (by simp) ?_
  simp (config := {contextual := true, maxSteps := 1000000}) only [go_sem, ints, intRows, iv_c, Nat.reduceAdd, Nat.reduceBEq, Nat.reduceEqDiff, Nat.reduceLeDiff, Nat.reduceLT, reduceIte, Nat.le_refl, true_or, or_true, and_self, Int.reduceLE, Int.reduceLT, Int.reduceEq, Int.reduceNeg, Int.natCast_nonneg, Int.reduceToNat, c49]
  simp

theorem Check_ok {fl : Fl} (v : List Int) : FnB Try.prog 36 [ints fl v] (vi (vecE v)) := by
  refine fnB_intro cf36 (by simp) ?_
  simp (config := {contextual := true, maxSteps := 1000000}) only [go_sem, ints, intRows, iv_c, Nat.reduceAdd, Nat.reduceBEq, Nat.reduceEqDiff, Nat.reduceLeDiff, Nat.reduceLT, reduceIte, Nat.le_refl, true_or, or_true, and_self, Int.reduceLE, Int.reduceLT, Int.reduceEq, Int.reduceNeg, Int.natCast_nonneg, Int.reduceToNat, c36]
  refine ⟨fun h => ?_, fun h => ?_⟩ <;> simp at h
  · rw [vecE, if_neg (by omega)]
  · have h2 := h.2
    refine caS_i (ContainsInts_ok v _ [] _ (by unfold maxLen; omega) (fun _ => rfl) (fun _ => rfl) (fun n _ => okn_ok n)) trivial ?_
    simp (config := {contextual := true, maxSteps := 1000000}) only [go_sem, ints, intRows, iv_c, Nat.reduceAdd, Nat.reduceBEq, Nat.reduceEqDiff, Nat.reduceLeDiff, Nat.reduceLT, reduceIte, Nat.le_refl, true_or, or_true, and_self, Int.reduceLE, Int.reduceLT, Int.reduceEq, Int.reduceNeg, Int.natCast_nonneg, Int.reduceToNat]
    refine ⟨fun h3 => ?_, fun h3 => ?_⟩
    · simp at h3
      obtain ⟨n, hn, h3⟩ := h3
      rw [vecE, if_pos (by omega), if_neg]
      intro hall; have := hall n hn; omega
    · simp at h3
      rw [vecE, if_pos (by omega), if_pos]
      intro n hn; exact h3 n hn
end Go.Proofs.Ytcoecplkcajhgaa.D
end
section
set_option linter.unusedVariables false
set_option linter.unusedSimpArgs false
set_option maxRecDepth 100000
set_option linter.constructorNameAsVariable false

/- What functions of dot answer: dots. No condition. -/
namespace Go.Proofs.Ytcoecplkcajhgaa.D
open Go Go.Proofs

structure Dt where
  p : Int
  n : Int
instance : Inhabited Dt := ⟨⟨0, 0⟩⟩
def dotV (d : Dt) : List V := [vi d.p, vi d.n]
def hasB (v : List Int) (d : Dt) : Bool := decide (0 ≤ d.p ∧ d.p < v.length ∧ 1 ≤ d.n ∧ d.n ≤ gN v d.p.toNat)
def nextB (v : List Int) (d : Dt) : Bool := decide (0 ≤ d.p ∧ d.p < v.length ∧ d.n = gN v d.p.toNat + 1)
def inI (n : Int) : Prop := -9223372036854775808 ≤ n ∧ n ≤ 9223372036854775807

theorem Has_ok {fl : Fl} (v : List Int) (d : Dt) : FnB Try.prog 19 [ints fl v, .ag (dotV d)] (vb (hasB v d)) := by
  refine fnB_intro cf19 (by simp) ?_
  simp (config := {contextual := true, maxSteps := 1000000}) only [go_sem, ints, intRows, iv_c, Nat.reduceAdd, Nat.reduceBEq, Nat.reduceEqDiff, Nat.reduceLeDiff, Nat.reduceLT, reduceIte, Nat.le_refl, true_or, or_true, and_self, Int.reduceLE, Int.reduceLT, Int.reduceEq, Int.reduceNeg, Int.natCast_nonneg, Int.reduceToNat, c19, dotV]
  refine caD_i (in_ok v d.p) trivial ?_
  simp (config := {contextual := true, maxSteps := 1000000}) only [go_sem, ints, intRows, iv_c, Nat.reduceAdd, Nat.reduceBEq, Nat.reduceEqDiff, Nat.reduceLeDiff, Nat.reduceLT, reduceIte, Nat.le_refl, true_or, or_true, and_self, Int.reduceLE, Int.reduceLT, Int.reduceEq, Int.reduceNeg, Int.natCast_nonneg, Int.reduceToNat, dotV]
  simp only [hasB]
  generalize gN v d.p.toNat = z
  by_cases h1 : 0 ≤ d.p ∧ d.p < v.length <;> by_cases h2 : 1 ≤ d.n <;> simp [h1, h2]
  · intro h3 h4; exact absurd ⟨h3, h4⟩ h1

theorem Next_ok {fl : Fl} (v : List Int) (d : Dt) (hn : inI d.n) (hv : ∀ n ∈ v, inI n) : FnB Try.prog 38 [ints fl v, .ag (dotV d)] (vb (nextB v d)) := by
  refine fnB_intro cf38 (by simp) ?_
  simp (config := {contextual := true, maxSteps := 1000000}) only [go_sem, ints, intRows, iv_c, Nat.reduceAdd, Nat.reduceBEq, Nat.reduceEqDiff, Nat.reduceLeDiff, Nat.reduceLT, reduceIte, Nat.le_refl, true_or, or_true, and_self, Int.reduceLE, Int.reduceLT, Int.reduceEq, Int.reduceNeg, Int.natCast_nonneg, Int.reduceToNat, c38, dotV]
  refine caD_i (in_ok v d.p) trivial ?_
  simp (config := {contextual := true, maxSteps := 1000000}) only [go_sem, ints, intRows, iv_c, Nat.reduceAdd, Nat.reduceBEq, Nat.reduceEqDiff, Nat.reduceLeDiff, Nat.reduceLT, reduceIte, Nat.le_refl, true_or, or_true, and_self, Int.reduceLE, Int.reduceLT, Int.reduceEq, Int.reduceNeg, Int.natCast_nonneg, Int.reduceToNat, dotV]
  simp only [nextB]
  by_cases h1 : 0 ≤ d.p ∧ d.p < v.length
  · have h2 := hv (gN v d.p.toNat) (by rw [gN_eq (by omega)]; exact List.getElem_mem _)
    generalize gN v d.p.toNat = z at *
    unfold inI at *
    simp [h1]
    by_cases h3 : z < d.n
    · simp [h3]; rw [w64 (by omega)]; omega
    · simp [h3]; intro h; omega
  · simp only [h1, decide_false]; simp; intro h3 h4; exact absurd ⟨h3, h4⟩ h1

/-- Copied. -/
theorem CloneInts_ok (v : List Int) (hv : v.length ≤ maxLen) (f : Fl) : FnB Try.prog 25 [ints f v] (ints .o v) := by
  refine fnB_intro cf25 (by simp) ?_
  by_cases h : v = []
  · subst h
    simp (config := {contextual := true, maxSteps := 1000000}) only [go_sem, ints, intRows, iv_c, Nat.reduceAdd, Nat.reduceBEq, Nat.reduceEqDiff, Nat.reduceLeDiff, Nat.reduceLT, reduceIte, Nat.le_refl, true_or, or_true, and_self, Int.reduceLE, Int.reduceLT, Int.reduceEq, Int.reduceNeg, Int.natCast_nonneg, Int.reduceToNat, c25, List.map_nil]
    refine nxS_app Own.nil (Nat.zero_le _) rfl rfl (by simp [maxLen]) fun v' ob' ho _ => ?_
    simp (config := {contextual := true, maxSteps := 1000000}) only [go_sem, ints, intRows, iv_c, Nat.reduceAdd, Nat.reduceBEq, Nat.reduceEqDiff, Nat.reduceLeDiff, Nat.reduceLT, reduceIte, Nat.le_refl, true_or, or_true, and_self, Int.reduceLE, Int.reduceLT, Int.reduceEq, Int.reduceNeg, Int.natCast_nonneg, Int.reduceToNat]
    rw [out_own ho (fun ob' => by simp) [] (fun _ => rfl)]; rfl
  · simp (config := {contextual := true, maxSteps := 1000000}) only [go_sem, ints, intRows, iv_c, Nat.reduceAdd, Nat.reduceBEq, Nat.reduceEqDiff, Nat.reduceLeDiff, Nat.reduceLT, reduceIte, Nat.le_refl, true_or, or_true, and_self, Int.reduceLE, Int.reduceLT, Int.reduceEq, Int.reduceNeg, Int.natCast_nonneg, Int.reduceToNat, c25, h]
    refine nxS_app Own.nil (Nat.zero_le _) rfl (allInts v) (by simpa using hv) fun v' ob' ho _ => ?_
    simp (config := {contextual := true, maxSteps := 1000000}) only [go_sem, ints, intRows, iv_c, Nat.reduceAdd, Nat.reduceBEq, Nat.reduceEqDiff, Nat.reduceLeDiff, Nat.reduceLT, reduceIte, Nat.le_refl, true_or, or_true, and_self, Int.reduceLE, Int.reduceLT, Int.reduceEq, Int.reduceNeg, Int.natCast_nonneg, Int.reduceToNat]
    rw [List.nil_append] at ho
    rw [out_own ho (fun ob' => gInts ob' v) [] (fun _ => rfl)]; rfl
end Go.Proofs.Ytcoecplkcajhgaa.D
end
section
set_option linter.unusedVariables false
set_option linter.unusedSimpArgs false
set_option maxRecDepth 100000
set_option linter.constructorNameAsVariable false

/- What functions of dot answer: vectors. No condition. -/
namespace Go.Proofs.Ytcoecplkcajhgaa.D
open Go Go.Proofs

/-- Place by place. -/
def allB (p : Int → Int → Bool) (a b : List Int) : Bool := decide (a.length = b.length ∧ ∀ i, i < a.length → p (gN a i) (gN b i) = true)

theorem EqualFunc_ok {fl fm : Fl} (a b : List Int) (f : Nat) (caps : List V) (p : Int → Int → Bool) (ha : a.length ≤ maxLen) (hc : ∀ ob, caps.map (resV ob 6) = caps) (hp : ∀ x y, FnB Try.prog f (vi x :: vi y :: caps) (vb (p x y))) :
    FnB Try.prog 50 [ints fl a, ints fm b, .fn f caps] (vb (allB p a b)) := by
  unfold maxLen at ha
  refine fnB_intro cf50 (by simp) ?_
  simp (config := {contextual := true, maxSteps := 1000000}) only [go_sem, ints, intRows, iv_c, Nat.reduceAdd, Nat.reduceBEq, Nat.reduceEqDiff, Nat.reduceLeDiff, Nat.reduceLT, reduceIte, Nat.le_refl, true_or, or_true, and_self, Int.reduceLE, Int.reduceLT, Int.reduceEq, Int.reduceNeg, Int.natCast_nonneg, Int.reduceToNat, c50]
  refine ⟨?_, ?_⟩
  · intro h; simp at h
    simp only [allB]; rw [decide_eq_false]; rintro ⟨h1, _⟩; omega
  · intro h; simp at h
    refine wpC_lp (fun env ob n => env 0 = ints fl a ∧ env 1 = ints fm b ∧ env 2 = .fn f caps ∧ env 15 = ints fl a ∧ env 16 = vi a.length ∧ ∃ i : Nat, env 17 = vi i ∧ i ≤ a.length ∧ ∀ j, j < i → p (gN a j) (gN b j) = true) (fun env ob n => (a.length - iv (env 17)).toNat) ?_ ?_
    · simp (config := {contextual := true, maxSteps := 1000000}) only [go_sem, ints, intRows, iv_c, Nat.reduceAdd, Nat.reduceBEq, Nat.reduceEqDiff, Nat.reduceLeDiff, Nat.reduceLT, reduceIte, Nat.le_refl, true_or, or_true, and_self, Int.reduceLE, Int.reduceLT, Int.reduceEq, Int.reduceNeg, Int.natCast_nonneg, Int.reduceToNat]
      simp
      exact ⟨0, by simp⟩
    · rintro env ob n ⟨h0, h1, h2, h15, h16, i, h17, hi, he⟩
      simp (config := {contextual := true, maxSteps := 1000000}) only [go_sem, ints, intRows, iv_c, Nat.reduceAdd, Nat.reduceBEq, Nat.reduceEqDiff, Nat.reduceLeDiff, Nat.reduceLT, reduceIte, Nat.le_refl, true_or, or_true, and_self, Int.reduceLE, Int.reduceLT, Int.reduceEq, Int.reduceNeg, Int.natCast_nonneg, Int.reduceToNat, h0, h1, h2, h15, h16, h17, List.map_append, List.map_cons, hc]
      refine ⟨fun hlt => ?_, fun hge => ?_⟩
      · simp at hlt
        refine ⟨by omega, by omega, caS_i (hp _ _) trivial ?_⟩
        simp (config := {contextual := true, maxSteps := 1000000}) only [go_sem, ints, intRows, iv_c, Nat.reduceAdd, Nat.reduceBEq, Nat.reduceEqDiff, Nat.reduceLeDiff, Nat.reduceLT, reduceIte, Nat.le_refl, true_or, or_true, and_self, Int.reduceLE, Int.reduceLT, Int.reduceEq, Int.reduceNeg, Int.natCast_nonneg, Int.reduceToNat, h0, h1, h2, h15, h16, h17]
        simp
        refine ⟨fun hb => ?_, fun hg => ⟨⟨i + 1, ?_, by omega, fun j hj => ?_⟩, ?_⟩⟩
        · simp only [allB]; rw [decide_eq_false]; rintro ⟨_, h⟩; rw [h i hlt] at hb; cases hb
        · rw [w64 (by omega)]; simp
        · by_cases hji : j = i
          · subst hji; exact hg
          · exact he j (by omega)
        · rw [w64 (by omega)]; omega
      · simp at hge
        simp only [allB]; rw [decide_eq_true]; exact ⟨by omega, fun j hj => he j (by omega)⟩

theorem le1_ok (x y : Int) : FnB Try.prog 51 [vi x, vi y] (vb (decide (x ≤ y))) := by
  refine fnB_intro cf51 (by simp) ?_
  simp (config := {contextual := true, maxSteps := 1000000}) only [go_sem, ints, intRows, iv_c, Nat.reduceAdd, Nat.reduceBEq, Nat.reduceEqDiff, Nat.reduceLeDiff, Nat.reduceLT, reduceIte, Nat.le_refl, true_or, or_true, and_self, Int.reduceLE, Int.reduceLT, Int.reduceEq, Int.reduceNeg, Int.natCast_nonneg, Int.reduceToNat, c51]

/-- No number is greater. -/
def leB (a b : List Int) : Bool := allB (fun x y => decide (x ≤ y)) a b
theorem Le_ok {fl fm : Fl} (a b : List Int) (ha : a.length ≤ maxLen) : FnB Try.prog 39 [ints fl a, ints fm b] (vb (leB a b)) := by
  refine fnB_intro cf39 (by simp) ?_
  simp (config := {contextual := true, maxSteps := 1000000}) only [go_sem, ints, intRows, iv_c, Nat.reduceAdd, Nat.reduceBEq, Nat.reduceEqDiff, Nat.reduceLeDiff, Nat.reduceLT, reduceIte, Nat.le_refl, true_or, or_true, and_self, Int.reduceLE, Int.reduceLT, Int.reduceEq, Int.reduceNeg, Int.natCast_nonneg, Int.reduceToNat, c39]
  refine caS_i (EqualFunc_ok a b _ [] _ ha (fun _ => rfl) le1_ok) trivial ?_
  simp (config := {contextual := true, maxSteps := 1000000}) only [go_sem, ints, intRows, iv_c, Nat.reduceAdd, Nat.reduceBEq, Nat.reduceEqDiff, Nat.reduceLeDiff, Nat.reduceLT, reduceIte, Nat.le_refl, true_or, or_true, and_self, Int.reduceLE, Int.reduceLT, Int.reduceEq, Int.reduceNeg, Int.natCast_nonneg, Int.reduceToNat, leB]

theorem vecE_range (v : List Int) : vecE v = 0 → 1 ≤ v.length ∧ v.length ≤ 5 ∧ ∀ n ∈ v, 0 ≤ n ∧ n ≤ 1073741824 := by
  unfold vecE; split
  · rename_i h; split
    · rename_i h2; exact fun _ => ⟨h.1, h.2, h2⟩
    · intro h; cases h
  · intro h; cases h

/-- With the next dot. -/
def addV (v : List Int) (d : Dt) : List Int × Int :=
  if vecE v ≠ 0 then ([], vecE v) else if nextB v d = false ∨ 1073741824 < d.n then ([], 1) else (v.set d.p.toNat d.n, 0)

/-- Of two, place by place. -/
def eachV (p : Int → Int → Int) (a b : List Int) : List Int × Int :=
  if vecE a ≠ 0 then ([], vecE a) else if vecE b ≠ 0 then ([], vecE b) else if a.length ≠ b.length then ([], 2) else (List.zipWith p a b, 0)

def mergeV (a b : List Int) : List Int × Int := eachV max a b
end Go.Proofs.Ytcoecplkcajhgaa.D
end
section
set_option linter.unusedVariables false
set_option linter.unusedSimpArgs false
set_option maxRecDepth 100000
set_option linter.constructorNameAsVariable false

/- What functions of dot answer: the least of several. No condition. -/
namespace Go.Proofs.Ytcoecplkcajhgaa.D
open Go Go.Proofs

def firstE : List (List Int) → Int
  | [] => 0
  | v :: l => if vecE v ≠ 0 then vecE v else firstE l
theorem firstE_at : ∀ {l : List (List Int)} {i : Nat}, i < l.length → (∀ v ∈ l.take i, vecE v = 0) → vecE (gN l i) ≠ 0 → firstE l = vecE (gN l i)
  | [], i, h, _, _ => by simp at h
  | v :: l, 0, h, h1, h2 => by simp [gN] at h2; simp [firstE, gN, h2]
  | v :: l, i + 1, h, h1, h2 => by
    have : vecE v = 0 := h1 v (by simp)
    simp only [firstE, this]
    simp
    have e : gN (v :: l) (i + 1) = gN l i := by simp [gN]
    rw [e] at h2 ⊢
    exact firstE_at (by simpa using h) (fun w hw => h1 w (by simp [hw])) h2
theorem firstE_no : ∀ {l : List (List Int)}, (∀ v ∈ l, vecE v = 0) → firstE l = 0
  | [], _ => rfl
  | v :: l, h => by simp only [firstE, h v (by simp)]; simp; exact firstE_no fun w hw => h w (by simp [hw])

def leastF : List Int → List (List Int) → List Int × Int
  | out, [] => (out, 0)
  | out, v :: l => if (eachV min out v).2 ≠ 0 then ([], (eachV min out v).2) else leastF (eachV min out v).1 l
/-- The least of several. -/
def leastV (l : List (List Int)) : List Int × Int :=
  if l = [] then ([], 2) else if firstE l ≠ 0 then ([], firstE l) else leastF (gN l 0) l

theorem eachV_len {p : Int → Int → Int} {a b : List Int} : ((eachV p a b).2 = 0 → (eachV p a b).1.length = a.length ∧ a.length ≠ 0) ∧ ((eachV p a b).2 ≠ 0 → (eachV p a b).1 = []) := by
  unfold eachV
  split
  · rename_i h; exact ⟨fun h2 => absurd h2 h, fun _ => rfl⟩
  · split
    · rename_i h; exact ⟨fun h2 => absurd h2 h, fun _ => rfl⟩
    · split
      · exact ⟨fun h2 => (by cases h2), fun _ => rfl⟩
      · rename_i h h1 h2
        have := vecE_range a (by simpa using h)
        exact ⟨fun _ => ⟨by simp; omega, by omega⟩, fun h => absurd rfl h⟩

theorem drop_gN {α : Type} [Inhabited α] {l : List α} {i : Nat} (h : i < l.length) : l.drop i = gN l i :: l.drop (i + 1) := by
  rw [gN_eq h]; exact List.drop_eq_getElem_cons h

end Go.Proofs.Ytcoecplkcajhgaa.D
end
section
set_option linter.unusedVariables false
set_option linter.unusedSimpArgs false
set_option maxRecDepth 100000
set_option linter.constructorNameAsVariable false

/- What functions of raddlelaw05 answer. No condition. -/
namespace Go.Proofs.Ytcoecplkcajhgaa.D
open Go Go.Proofs

/-- More than is played? -/
def heavyB (l : List (List Int)) : Bool := decide (30 < l.length ∨ ∃ v ∈ l, 30 < v.length)
end Go.Proofs.Ytcoecplkcajhgaa.D
end
section
set_option linter.unusedVariables false
set_option linter.unusedSimpArgs false
set_option maxRecDepth 100000
set_option linter.constructorNameAsVariable false

/- The least of several, plainly. No condition. -/
namespace Go.Proofs.Ytcoecplkcajhgaa.D
open Go Go.Proofs

theorem eachV_yes {p : Int → Int → Int} {a b : List Int} (ha : vecE a = 0) (hb : vecE b = 0) (hl : a.length = b.length) : eachV p a b = (List.zipWith p a b, 0) := by simp [eachV, ha, hb, hl]
theorem eachV_zero {p : Int → Int → Int} {a b : List Int} (h : (eachV p a b).2 = 0) : vecE a = 0 ∧ vecE b = 0 ∧ a.length = b.length ∧ (eachV p a b).1 = List.zipWith p a b := by
  unfold eachV at *
  by_cases h1 : vecE a = 0 <;> by_cases h2 : vecE b = 0 <;> by_cases h3 : a.length = b.length <;> simp [h1, h2, h3] at h ⊢
theorem zip_self (v : List Int) : List.zipWith min v v = v := List.ext_getElem (by simp) (by simp)
theorem gN_zip {p : Int → Int → Int} {a b : List Int} {i : Nat} (h1 : i < a.length) (h2 : i < b.length) : gN (List.zipWith p a b) i = p (gN a i) (gN b i) := by
  rw [gN_eq (by simp; omega), gN_eq h1, gN_eq h2]; simp
theorem leB_left {a b : List Int} (h : a.length = b.length) : leB (List.zipWith min a b) a = true := by
  simp only [leB, allB]; rw [decide_eq_true]
  refine ⟨by simp; omega, fun i hi => ?_⟩
  have : i < a.length := by simp at hi; omega
  rw [gN_zip this (by omega)]; simp; omega
theorem leB_right {a b : List Int} (h : a.length = b.length) : leB (List.zipWith min a b) b = true := by
  simp only [leB, allB]; rw [decide_eq_true]
  refine ⟨by simp; omega, fun i hi => ?_⟩
  have : i < a.length := by simp at hi; omega
  rw [gN_zip this (by omega)]; simp; omega
theorem leastF_app : ∀ (l : List (List Int)) (out v : List Int), leastF out (l ++ [v]) = if (leastF out l).2 ≠ 0 then ([], (leastF out l).2) else if (eachV min (leastF out l).1 v).2 ≠ 0 then ([], (eachV min (leastF out l).1 v).2) else ((eachV min (leastF out l).1 v).1, 0)
  | [], out, v => by by_cases h : (eachV min out v).2 = 0 <;> simp [leastF, h]
  | w :: l, out, v => by
    simp only [List.cons_append, leastF]
    by_cases h : (eachV min out w).2 = 0
    · simp [h]; simpa using leastF_app l (eachV min out w).1 v
    · simp [h]
theorem firstE_app {v : List Int} (hv : vecE v = 0) : ∀ l : List (List Int), firstE (l ++ [v]) = firstE l
  | [] => by simp [firstE, hv]
  | w :: l => by simp only [List.cons_append, firstE, firstE_app hv l]
theorem leastF_err : ∀ (l : List (List Int)) (out : List Int), (leastF out l).2 = 0 ∨ (leastF out l).1 = []
  | [], out => .inl rfl
  | w :: l, out => by
    simp only [leastF]; split
    · exact .inr rfl
    · exact leastF_err l _
theorem leastV_err (l : List (List Int)) : (leastV l).2 = 0 ∨ (leastV l).1 = [] := by
  unfold leastV; split
  · exact .inr rfl
  · split
    · exact .inr rfl
    · exact leastF_err _ _
theorem leastV_one {v : List Int} (hv : vecE v = 0) : leastV [v] = (v, 0) := by
  simp [leastV, firstE, hv, leastF, gN, eachV_yes hv hv rfl, zip_self]
theorem leastV_app {v : List Int} (hv : vecE v = 0) (l : List (List Int)) (h : (leastV l).2 = 0) (h2 : (leastV (l ++ [v])).2 = 0) : leB (leastV (l ++ [v])).1 (leastV l).1 = true ∧ leB (leastV (l ++ [v])).1 v = true := by
  have hl : l ≠ [] := by intro e; subst e; simp [leastV] at h
  have hf : firstE l = 0 := by
    by_cases h3 : firstE l = 0
    · exact h3
    · simp [leastV, hl, h3] at h
  have e1 : leastV l = leastF (gN l 0) l := by simp [leastV, hl, hf]
  have e2 : leastV (l ++ [v]) = leastF (gN l 0) (l ++ [v]) := by
    have : gN (l ++ [v]) 0 = gN l 0 := by obtain ⟨x, m, rfl⟩ := List.exists_cons_of_ne_nil hl; rfl
    simp [leastV, firstE_app hv, hf, this]
  rw [e1] at h ⊢
  rw [e2, leastF_app] at h2 ⊢
  simp [h] at h2 ⊢
  by_cases h3 : (eachV min (leastF (gN l 0) l).1 v).2 = 0
  · simp [h3]
    obtain ⟨k1, k2, k3, k4⟩ := eachV_zero h3
    rw [k4]
    exact ⟨leB_left k3, leB_right k3⟩
  · simp [h3] at h2
theorem leastV_two {v : List Int} (hv : vecE v = 0) : leastV [v, List.replicate v.length 0] = (List.replicate v.length 0, 0) := by
  obtain ⟨h1, h2, h3⟩ := vecE_range v hv
  have hz : vecE (List.replicate v.length 0) = 0 := by
    rw [vecE, if_pos (by simp; omega), if_pos]
    intro n hn; rw [List.eq_of_mem_replicate hn]; omega
  have e : List.zipWith min v (List.replicate v.length 0) = List.replicate v.length 0 := by
    refine List.ext_getElem (by simp) fun i h4 h5 => ?_
    simp
    have h6 : i < v.length := by simpa using h5
    have := h3 v[i] (List.getElem_mem _)
    omega
  simp [leastV, firstE, hv, hz, leastF, gN, eachV_yes hv hv rfl, zip_self, eachV_yes hv hz (by simp), e]

end Go.Proofs.Ytcoecplkcajhgaa.D
end
section
set_option linter.unusedVariables false
set_option linter.unusedSimpArgs false
set_option maxRecDepth 100000
set_option linter.constructorNameAsVariable false

/- Merging and the least, plainly. No condition. -/
namespace Go.Proofs.Ytcoecplkcajhgaa.D
open Go Go.Proofs

theorem vecE_mk {v : List Int} (h1 : 1 ≤ v.length) (h2 : v.length ≤ 5) (h3 : ∀ i, i < v.length → 0 ≤ gN v i ∧ gN v i ≤ 1073741824) : vecE v = 0 := by
  rw [vecE, if_pos ⟨h1, h2⟩, if_pos]
  intro n hn
  obtain ⟨i, hi, rfl⟩ := List.getElem_of_mem hn
  rw [← gN_eq hi]; exact h3 i hi
theorem vecE_at {v : List Int} (h : vecE v = 0) {i : Nat} (hi : i < v.length) : 0 ≤ gN v i ∧ gN v i ≤ 1073741824 := (vecE_range v h).2.2 _ (by rw [gN_eq hi]; exact List.getElem_mem _)
theorem vecE_zip {p : Int → Int → Int} (hp : ∀ x y, p x y = x ∨ p x y = y) {a b : List Int} (ha : vecE a = 0) (hb : vecE b = 0) (h : a.length = b.length) : vecE (List.zipWith p a b) = 0 := by
  obtain ⟨h1, h2, _⟩ := vecE_range a ha
  refine vecE_mk (by simp; omega) (by simp; omega) fun i hi => ?_
  have h3 : i < a.length := by simp at hi; omega
  rw [gN_zip h3 (by omega)]
  rcases hp (gN a i) (gN b i) with e | e <;> rw [e]
  · exact vecE_at ha h3
  · exact vecE_at hb (by omega)
theorem min_or (x y : Int) : min x y = x ∨ min x y = y := by omega
theorem max_or (x y : Int) : max x y = x ∨ max x y = y := by omega
theorem merge_yes {a b : List Int} (ha : vecE a = 0) (hb : vecE b = 0) (h : a.length = b.length) : mergeV a b = (List.zipWith max a b, 0) := eachV_yes ha hb h
theorem least3 {a b c : List Int} (ha : vecE a = 0) (hb : vecE b = 0) (hc : vecE c = 0) (h : a.length = b.length) (k : b.length = c.length) : leastV [a, b, c] = (List.zipWith min (List.zipWith min a b) c, 0) := by
  have e2 : eachV min a b = (List.zipWith min a b, 0) := eachV_yes ha hb h
  have e3 : eachV min (List.zipWith min a b) c = (List.zipWith min (List.zipWith min a b) c, 0) := eachV_yes (vecE_zip min_or ha hb h) hc (by simp; omega)
  simp [leastV, firstE, ha, hb, hc, leastF, gN, eachV_yes ha ha rfl, zip_self, e2, e3]
theorem zip_comm {p : Int → Int → Int} (hp : ∀ x y, p x y = p y x) (a b : List Int) : List.zipWith p a b = List.zipWith p b a := by
  refine List.ext_getElem (by simp; omega) fun i h1 h2 => ?_
  simp; exact hp _ _
theorem leB_iff {a b : List Int} : leB a b = true ↔ a.length = b.length ∧ ∀ i, i < a.length → gN a i ≤ gN b i := by
  simp [leB, allB]
theorem list_iff {a b : List Int} : a = b ↔ a.length = b.length ∧ ∀ i, i < a.length → gN a i = gN b i := by
  constructor
  · rintro rfl; exact ⟨rfl, fun _ _ => rfl⟩
  · rintro ⟨h1, h2⟩
    refine List.ext_getElem h1 fun i h3 h4 => ?_
    rw [← gN_eq h3, ← gN_eq h4]; exact h2 i h3
end Go.Proofs.Ytcoecplkcajhgaa.D
end
section
set_option linter.unusedVariables false
set_option linter.unusedSimpArgs false
set_option maxRecDepth 100000
set_option linter.constructorNameAsVariable false

/- DotLattice. No condition. -/
namespace Go.Proofs.Ytcoecplkcajhgaa.D
open Go Go.Proofs

theorem dec10 : decide ((1 : Int) = 0) = false := (rfl)
def gDt (d : Dt) : Prop := gInt .i64 d.p ∧ gInt .i64 d.n
end Go.Proofs.Ytcoecplkcajhgaa.D
end
section
set_option linter.unusedVariables false
set_option linter.unusedSimpArgs false
set_option maxRecDepth 100000
set_option linter.constructorNameAsVariable false

/- What functions of raddlekeep and mat answer. No condition. -/
namespace Go.Proofs.Ytcoecplkcajhgaa.D
open Go Go.Proofs

attribute [go_sem] List.set_cons_zero List.set_cons_succ
theorem set_gN {α : Type} [Inhabited α] {l : List α} {i : Nat} (h : i < l.length) : l.set i (gN l i) = l := by rw [gN_eq h]; simp
/-- A pointer, as a call sees it. -/
def resP (ob : OB) (n o : Nat) : Option (List V) → V
  | some r => .bp ((r.drop o).map (resV ob n))
  | none => .u
@[go_sem] theorem resP_s (ob : OB) (n o : Nat) (r : List V) : resP ob n o (some r) = .bp ((r.drop o).map (resV ob n)) := (rfl)
@[go_sem] theorem res_pt (ob : OB) (n id i o : Nat) : resV ob (n + 1) (.pt id i o) = resP ob n o ((ob id).bind fun x => x.l[i]?) := by
  simp only [resV]; cases (ob id).bind fun x => x.l[i]? <;> rfl
theorem Own.mono {n n' : Nat} {ob : OB} {v : V} {k : Nat} {rows : List (List V)} (h : Own n ob v k rows) (hn : n ≤ n') : Own n' ob v k rows := by
  rcases h with h | ⟨h1, id, cap, h2, h3, h4⟩
  · exact .inl h
  · exact .inr ⟨h1, id, cap, by omega, h3, h4⟩

/-- Whether a matrix may be. -/
def matE (m : List (List Int)) : Int := if 1 ≤ m.length ∧ m.length ≤ 5 ∧ ∀ v ∈ m, v.length = m.length then (if ∀ v ∈ m, vecE v = 0 then 0 else 1) else 2

/-- A matrix of noughts. -/
def newM (n : Nat) : List (List Int) := List.replicate n (List.replicate n 0)
def newV (n : Int) : List (List Int) × Int := if 1 ≤ n ∧ n ≤ 5 then (newM n.toNat, 0) else ([], 1)
def vecB (v : List Int) (n : Int) : Bool := decide ((v.length : Int) = n) && decide (vecE v = 0)
/-- What a matrix becomes. -/
def learnOk (m : List (List Int)) (have_ : List Int) (p : Int) (safe : List Int) : Bool := vecB have_ m.length && vecB safe m.length && (decide (0 ≤ p) && decide (p < m.length))
def learnV (m : List (List Int)) (have_ : List Int) (p : Int) (safe : List Int) : List (List Int) × Bool × Int :=
  if matE m ≠ 0 then ([], false, matE m) else if learnOk m have_ p safe = false then ([], false, 1)
  else if gN have_ p.toNat < gN safe p.toNat then (m, false, 0) else (m.set p.toNat (List.zipWith max (gN m p.toNat) safe), true, 0)
theorem matE_at {m : List (List Int)} (h : matE m = 0) : (1 ≤ m.length ∧ m.length ≤ 5) ∧ ∀ v ∈ m, v.length = m.length ∧ vecE v = 0 := by
  unfold matE at h
  split at h
  · rename_i h1; split at h
    · rename_i h2; exact ⟨⟨h1.1, h1.2.1⟩, fun v hv => ⟨h1.2.2 v hv, h2 v hv⟩⟩
    · cases h
  · cases h
theorem learn_n (m : List (List Int)) (have_ : List Int) (p : Int) (safe : List Int) : (((if vecB have_ m.length = true then !vecB safe m.length else true) || decide (p < 0)) || decide ((m.length : Int) ≤ p)) = !learnOk m have_ p safe := by
  have e1 : decide (p < 0) = !decide (0 ≤ p) := by rw [Bool.eq_iff_iff]; simp
  have e2 : decide ((m.length : Int) ≤ p) = !decide (p < m.length) := by rw [Bool.eq_iff_iff]; simp
  rw [learnOk, e1, e2]
  cases vecB have_ m.length <;> cases vecB safe m.length <;> cases decide (0 ≤ p) <;> cases decide (p < m.length) <;> rfl
theorem vecB_t {v : List Int} {n : Int} (h : vecB v n = true) : (v.length : Int) = n ∧ vecE v = 0 := by simpa [vecB] using h
theorem learn_y {m : List (List Int)} {have_ : List Int} {p : Int} {safe : List Int} (h : learnOk m have_ p safe = true) : (have_.length = m.length ∧ vecE have_ = 0) ∧ (safe.length = m.length ∧ vecE safe = 0) ∧ (0 ≤ p ∧ p < m.length) := by
  simp only [learnOk, Bool.and_eq_true, decide_eq_true_iff] at h
  obtain ⟨⟨h1, h2⟩, h3⟩ := h
  have h1 := vecB_t h1; have h2 := vecB_t h2
  exact ⟨⟨by omega, h1.2⟩, ⟨by omega, h2.2⟩, h3⟩
def frontV (m : List (List Int)) : List Int × Int := if matE m ≠ 0 then ([], matE m) else leastV m
end Go.Proofs.Ytcoecplkcajhgaa.D
end
section
set_option linter.unusedVariables false
set_option linter.unusedSimpArgs false
set_option maxRecDepth 100000
set_option linter.constructorNameAsVariable false

/- MatLater. No condition. -/
namespace Go.Proofs.Ytcoecplkcajhgaa.D
open Go Go.Proofs

theorem w1 : newV 2 = ([[0, 0], [0, 0]], 0) := by decide
theorem w2 : learnV [[0, 0], [0, 0]] [3, 2] 1 [1, 2] = ([[0, 0], [1, 2]], true, 0) := by decide
theorem w3 : frontV [[0, 0], [1, 2]] = ([0, 0], 0) := by decide
@[go_sem] theorem ia_1 (ob : OB) (f : Fl) (r : List V) (x : V) (l : List (List V)) : iaV ob 1 (.im f (r :: [x] :: l)) 1 = some (.bp [x]) := by simp [iaV]; omega
/-- What is over, of a whole number read without sign. -/
theorem u64_range (n : Int) : 0 ≤ IntKind.u64.wrap n ∧ IntKind.u64.wrap n < 18446744073709551616 := by
  unfold IntKind.wrap IntKind.signed IntKind.bits; simp; omega
theorem u64 {n : Int} (h : 0 ≤ n ∧ n < 18446744073709551616) : IntKind.u64.wrap n = n := by
  unfold IntKind.wrap IntKind.signed IntKind.bits; simp; omega
theorem modU (n : Int) {k : Int} (h : 0 < k ∧ k < 9223372036854775808) : ∃ x : Nat, IntKind.i64.wrap ((IntKind.u64.wrap n).tmod k) = x ∧ (x : Int) < k := by
  have h1 := u64_range n
  have h2 : (IntKind.u64.wrap n).tmod k = (IntKind.u64.wrap n) % k := Int.tmod_eq_emod_of_nonneg h1.1
  have h3 := Int.emod_nonneg (IntKind.u64.wrap n) (Int.ne_of_gt h.1)
  have h4 := Int.emod_lt_of_pos (IntKind.u64.wrap n) h.1
  refine ⟨(IntKind.u64.wrap n % k).toNat, ?_, by omega⟩
  rw [h2, w64 (by omega)]; omega

theorem vecE_rep {n : Nat} (h : 1 ≤ n ∧ n ≤ 5) : vecE (List.replicate n 0) = 0 :=
  vecE_mk (by simp; omega) (by simp; omega) fun i hi => by rw [gN_eq hi]; simp
theorem vecE_set {v : List Int} (h : vecE v = 0) (p : Nat) {x : Int} (hx : 0 ≤ x ∧ x ≤ 1073741824) : vecE (v.set p x) = 0 := by
  have h1 := vecE_range v h
  refine vecE_mk (by simp; omega) (by simp; omega) fun i hi => ?_
  rw [gN_eq hi, List.getElem_set]
  split
  · exact hx
  · exact h1.2.2 _ (List.getElem_mem _)
theorem matE_new {n : Nat} (h : 1 ≤ n ∧ n ≤ 5) : matE (newM n) = 0 := by
  rw [matE, if_pos, if_pos]
  · intro v hv; rw [List.eq_of_mem_replicate hv]; exact vecE_rep h
  · refine ⟨by simp [newM]; omega, by simp [newM]; omega, fun v hv => ?_⟩
    rw [List.eq_of_mem_replicate hv]; simp [newM]
theorem learnOk_y {m : List (List Int)} {h_ : List Int} {p : Nat} {safe : List Int} (h1 : h_.length = m.length) (h2 : vecE h_ = 0) (h3 : safe.length = m.length) (h4 : vecE safe = 0) (h5 : p < m.length) : learnOk m h_ (p : Int) safe = true := by
  simp [learnOk, vecB, h1, h2, h3, h4]; omega
theorem learn_no {m : List (List Int)} {h_ : List Int} {p : Nat} {safe : List Int} (h : matE m = 0) (h1 : h_.length = m.length) (h2 : vecE h_ = 0) (h3 : safe.length = m.length) (h4 : vecE safe = 0) (h5 : p < m.length) (h6 : gN h_ p < gN safe p) : learnV m h_ (p : Int) safe = (m, false, 0) := by
  rw [learnV, if_neg (by simpa using h), if_neg (by rw [learnOk_y h1 h2 h3 h4 h5]; simp), Int.toNat_natCast, if_pos h6]
theorem learn_yes {m : List (List Int)} {h_ : List Int} {p : Nat} {safe : List Int} (h : matE m = 0) (h1 : h_.length = m.length) (h2 : vecE h_ = 0) (h3 : safe.length = m.length) (h4 : vecE safe = 0) (h5 : p < m.length) (h6 : gN safe p ≤ gN h_ p) : learnV m h_ (p : Int) safe = (m.set p (List.zipWith max (gN m p) safe), true, 0) := by
  rw [learnV, if_neg (by simpa using h), if_neg (by rw [learnOk_y h1 h2 h3 h4 h5]; simp), Int.toNat_natCast, if_neg (by omega)]
theorem gN_set {α : Type} [Inhabited α] {l : List α} {i : Nat} (h : i < l.length) (x : α) : gN (l.set i x) i = x := by rw [gN_eq (by simpa using h)]; simp
theorem zip_rep {n : Nat} {v : List Int} (h : v.length = n) (h0 : ∀ x ∈ v, 0 ≤ x) : List.zipWith max (List.replicate n 0) v = v := by
  refine List.ext_getElem (by simp [h]) fun i h1 h2 => ?_
  have := h0 v[i] (List.getElem_mem _)
  simp; omega

end Go.Proofs.Ytcoecplkcajhgaa.D
end
section
set_option linter.unusedVariables false
set_option linter.unusedSimpArgs false
set_option maxRecDepth 100000
set_option linter.constructorNameAsVariable false

/- MatAll. No condition. -/
namespace Go.Proofs.Ytcoecplkcajhgaa.D
open Go Go.Proofs

/-- Appending to a slice of one's own, in a region of any order. -/
theorem nxD_app {P : Program} {nid : Nat} {env : Env} {ob : OB} {K : Env → OB → Prop} {l : List RO} {dl : Ups} {d : Option Nat} {n k : Nat} {v x : V} {rows xs : List (List V)} (h : Own n ob v k rows) (hn : n ≤ nid) (hx : rowsOf ob x = some xs) (hk : xs.all (okRow k) = true) (hlen : rows.length + xs.length ≤ maxLen)
    (hK : ∀ v' ob', Own (nid + 1) ob' v' k (rows ++ xs) → (∀ id, id < n → v ≠ .sl id 0 rows.length → ob' id = ob id) → wpD P l (nid + 1) (put env d v') ob' dl K) : nxD P true d l nid env ob dl K (opF (.app k) [v, x] ob nid) := by
  obtain ⟨v', us, e, h1, h2⟩ := app_own h hn hx hk hlen
  rw [e]
  exact hK _ _ h1 h2

theorem take_zip {a b : List Int} {p : Int → Int → Int} {i : Nat} (h : i < a.length) (h' : i < b.length) : (List.zipWith p a b).take (i + 1) = (List.zipWith p a b).take i ++ [p (gN a i) (gN b i)] := by
  rw [List.take_add_one, gN_eq h, gN_eq h']; congr 1
  rw [List.getElem?_eq_getElem (by simp; omega)]; simp

/-- The least of right vectors of one length. -/
theorem leastF_yes {n : Nat} : ∀ (l : List (List Int)) (out : List Int), vecE out = 0 → out.length = n → (∀ v ∈ l, vecE v = 0 ∧ v.length = n) →
    ∃ L, leastF out l = (L, 0) ∧ vecE L = 0 ∧ L.length = n ∧ ∀ k, k < n → (gN L k ≤ gN out k ∧ ∀ v ∈ l, gN L k ≤ gN v k) ∧ (gN L k = gN out k ∨ ∃ v ∈ l, gN L k = gN v k)
  | [], out, h1, h2, _ => ⟨out, rfl, h1, h2, fun k hk => ⟨⟨Int.le_refl _, fun v hv => (by simp at hv)⟩, .inl rfl⟩⟩
  | v :: l, out, h1, h2, h3 => by
    have hv := h3 v (by simp)
    have e : eachV min out v = (List.zipWith min out v, 0) := eachV_yes h1 hv.1 (by omega)
    obtain ⟨L, a1, a2, a3, a4⟩ := leastF_yes l (List.zipWith min out v) (vecE_zip min_or h1 hv.1 (by omega)) (by simp; omega) (fun w hw => h3 w (by simp [hw]))
    refine ⟨L, by rw [leastF, e]; simpa using a1, a2, a3, fun k hk => ?_⟩
    obtain ⟨⟨b1, b2⟩, b3⟩ := a4 k hk
    rw [gN_zip (by omega) (by omega)] at b1 b3
    refine ⟨⟨by omega, fun w hw => ?_⟩, ?_⟩
    · rcases List.mem_cons.1 hw with rfl | hw
      · omega
      · exact b2 w hw
    · rcases b3 with b3 | ⟨w, hw, b3⟩
      · rcases min_or (gN out k) (gN v k) with e | e
        · exact .inl (by omega)
        · exact .inr ⟨v, by simp, by omega⟩
      · exact .inr ⟨w, by simp [hw], b3⟩
theorem least_yes {n : Nat} {l : List (List Int)} (h0 : l ≠ []) (h : ∀ v ∈ l, vecE v = 0 ∧ v.length = n) :
    ∃ L, leastV l = (L, 0) ∧ vecE L = 0 ∧ L.length = n ∧ ∀ k, k < n → (∀ v ∈ l, gN L k ≤ gN v k) ∧ ∃ v ∈ l, gN L k = gN v k := by
  have hpos : 0 < l.length := List.length_pos_iff.2 h0
  have hm : gN l 0 ∈ l := by rw [gN_eq hpos]; exact List.getElem_mem _
  obtain ⟨L, a1, a2, a3, a4⟩ := leastF_yes (n := n) l (gN l 0) (h _ hm).1 (h _ hm).2 h
  refine ⟨L, by rw [leastV, if_neg h0, if_neg (by rw [firstE_no fun v hv => (h v hv).1]; simp), a1], a2, a3, fun k hk => ?_⟩
  obtain ⟨⟨b1, b2⟩, b3⟩ := a4 k hk
  refine ⟨b2, ?_⟩
  rcases b3 with b3 | b3
  · exact ⟨_, hm, b3⟩
  · exact b3
theorem list_iff' {α : Type} [Inhabited α] {a b : List α} : a = b ↔ a.length = b.length ∧ ∀ i, i < a.length → gN a i = gN b i :=
  ⟨fun h => by subst h; exact ⟨rfl, fun _ _ => rfl⟩, fun ⟨h1, h2⟩ => List.ext_getElem h1 fun i h3 h4 => by have := h2 i h3; rw [gN_eq h3, gN_eq h4] at this; exact this⟩
theorem matE_mk {m : List (List Int)} (h1 : 1 ≤ m.length ∧ m.length ≤ 5) (h : ∀ i, i < m.length → (gN m i).length = m.length ∧ vecE (gN m i) = 0) : matE m = 0 := by
  have h' : ∀ v ∈ m, v.length = m.length ∧ vecE v = 0 := fun v hv => by
    obtain ⟨i, hi, rfl⟩ := List.getElem_of_mem hv
    have := h i hi; rw [gN_eq hi] at this; exact this
  rw [matE, if_pos ⟨h1.1, h1.2, fun v hv => (h' v hv).1⟩, if_pos fun v hv => (h' v hv).2]
theorem gN_set2 {α : Type} [Inhabited α] {l : List α} {i j : Nat} (h : j ≠ i) (x : α) : gN (l.set i x) j = gN l j := by simp [gN, List.getElem?_set, Ne.symm h]
theorem gN_mem {α : Type} [Inhabited α] {l : List α} {i : Nat} (h : i < l.length) : gN l i ∈ l := by rw [gN_eq h]; exact List.getElem_mem _
theorem gN_rep {α : Type} [Inhabited α] {n i : Nat} {x : α} (h : i < n) : gN (List.replicate n x) i = x := by rw [gN_eq (by simpa using h)]; simp

end Go.Proofs.Ytcoecplkcajhgaa.D
end
section
set_option linter.unusedVariables false
set_option linter.unusedSimpArgs false
set_option maxRecDepth 100000
set_option linter.constructorNameAsVariable false

/- What the reference's functions answer: twins, matrices, vectors. No condition. -/
namespace Go.Proofs.Ytcoecplkcajhgaa.D
open Go Go.Proofs

theorem take_gN {α : Type} [Inhabited α] {l : List α} {i : Nat} (h : i < l.length) : l.take (i + 1) = l.take i ++ [gN l i] := by
  rw [List.take_add_one, gN_at h]; simp
/-- The least, of the reference. -/
theorem leastF_bad {n : Nat} : ∀ (l : List (List Int)) (out : List Int), vecE out = 0 → out.length = n → (∀ v ∈ l, vecE v = 0) → (∃ v ∈ l, v.length ≠ n) → leastF out l = ([], 2)
  | [], out, _, _, _, h => by obtain ⟨v, hv, _⟩ := h; simp at hv
  | v :: l, out, h1, h2, h3, h4 => by
    have hv := h3 v (by simp)
    by_cases e : v.length = n
    · have e : eachV min out v = (List.zipWith min out v, 0) := eachV_yes h1 hv (by omega)
      rw [leastF, e]
      simp only [ne_eq, not_true_eq_false, if_false]
      refine leastF_bad (n := n) l _ (vecE_zip min_or h1 hv (by omega)) (by simp; omega) (fun w hw => h3 w (by simp [hw])) ?_
      obtain ⟨w, hw, hn⟩ := h4
      rcases List.mem_cons.1 hw with rfl | hw
      · exact absurd ‹_› hn
      · exact ⟨w, hw, hn⟩
    · have e : eachV min out v = ([], 2) := by rw [eachV, if_neg (by simpa using h1), if_neg (by simpa using hv), if_pos (by omega)]
      rw [leastF, e]; simp

theorem RNext_ok {fl : Fl} (v : List Int) (d : Dt) (hl : v.length ≤ maxLen) (hn : inI d.n) (hv : ∀ n ∈ v, inI n) : FnB Try.prog 16 [ints fl v, .ag (dotV d)] (vb (nextB v d)) := by
  unfold maxLen at hl
  refine fnB_intro cf16 (by simp) ?_
  simp (config := {contextual := true, maxSteps := 1000000}) only [go_sem, ints, intRows, iv_c, Nat.reduceAdd, Nat.reduceBEq, Nat.reduceEqDiff, Nat.reduceLeDiff, Nat.reduceLT, reduceIte, Nat.le_refl, true_or, or_true, and_self, Int.reduceLE, Int.reduceLT, Int.reduceEq, Int.reduceNeg, Int.natCast_nonneg, Int.reduceToNat, c16, dotV]
  first | refine caS_i (refIn_ok _ _ _) trivial ?_ | refine caD_i (refIn_ok _ _ _) trivial ?_ | refine gC_i (fun _ => refIn_ok _ _ _) trivial ?_ | refine gCD_i (fun _ => refIn_ok _ _ _) trivial ?_
  simp (config := {contextual := true, maxSteps := 1000000}) only [go_sem, ints, intRows, iv_c, Nat.reduceAdd, Nat.reduceBEq, Nat.reduceEqDiff, Nat.reduceLeDiff, Nat.reduceLT, reduceIte, Nat.le_refl, true_or, or_true, and_self, Int.reduceLE, Int.reduceLT, Int.reduceEq, Int.reduceNeg, Int.natCast_nonneg, Int.reduceToNat, dotV]
  have e0 : decide (0 ≤ d.p ∧ d.p ≤ IntKind.i64.wrap ((v.length : Int) - 1)) = decide (0 ≤ d.p ∧ d.p < v.length) := by
    by_cases h0 : v.length = 0
    · rw [h0]
      have e : IntKind.i64.wrap (((0 : Nat) : Int) - 1) = -1 := by decide
      rw [e, decide_eq_decide]; omega
    · rw [w64 (by omega), decide_eq_decide]; omega
  rw [e0]
  simp only [nextB]
  by_cases h1 : 0 ≤ d.p ∧ d.p < v.length
  · have h2 := hv (gN v d.p.toNat) (gN_mem (by omega))
    generalize gN v d.p.toNat = z at *
    unfold inI at *
    refine ⟨fun _ => h1, fun _ => h1, ?_⟩
    by_cases h3 : z < d.n
    · rw [w64 (by omega)]
      simp only [← Bool.decide_and, V.c.injEq, Value.bool.injEq, decide_eq_decide]; omega
    · have e1 : decide (z < d.n) = false := by simpa using h3
      have e2 : decide (0 ≤ d.p ∧ d.p < v.length ∧ d.n = z + 1) = false := by rw [decide_eq_false_iff_not]; omega
      rw [e1, e2]; simp
  · have e1 : decide (0 ≤ d.p ∧ d.p < (v.length : Int)) = false := by rw [decide_eq_false_iff_not]; exact h1
    have e2 : decide (0 ≤ d.p ∧ d.p < v.length ∧ d.n = gN v d.p.toNat + 1) = false := by rw [decide_eq_false_iff_not]; omega
    rw [e1, e2]; simp
theorem RLe_ok {fl fm : Fl} (a b : List Int) (ha : a.length ≤ maxLen) : FnB Try.prog 17 [ints fl a, ints fm b] (vb (leB a b)) := by
  unfold maxLen at ha
  refine fnB_intro cf17 (by simp) ?_
  simp (config := {contextual := true, maxSteps := 1000000}) only [go_sem, ints, intRows, iv_c, Nat.reduceAdd, Nat.reduceBEq, Nat.reduceEqDiff, Nat.reduceLeDiff, Nat.reduceLT, reduceIte, Nat.le_refl, true_or, or_true, and_self, Int.reduceLE, Int.reduceLT, Int.reduceEq, Int.reduceNeg, Int.natCast_nonneg, Int.reduceToNat, c17]
  refine ⟨?_, ?_⟩
  · intro h; simp at h
    have : leB a b = false := by rw [← Bool.not_eq_true, leB_iff]; rintro ⟨h1, _⟩; omega
    rw [this]
  · intro h; simp at h
    refine wpC_lp (fun env ob n => env 0 = ints fl a ∧ env 1 = ints fm b ∧ ∃ i : Nat, env 5 = vi i ∧ i ≤ a.length ∧ ∀ j, j < i → gN a j ≤ gN b j) (fun env ob n => (a.length - iv (env 5)).toNat) ?_ ?_
    · simp (config := {contextual := true, maxSteps := 1000000}) only [go_sem, ints, intRows, iv_c, Nat.reduceAdd, Nat.reduceBEq, Nat.reduceEqDiff, Nat.reduceLeDiff, Nat.reduceLT, reduceIte, Nat.le_refl, true_or, or_true, and_self, Int.reduceLE, Int.reduceLT, Int.reduceEq, Int.reduceNeg, Int.natCast_nonneg, Int.reduceToNat]
      exact ⟨0, rfl, by omega, by omega⟩
    · rintro env ob n ⟨h0, h1, i, h5, hi, he⟩
      simp (config := {contextual := true, maxSteps := 1000000}) only [go_sem, ints, intRows, iv_c, Nat.reduceAdd, Nat.reduceBEq, Nat.reduceEqDiff, Nat.reduceLeDiff, Nat.reduceLT, reduceIte, Nat.le_refl, true_or, or_true, and_self, Int.reduceLE, Int.reduceLT, Int.reduceEq, Int.reduceNeg, Int.natCast_nonneg, Int.reduceToNat, h0, h1, h5]
      refine ⟨fun hlt => ?_, fun hge => ?_⟩
      · simp at hlt
        refine ⟨by omega, by omega, fun hb => ?_, fun hg => ⟨⟨i + 1, ?_, by omega, fun j hj => ?_⟩, ?_⟩⟩
        · simp at hb
          have : leB a b = false := by rw [← Bool.not_eq_true, leB_iff]; rintro ⟨_, h2⟩; have := h2 i hlt; omega
          rw [this]
        · rw [w64 (by omega)]; simp
        · simp at hg
          by_cases hji : j = i
          · subst hji; omega
          · exact he j (by omega)
        · rw [w64 (by omega)]; omega
      · simp at hge
        have : leB a b = true := leB_iff.2 ⟨by omega, fun j hj => he j (by omega)⟩
        rw [this]
end Go.Proofs.Ytcoecplkcajhgaa.D
end
section
set_option linter.unusedVariables false
set_option linter.unusedSimpArgs false
set_option maxRecDepth 100000
set_option linter.constructorNameAsVariable false

/- MatRises. No condition. -/
namespace Go.Proofs.Ytcoecplkcajhgaa.D
open Go Go.Proofs

/-- What learning does. -/
theorem learn_all {m : List (List Int)} {h_ : List Int} {p : Nat} {safe : List Int} (h : matE m = 0) (h1 : h_.length = m.length) (h2 : vecE h_ = 0) (h3 : safe.length = m.length) (h4 : vecE safe = 0) (h5 : p < m.length) :
    ∃ x ok, learnV m h_ (p : Int) safe = (x, ok, 0) ∧ learnV x h_ (p : Int) safe = (x, ok, 0) ∧ ok = decide (gN safe p ≤ gN h_ p) ∧ x.length = m.length ∧ matE x = 0 ∧ (∀ k, k < m.length → leB (gN m k) (gN x k) = true) ∧ (∀ k, k < m.length → k ≠ p → gN m k = gN x k) ∧ (ok = true → leB safe (gN x p) = true) := by
  have hm := matE_at h
  have hr : ∀ k, k < m.length → (gN m k).length = m.length ∧ vecE (gN m k) = 0 := fun k hk => hm.2 _ (gN_mem hk)
  by_cases h6 : gN safe p ≤ gN h_ p
  · have hp := hr p h5
    have hz : ∀ k, k < m.length → gN (List.zipWith max (gN m p) safe) k = max (gN (gN m p) k) (gN safe k) := fun k hk => gN_zip (by omega) (by omega)
    have hzl : (List.zipWith max (gN m p) safe).length = m.length := by simp; omega
    have hE : matE (m.set p (List.zipWith max (gN m p) safe)) = 0 := by
      refine matE_mk (by simpa using hm.1) fun i hi => ?_
      simp at hi
      by_cases hip : i = p
      · subst hip; rw [gN_set hi]; exact ⟨by simpa using hzl, vecE_zip max_or hp.2 h4 (by omega)⟩
      · rw [gN_set2 hip]; simpa using hr i hi
    refine ⟨m.set p (List.zipWith max (gN m p) safe), true, learn_yes h h1 h2 h3 h4 h5 h6, ?_, by simp [h6], by simp, hE, fun k hk => ?_, fun k hk hkp => by rw [gN_set2 hkp], fun _ => ?_⟩
    · rw [learn_yes hE (by simpa using h1) h2 (by simpa using h3) h4 (by simpa using h5) h6, gN_set h5, List.set_set]
      have : List.zipWith max (List.zipWith max (gN m p) safe) safe = List.zipWith max (gN m p) safe := list_iff'.2 ⟨by simp <;> omega, fun k hk => by
        simp at hk; rw [gN_zip (by simp; omega) (by omega), gN_zip (by omega) (by omega)]; omega⟩
      rw [this]
    · by_cases hkp : k = p
      · subst hkp; rw [gN_set h5]; exact leB_iff.2 ⟨by omega, fun i hi => by rw [hz i (by omega)]; omega⟩
      · rw [gN_set2 hkp]; exact leB_iff.2 ⟨rfl, fun _ _ => Int.le_refl _⟩
    · rw [gN_set h5]; exact leB_iff.2 ⟨by omega, fun i hi => by rw [hz i (by omega)]; omega⟩
  · have e := learn_no h h1 h2 h3 h4 h5 (by omega)
    exact ⟨m, false, e, e, by simp; omega, rfl, h, fun k hk => leB_iff.2 ⟨rfl, fun _ _ => Int.le_refl _⟩, fun _ _ _ => rfl, fun h => by cases h⟩

theorem front_yes {m : List (List Int)} (h : matE m = 0) : ∃ L, frontV m = (L, 0) ∧ vecE L = 0 ∧ L.length = m.length ∧ ∀ k, k < m.length → (∀ j, j < m.length → gN L k ≤ gN (gN m j) k) ∧ ∃ j, j < m.length ∧ gN L k = gN (gN m j) k := by
  have hm := matE_at h
  obtain ⟨L, a1, a2, a3, a4⟩ := least_yes (n := m.length) (l := m) (by intro e; rw [e] at hm; simp at hm) fun v hv => ⟨(hm.2 v hv).2, (hm.2 v hv).1⟩
  refine ⟨L, by rw [frontV, if_neg (by simpa using h), a1], a2, a3, fun k hk => ?_⟩
  obtain ⟨b1, v, hv, b2⟩ := a4 k hk
  refine ⟨fun j hj => b1 _ (gN_mem hj), ?_⟩
  obtain ⟨j, hj, rfl⟩ := List.getElem_of_mem hv
  exact ⟨j, hj, by rw [b2, gN_eq hj]⟩

end Go.Proofs.Ytcoecplkcajhgaa.D
end
section
set_option linter.unusedVariables false
set_option linter.unusedSimpArgs false
set_option maxRecDepth 100000
set_option linter.constructorNameAsVariable false

/- MatExact. No condition. -/
namespace Go.Proofs.Ytcoecplkcajhgaa.D
open Go Go.Proofs

theorem heavy_no {l : List (List Int)} (h : heavyB l = false) : l.length ≤ 30 ∧ ∀ v ∈ l, v.length ≤ 30 := by
  simp only [heavyB, decide_eq_false_iff_not] at h
  refine ⟨by omega, fun v hv => ?_⟩
  rcases Nat.lt_or_ge 30 v.length with h2 | h2
  · exact absurd (.inr ⟨v, hv, h2⟩) h
  · exact h2

end Go.Proofs.Ytcoecplkcajhgaa.D
end
section
set_option linter.unusedVariables false
set_option linter.unusedSimpArgs false
set_option maxRecDepth 100000
set_option linter.constructorNameAsVariable false

/- Comparing dots; spoiling; DotExact. No condition. -/
namespace Go.Proofs.Ytcoecplkcajhgaa.D
open Go Go.Proofs

def cmpI (x y : Int) : Int := if x < y then -1 else if y < x then 1 else 0
def orV : List Int → Int
  | [] => 0
  | x :: l => if x ≠ 0 then x else orV l
def cmpD (a b : Dt) : Int := orV [cmpI a.p b.p, cmpI a.n b.n]
def lessD (a b : Dt) : Bool := decide (a.p < b.p ∨ a.p = b.p ∧ a.n < b.n)
theorem cmpD_less (a b : Dt) : decide (cmpD a b < 0) = lessD a b := by
  unfold cmpD lessD orV orV orV cmpI
  rw [decide_eq_decide]
  repeat' split
  all_goals first | omega | simp_all | skip
theorem leastF_len : ∀ (l : List (List Int)) (out : List Int), vecE out = 0 → (leastF out l).1.length ≤ 5
  | [], out, h => by have := vecE_range _ h; simpa [leastF] using this.2.1
  | v :: l, out, h => by
    rw [leastF]
    split
    · simp
    · rename_i h1
      have h1 : (eachV min out v).2 = 0 := by simpa using h1
      have h2 := (@eachV_len min out v).1 h1
      refine leastF_len l _ ?_
      have h3 : vecE v = 0 ∧ out.length = v.length := by
        unfold eachV at h1
        split at h1
        · exact absurd h ‹_›
        · split at h1
          · exact absurd h1 ‹_›
          · rename_i h4; split at h1
            · cases h1
            · rename_i h5; exact ⟨by simpa using h4, by omega⟩
      rw [eachV_yes h h3.1 h3.2]
      exact vecE_zip min_or h h3.1 h3.2
theorem least_len (l : List (List Int)) : (leastV l).1.length ≤ 5 := by
  unfold leastV
  split
  · simp
  · split
    · simp
    · rename_i h1 h2
      refine leastF_len l _ ?_
      cases l with
      | nil => exact absurd rfl h1
      | cons v l =>
        have h2 : firstE (v :: l) = 0 := by simpa using h2
        simp only [firstE] at h2
        simp only [gN, List.getElem?_cons_zero, Option.getD_some]
        split at h2
        · exact h2
        · rename_i h3; simpa using h3
theorem gi {n : Int} (h : gInt .i64 n) : inI n := by simp [gInt, Lit.wf, IntKind.min, IntKind.max, IntKind.signed, IntKind.bits] at h; unfold inI; omega

end Go.Proofs.Ytcoecplkcajhgaa.D
end
section
set_option linter.unusedVariables false
set_option linter.unusedSimpArgs false
set_option maxRecDepth 100000
set_option linter.constructorNameAsVariable false

/- Operations as plain values; what functions of slices answer to them. No condition. -/
namespace Go.Proofs.Ytcoecplkcajhgaa.D
open Go Go.Proofs

structure Vl where
  k : Int
  i : Int
  s : ByteArray
instance : Inhabited Vl := ⟨⟨0, 0, ⟨#[]⟩⟩⟩
def vlV (v : Vl) : List V := [vi v.k, vi v.i, .c (.string v.s)]
structure St3 where
  p : Int
  l : Int
  q : Int
instance : Inhabited St3 := ⟨⟨0, 0, 0⟩⟩
structure Opx where
  dot : Dt
  deps : List Int
  st : St3
  kind : Int
  table : Int
  key : ByteArray
  col : Int
  vals : List Vl
  dots : List Dt
instance : Inhabited Opx := ⟨⟨default, [], default, 0, 0, ⟨#[]⟩, 0, [], []⟩⟩
def vals (f : Fl) (l : List Vl) : V := .im f (l.map vlV)
def dots (f : Fl) (l : List Dt) : V := .im f (l.map dotV)
def opV (x : Opx) : List V := [vi x.dot.p, vi x.dot.n, ints .b x.deps, vi x.st.p, vi x.st.l, vi x.st.q, vi x.kind, vi x.table, .c (.string x.key), vi x.col, vals .b x.vals, dots .b x.dots]
def ops (f : Fl) (l : List Opx) : V := .im f (l.map opV)

@[go_sem] theorem opV_d1 (x : Opx) : (opV x).drop 1 = [vi x.dot.n, ints .b x.deps, vi x.st.p, vi x.st.l, vi x.st.q, vi x.kind, vi x.table, .c (.string x.key), vi x.col, vals .b x.vals, dots .b x.dots] := (rfl)
@[go_sem] theorem opV_d2 (x : Opx) : (opV x).drop 2 = [ints .b x.deps, vi x.st.p, vi x.st.l, vi x.st.q, vi x.kind, vi x.table, .c (.string x.key), vi x.col, vals .b x.vals, dots .b x.dots] := (rfl)
@[go_sem] theorem opV_d3 (x : Opx) : (opV x).drop 3 = [vi x.st.p, vi x.st.l, vi x.st.q, vi x.kind, vi x.table, .c (.string x.key), vi x.col, vals .b x.vals, dots .b x.dots] := (rfl)
@[go_sem] theorem opV_d4 (x : Opx) : (opV x).drop 4 = [vi x.st.l, vi x.st.q, vi x.kind, vi x.table, .c (.string x.key), vi x.col, vals .b x.vals, dots .b x.dots] := (rfl)
@[go_sem] theorem opV_d5 (x : Opx) : (opV x).drop 5 = [vi x.st.q, vi x.kind, vi x.table, .c (.string x.key), vi x.col, vals .b x.vals, dots .b x.dots] := (rfl)
@[go_sem] theorem opV_d6 (x : Opx) : (opV x).drop 6 = [vi x.kind, vi x.table, .c (.string x.key), vi x.col, vals .b x.vals, dots .b x.dots] := (rfl)
@[go_sem] theorem opV_d7 (x : Opx) : (opV x).drop 7 = [vi x.table, .c (.string x.key), vi x.col, vals .b x.vals, dots .b x.dots] := (rfl)
@[go_sem] theorem opV_d8 (x : Opx) : (opV x).drop 8 = [.c (.string x.key), vi x.col, vals .b x.vals, dots .b x.dots] := (rfl)
@[go_sem] theorem opV_d9 (x : Opx) : (opV x).drop 9 = [vi x.col, vals .b x.vals, dots .b x.dots] := (rfl)
@[go_sem] theorem opV_d10 (x : Opx) : (opV x).drop 10 = [vals .b x.vals, dots .b x.dots] := (rfl)
@[go_sem] theorem opV_d11 (x : Opx) : (opV x).drop 11 = [dots .b x.dots] := (rfl)
@[go_sem] theorem opV_t1 (x : Opx) : (opV x).take 1 = [vi x.dot.p] := (rfl)
@[go_sem] theorem opV_t2 (x : Opx) : (opV x).take 2 = [vi x.dot.p, vi x.dot.n] := (rfl)
@[go_sem] theorem opV_t3 (x : Opx) : (opV x).take 3 = [vi x.dot.p, vi x.dot.n, ints .b x.deps] := (rfl)
@[go_sem] theorem opV_t4 (x : Opx) : (opV x).take 4 = [vi x.dot.p, vi x.dot.n, ints .b x.deps, vi x.st.p] := (rfl)
@[go_sem] theorem opV_t5 (x : Opx) : (opV x).take 5 = [vi x.dot.p, vi x.dot.n, ints .b x.deps, vi x.st.p, vi x.st.l] := (rfl)
@[go_sem] theorem opV_t6 (x : Opx) : (opV x).take 6 = [vi x.dot.p, vi x.dot.n, ints .b x.deps, vi x.st.p, vi x.st.l, vi x.st.q] := (rfl)
@[go_sem] theorem opV_t7 (x : Opx) : (opV x).take 7 = [vi x.dot.p, vi x.dot.n, ints .b x.deps, vi x.st.p, vi x.st.l, vi x.st.q, vi x.kind] := (rfl)
@[go_sem] theorem opV_t8 (x : Opx) : (opV x).take 8 = [vi x.dot.p, vi x.dot.n, ints .b x.deps, vi x.st.p, vi x.st.l, vi x.st.q, vi x.kind, vi x.table] := (rfl)
@[go_sem] theorem opV_t9 (x : Opx) : (opV x).take 9 = [vi x.dot.p, vi x.dot.n, ints .b x.deps, vi x.st.p, vi x.st.l, vi x.st.q, vi x.kind, vi x.table, .c (.string x.key)] := (rfl)
@[go_sem] theorem opV_t10 (x : Opx) : (opV x).take 10 = [vi x.dot.p, vi x.dot.n, ints .b x.deps, vi x.st.p, vi x.st.l, vi x.st.q, vi x.kind, vi x.table, .c (.string x.key), vi x.col] := (rfl)
@[go_sem] theorem opV_t11 (x : Opx) : (opV x).take 11 = [vi x.dot.p, vi x.dot.n, ints .b x.deps, vi x.st.p, vi x.st.l, vi x.st.q, vi x.kind, vi x.table, .c (.string x.key), vi x.col, vals .b x.vals] := (rfl)
@[go_sem] theorem opV_t12 (x : Opx) : (opV x).take 12 = opV x := (rfl)
@[go_sem] theorem opV_d12 (x : Opx) : (opV x).drop 12 = [] := (rfl)
@[go_sem] theorem opV_len (x : Opx) : (opV x).length = 12 := (rfl)
@[go_sem] theorem opV_leaf (x : Opx) : (opV x).all leaf = true := (rfl)
@[go_sem] theorem opV_row (x : Opx) : okRow 12 (opV x) = true := (rfl)
@[go_sem] theorem vlV_row (x : Vl) : okRow 3 (vlV x) = true := (rfl)
@[go_sem] theorem dotV_row (x : Dt) : okRow 2 (dotV x) = true := (rfl)
@[go_sem] theorem res_vl (ob : OB) (n : Nat) (x : Vl) : (vlV x).map (resV ob (n + 1)) = vlV x := (rfl)
@[go_sem] theorem res_dt (ob : OB) (n : Nat) (x : Dt) : (dotV x).map (resV ob (n + 1)) = dotV x := (rfl)
@[go_sem] theorem g_vl (ob : OB) (n : Nat) (x : Vl) : (vlV x).map (gV ob (n + 1)) = vlV x := (rfl)
@[go_sem] theorem g_dt (ob : OB) (n : Nat) (x : Dt) : (dotV x).map (gV ob (n + 1)) = dotV x := (rfl)
@[go_sem] theorem g_op (ob : OB) (n : Nat) (x : Opx) : (opV x).map (gV ob (n + 3)) = opV x := by
  simp [opV, gV, ints, vals, dots, vlV, dotV, Function.comp_def]
@[go_sem] theorem res_op (ob : OB) (n : Nat) (x : Opx) : (opV x).map (resV ob (n + 3)) = opV x := by
  simp [opV, resV, ints, vals, dots, resFl, vlV, dotV, Function.comp_def]

theorem allVals (l : List Vl) : (l.map vlV).all (okRow 3) = true := all_map _ _ (fun _ => rfl) l
theorem allDots (l : List Dt) : (l.map dotV).all (okRow 2) = true := all_map _ _ (fun _ => rfl) l
theorem allOps (l : List Opx) : (l.map opV).all (okRow 12) = true := all_map _ _ (fun _ => rfl) l
theorem gVals (ob' : OB) (l : List Vl) : ∀ r ∈ l.map vlV, r.map (gV ob' 6) = r := g_map _ (fun _ _ => rfl) ob' l
theorem gDots (ob' : OB) (l : List Dt) : ∀ r ∈ l.map dotV, r.map (gV ob' 6) = r := g_map _ (fun _ _ => rfl) ob' l
theorem gOps (ob' : OB) (l : List Opx) : ∀ r ∈ l.map opV, r.map (gV ob' 6) = r := g_map _ (fun ob' a => g_op ob' 3 a) ob' l

/-- Copied. -/
theorem CloneVals_ok (v : List Vl) (hv : v.length ≤ maxLen) (f : Fl) : FnB Try.prog 40 [vals f v] (vals .o v) := by
  refine fnB_intro cf40 (by simp) ?_
  by_cases h : v = []
  · subst h
    simp (config := {contextual := true, maxSteps := 1000000}) only [go_sem, ints, intRows, iv_c, Nat.reduceAdd, Nat.reduceBEq, Nat.reduceEqDiff, Nat.reduceLeDiff, Nat.reduceLT, reduceIte, Nat.le_refl, true_or, or_true, and_self, Int.reduceLE, Int.reduceLT, Int.reduceEq, Int.reduceNeg, Int.natCast_nonneg, Int.reduceToNat, c40, vals, List.map_nil]
    refine nxS_app Own.nil (Nat.zero_le _) rfl rfl (by simp [maxLen]) fun v' ob' ho _ => ?_
    simp (config := {contextual := true, maxSteps := 1000000}) only [go_sem, ints, intRows, iv_c, Nat.reduceAdd, Nat.reduceBEq, Nat.reduceEqDiff, Nat.reduceLeDiff, Nat.reduceLT, reduceIte, Nat.le_refl, true_or, or_true, and_self, Int.reduceLE, Int.reduceLT, Int.reduceEq, Int.reduceNeg, Int.natCast_nonneg, Int.reduceToNat]
    rw [out_own ho (fun ob' => by simp) [] (fun _ => rfl)]; rfl
  · simp (config := {contextual := true, maxSteps := 1000000}) only [go_sem, ints, intRows, iv_c, Nat.reduceAdd, Nat.reduceBEq, Nat.reduceEqDiff, Nat.reduceLeDiff, Nat.reduceLT, reduceIte, Nat.le_refl, true_or, or_true, and_self, Int.reduceLE, Int.reduceLT, Int.reduceEq, Int.reduceNeg, Int.natCast_nonneg, Int.reduceToNat, c40, vals, h]
    refine nxS_app Own.nil (Nat.zero_le _) rfl (allVals v) (by simpa using hv) fun v' ob' ho _ => ?_
    simp (config := {contextual := true, maxSteps := 1000000}) only [go_sem, ints, intRows, iv_c, Nat.reduceAdd, Nat.reduceBEq, Nat.reduceEqDiff, Nat.reduceLeDiff, Nat.reduceLT, reduceIte, Nat.le_refl, true_or, or_true, and_self, Int.reduceLE, Int.reduceLT, Int.reduceEq, Int.reduceNeg, Int.natCast_nonneg, Int.reduceToNat]
    rw [List.nil_append] at ho
    rw [out_own ho (fun ob' => gVals ob' v) [] (fun _ => rfl)]; rfl
theorem CloneDots_ok (v : List Dt) (hv : v.length ≤ maxLen) (f : Fl) : FnB Try.prog 41 [dots f v] (dots .o v) := by
  refine fnB_intro cf41 (by simp) ?_
  by_cases h : v = []
  · subst h
    simp (config := {contextual := true, maxSteps := 1000000}) only [go_sem, ints, intRows, iv_c, Nat.reduceAdd, Nat.reduceBEq, Nat.reduceEqDiff, Nat.reduceLeDiff, Nat.reduceLT, reduceIte, Nat.le_refl, true_or, or_true, and_self, Int.reduceLE, Int.reduceLT, Int.reduceEq, Int.reduceNeg, Int.natCast_nonneg, Int.reduceToNat, c41, dots, List.map_nil]
    refine nxS_app Own.nil (Nat.zero_le _) rfl rfl (by simp [maxLen]) fun v' ob' ho _ => ?_
    simp (config := {contextual := true, maxSteps := 1000000}) only [go_sem, ints, intRows, iv_c, Nat.reduceAdd, Nat.reduceBEq, Nat.reduceEqDiff, Nat.reduceLeDiff, Nat.reduceLT, reduceIte, Nat.le_refl, true_or, or_true, and_self, Int.reduceLE, Int.reduceLT, Int.reduceEq, Int.reduceNeg, Int.natCast_nonneg, Int.reduceToNat]
    rw [out_own ho (fun ob' => by simp) [] (fun _ => rfl)]; rfl
  · simp (config := {contextual := true, maxSteps := 1000000}) only [go_sem, ints, intRows, iv_c, Nat.reduceAdd, Nat.reduceBEq, Nat.reduceEqDiff, Nat.reduceLeDiff, Nat.reduceLT, reduceIte, Nat.le_refl, true_or, or_true, and_self, Int.reduceLE, Int.reduceLT, Int.reduceEq, Int.reduceNeg, Int.natCast_nonneg, Int.reduceToNat, c41, dots, h]
    refine nxS_app Own.nil (Nat.zero_le _) rfl (allDots v) (by simpa using hv) fun v' ob' ho _ => ?_
    simp (config := {contextual := true, maxSteps := 1000000}) only [go_sem, ints, intRows, iv_c, Nat.reduceAdd, Nat.reduceBEq, Nat.reduceEqDiff, Nat.reduceLeDiff, Nat.reduceLT, reduceIte, Nat.le_refl, true_or, or_true, and_self, Int.reduceLE, Int.reduceLT, Int.reduceEq, Int.reduceNeg, Int.natCast_nonneg, Int.reduceToNat]
    rw [List.nil_append] at ho
    rw [out_own ho (fun ob' => gDots ob' v) [] (fun _ => rfl)]; rfl
theorem CloneOps_ok (v : List Opx) (hv : v.length ≤ maxLen) (f : Fl) : FnB Try.prog 33 [ops f v] (ops .o v) := by
  refine fnB_intro cf33 (by simp) ?_
  by_cases h : v = []
  · subst h
    simp (config := {contextual := true, maxSteps := 1000000}) only [go_sem, ints, intRows, iv_c, Nat.reduceAdd, Nat.reduceBEq, Nat.reduceEqDiff, Nat.reduceLeDiff, Nat.reduceLT, reduceIte, Nat.le_refl, true_or, or_true, and_self, Int.reduceLE, Int.reduceLT, Int.reduceEq, Int.reduceNeg, Int.natCast_nonneg, Int.reduceToNat, c33, ops, List.map_nil]
    refine nxS_app Own.nil (Nat.zero_le _) rfl rfl (by simp [maxLen]) fun v' ob' ho _ => ?_
    simp (config := {contextual := true, maxSteps := 1000000}) only [go_sem, ints, intRows, iv_c, Nat.reduceAdd, Nat.reduceBEq, Nat.reduceEqDiff, Nat.reduceLeDiff, Nat.reduceLT, reduceIte, Nat.le_refl, true_or, or_true, and_self, Int.reduceLE, Int.reduceLT, Int.reduceEq, Int.reduceNeg, Int.natCast_nonneg, Int.reduceToNat]
    rw [out_own ho (fun ob' => by simp) [] (fun _ => rfl)]; rfl
  · simp (config := {contextual := true, maxSteps := 1000000}) only [go_sem, ints, intRows, iv_c, Nat.reduceAdd, Nat.reduceBEq, Nat.reduceEqDiff, Nat.reduceLeDiff, Nat.reduceLT, reduceIte, Nat.le_refl, true_or, or_true, and_self, Int.reduceLE, Int.reduceLT, Int.reduceEq, Int.reduceNeg, Int.natCast_nonneg, Int.reduceToNat, c33, ops, h]
    refine nxS_app Own.nil (Nat.zero_le _) rfl (allOps v) (by simpa using hv) fun v' ob' ho _ => ?_
    simp (config := {contextual := true, maxSteps := 1000000}) only [go_sem, ints, intRows, iv_c, Nat.reduceAdd, Nat.reduceBEq, Nat.reduceEqDiff, Nat.reduceLeDiff, Nat.reduceLT, reduceIte, Nat.le_refl, true_or, or_true, and_self, Int.reduceLE, Int.reduceLT, Int.reduceEq, Int.reduceNeg, Int.natCast_nonneg, Int.reduceToNat]
    rw [List.nil_append] at ho
    rw [out_own ho (fun ob' => gOps ob' v) [] (fun _ => rfl)]; rfl

theorem IndexOps_ok {fl : Fl} (l : List Opx) (f : Nat) (caps : List V) (p : Opx → Bool) (hl : l.length ≤ maxLen) (hc : ∀ ob, caps.map (resV ob 6) = caps) (hp : ∀ x ∈ l, FnB Try.prog f (.ag (opV x) :: caps) (vb (p x))) :
    FnB Try.prog 28 [ops fl l, .fn f caps] (vi (idxI p l)) := by
  unfold maxLen at hl
  refine fnB_intro cf28 (by simp) ?_
  simp (config := {contextual := true, maxSteps := 1000000}) only [go_sem, ints, intRows, iv_c, Nat.reduceAdd, Nat.reduceBEq, Nat.reduceEqDiff, Nat.reduceLeDiff, Nat.reduceLT, reduceIte, Nat.le_refl, true_or, or_true, and_self, Int.reduceLE, Int.reduceLT, Int.reduceEq, Int.reduceNeg, Int.natCast_nonneg, Int.reduceToNat, c28, ops]
  refine wpC_lp (fun env ob n => env 0 = ops fl l ∧ env 1 = .fn f caps ∧ env 7 = vi l.length ∧ ∃ i : Nat, env 8 = vi i ∧ i ≤ l.length ∧ ∀ n ∈ l.take i, p n = false) (fun env ob n => (l.length - iv (env 8)).toNat) ?_ ?_
  · simp (config := {contextual := true, maxSteps := 1000000}) only [go_sem, ints, intRows, iv_c, Nat.reduceAdd, Nat.reduceBEq, Nat.reduceEqDiff, Nat.reduceLeDiff, Nat.reduceLT, reduceIte, Nat.le_refl, true_or, or_true, and_self, Int.reduceLE, Int.reduceLT, Int.reduceEq, Int.reduceNeg, Int.natCast_nonneg, Int.reduceToNat, ops]
    simp
    exact ⟨0, by simp⟩
  · rintro env ob n ⟨h0, h1, h7, i, h8, hi, he⟩
    simp (config := {contextual := true, maxSteps := 1000000}) only [go_sem, ints, intRows, iv_c, Nat.reduceAdd, Nat.reduceBEq, Nat.reduceEqDiff, Nat.reduceLeDiff, Nat.reduceLT, reduceIte, Nat.le_refl, true_or, or_true, and_self, Int.reduceLE, Int.reduceLT, Int.reduceEq, Int.reduceNeg, Int.natCast_nonneg, Int.reduceToNat, h0, h1, h7, h8, List.map_append, List.map_cons, hc, ops]
    refine ⟨fun hlt => ?_, fun hge => ?_⟩
    · simp at hlt
      have hpi := hp (gN l i) (by rw [gN_eq hlt]; exact List.getElem_mem _)
      repeat (refine And.intro (by omega) ?_)
      first | refine caS_i (hpi) trivial ?_ | refine caD_i (hpi) trivial ?_ | refine gC_i (fun _ => hpi) trivial ?_ | refine gCD_i (fun _ => hpi) trivial ?_
      simp (config := {contextual := true, maxSteps := 1000000}) only [go_sem, ints, intRows, iv_c, Nat.reduceAdd, Nat.reduceBEq, Nat.reduceEqDiff, Nat.reduceLeDiff, Nat.reduceLT, reduceIte, Nat.le_refl, true_or, or_true, and_self, Int.reduceLE, Int.reduceLT, Int.reduceEq, Int.reduceNeg, Int.natCast_nonneg, Int.reduceToNat, h0, h1, h7, h8, ops]
      refine ⟨fun hb => ?_, fun hg => ⟨⟨i + 1, ?_, by omega, (take_succ_iff hlt).2 ⟨he, hg⟩⟩, ?_⟩⟩
      · rw [idxI_at hlt he hb]
      · rw [w64 (by omega)]; simp
      · rw [w64 (by omega)]; omega
    · simp at hge
      rw [List.take_of_length_le (by omega)] at he
      rw [idxI_no he]
theorem ContainsOps_ok {fl : Fl} (l : List Opx) (f : Nat) (caps : List V) (p : Opx → Bool) (hl : l.length ≤ maxLen) (hc : ∀ ob, caps.map (resV ob 6) = caps) (hc' : ∀ ob, caps.map (resV ob 5) = caps) (hp : ∀ x ∈ l, FnB Try.prog f (.ag (opV x) :: caps) (vb (p x))) :
    FnB Try.prog 20 [ops fl l, .fn f caps] (vb (l.any p)) := by
  refine fnB_intro cf20 (by simp) ?_
  simp (config := {contextual := true, maxSteps := 1000000}) only [go_sem, ints, intRows, iv_c, Nat.reduceAdd, Nat.reduceBEq, Nat.reduceEqDiff, Nat.reduceLeDiff, Nat.reduceLT, reduceIte, Nat.le_refl, true_or, or_true, and_self, Int.reduceLE, Int.reduceLT, Int.reduceEq, Int.reduceNeg, Int.natCast_nonneg, Int.reduceToNat, c20, hc', ops]
  first | refine caS_i (IndexOps_ok l f caps p hl hc hp) trivial ?_ | refine caD_i (IndexOps_ok l f caps p hl hc hp) trivial ?_ | refine gC_i (fun _ => IndexOps_ok l f caps p hl hc hp) trivial ?_ | refine gCD_i (fun _ => IndexOps_ok l f caps p hl hc hp) trivial ?_
  simp (config := {contextual := true, maxSteps := 1000000}) only [go_sem, ints, intRows, iv_c, Nat.reduceAdd, Nat.reduceBEq, Nat.reduceEqDiff, Nat.reduceLeDiff, Nat.reduceLT, reduceIte, Nat.le_refl, true_or, or_true, and_self, Int.reduceLE, Int.reduceLT, Int.reduceEq, Int.reduceNeg, Int.natCast_nonneg, Int.reduceToNat, idxI_ge]
end Go.Proofs.Ytcoecplkcajhgaa.D
end
section
set_option linter.unusedVariables false
set_option linter.unusedSimpArgs false
set_option maxRecDepth 100000
set_option linter.constructorNameAsVariable false

/- Deleting from a slice of one's own, inserting into it, twins of operations. No condition. -/
namespace Go.Proofs.Ytcoecplkcajhgaa.D
open Go Go.Proofs

theorem Twin1_ok (x : Opx) (h1 : x.deps.length ≤ maxLen) (h2 : x.vals.length ≤ maxLen) (h3 : x.dots.length ≤ maxLen) : FnB Try.prog 24 [.ag (opV x)] (.ag (opV x)) := by
  refine fnB_intro cf24 (by simp) ?_
  simp (config := {contextual := true, maxSteps := 1000000}) only [go_sem, ints, intRows, iv_c, Nat.reduceAdd, Nat.reduceBEq, Nat.reduceEqDiff, Nat.reduceLeDiff, Nat.reduceLT, reduceIte, Nat.le_refl, true_or, or_true, and_self, Int.reduceLE, Int.reduceLT, Int.reduceEq, Int.reduceNeg, Int.natCast_nonneg, Int.reduceToNat, c24, vals, dots]
  first | refine caS_i (CloneInts_ok x.deps h1 .b) trivial ?_ | refine caD_i (CloneInts_ok x.deps h1 .b) trivial ?_ | refine gC_i (fun _ => CloneInts_ok x.deps h1 .b) trivial ?_ | refine gCD_i (fun _ => CloneInts_ok x.deps h1 .b) trivial ?_
  simp (config := {contextual := true, maxSteps := 1000000}) only [go_sem, ints, intRows, iv_c, Nat.reduceAdd, Nat.reduceBEq, Nat.reduceEqDiff, Nat.reduceLeDiff, Nat.reduceLT, reduceIte, Nat.le_refl, true_or, or_true, and_self, Int.reduceLE, Int.reduceLT, Int.reduceEq, Int.reduceNeg, Int.natCast_nonneg, Int.reduceToNat, vals, dots]
  first | refine caS_i (CloneVals_ok x.vals h2 .b) trivial ?_ | refine caD_i (CloneVals_ok x.vals h2 .b) trivial ?_ | refine gC_i (fun _ => CloneVals_ok x.vals h2 .b) trivial ?_ | refine gCD_i (fun _ => CloneVals_ok x.vals h2 .b) trivial ?_
  simp (config := {contextual := true, maxSteps := 1000000}) only [go_sem, ints, intRows, iv_c, Nat.reduceAdd, Nat.reduceBEq, Nat.reduceEqDiff, Nat.reduceLeDiff, Nat.reduceLT, reduceIte, Nat.le_refl, true_or, or_true, and_self, Int.reduceLE, Int.reduceLT, Int.reduceEq, Int.reduceNeg, Int.natCast_nonneg, Int.reduceToNat, vals, dots]
  first | refine caS_i (CloneDots_ok x.dots h3 .b) trivial ?_ | refine caD_i (CloneDots_ok x.dots h3 .b) trivial ?_ | refine gC_i (fun _ => CloneDots_ok x.dots h3 .b) trivial ?_ | refine gCD_i (fun _ => CloneDots_ok x.dots h3 .b) trivial ?_
  simp (config := {contextual := true, maxSteps := 1000000}) only [go_sem, ints, intRows, iv_c, Nat.reduceAdd, Nat.reduceBEq, Nat.reduceEqDiff, Nat.reduceLeDiff, Nat.reduceLT, reduceIte, Nat.le_refl, true_or, or_true, and_self, Int.reduceLE, Int.reduceLT, Int.reduceEq, Int.reduceNeg, Int.natCast_nonneg, Int.reduceToNat, vals, dots]
  rfl

/-- A slice of one's own, empty perhaps. -/
def OwnE (n : Nat) (ob : OB) (v : V) (k : Nat) (rows : List (List V)) : Prop :=
  (rows = [] ∧ v = .z) ∨ ∃ id cap, id < n ∧ v = .sl id 0 rows.length ∧ ob id = some ⟨k, rows, cap⟩
theorem Own.e {n : Nat} {ob : OB} {v : V} {k : Nat} {rows : List (List V)} (h : Own n ob v k rows) : OwnE n ob v k rows := h.imp id fun ⟨_, i, c, h⟩ => ⟨i, c, h⟩

theorem app_in {ob : OB} {id off len k nid : Nat} {o : Ob} {x : V} {xs : List (List V)} (hob : ob id = some o) (hk : o.k = k) (hx : rowsOf ob x = some xs) (hr : xs.all (okRow k) = true) (h1 : off + len + xs.length ≤ o.l.length) (h2 : len + xs.length ≤ maxLen) :
    opF (.app k) [.sl id off len, x] ob nid = some (.sl id off (len + xs.length), [(id, some ⟨k, over o.l (off + len) xs, o.cap⟩)]) := by
  simp only [opF, hx, hr, Option.bind_some, if_true, hob]
  rw [if_pos ⟨hk, by omega, h2⟩, if_pos h1]

@[go_sem] theorem op_slc3 (x a b c : V) (ob : OB) (i : Nat) : opF .slc3 [x, a, b, c] ob i = (toInt a).bind fun a => (toInt b).bind fun b => (toInt c).bind fun c => (lenS ob x).bind fun n => if 0 ≤ a ∧ a ≤ b ∧ b ≤ c ∧ c ≤ n then some (.u, []) else none := (rfl)
@[go_sem] theorem lenS_sl (ob : OB) (id off len : Nat) : lenS ob (.sl id off len) = (ob id).map fun _ => len := (rfl)
@[go_sem] theorem lenS_z (ob : OB) : lenS ob .z = some 0 := (rfl)
@[go_sem] theorem slice_sl (ob : OB) (k id off len : Nat) (lo hi : Option Int) : sliceV ob k (.sl id off len) lo hi = (ob id).bind fun o => if o.k = k ∧ 0 ≤ lo.getD 0 ∧ lo.getD 0 ≤ hi.getD len ∧ off + hi.getD len ≤ o.l.length then some (if lo.getD 0 = 0 then .sl id off (hi.getD len).toNat else if lo.getD 0 = hi.getD len then .im .b [] else .sl id (off + (lo.getD 0).toNat) (hi.getD len - lo.getD 0).toNat) else none := by
  simp only [sliceV]
  congr 1
  funext o
  split
  · split
    · rfl
    · split <;> rfl
  · rfl

theorem DeleteOps_ok {l : List Opx} {k id nid : Nat} {cap : Option Nat} {ob : OB} {C : V → OB → Nat → Prop} (hk : k < l.length) (hl : l.length ≤ maxLen) (hob : ob id = some ⟨12, l.map opV, cap⟩) (hid : id < nid)
    (hC : ∀ ob' n', nid ≤ n' → (∀ j, j ≠ id → j < nid → ob' j = ob j) → ob' id = some ⟨12, (l.eraseIdx k).map opV, none⟩ → C (.sl id 0 (l.length - 1)) ob' n') :
    FnS Try.prog 30 [.sl id 0 l.length, vi k, vi (k + 1 : Nat)] ob nid C := by
  unfold maxLen at hl
  refine FnS_less (fnS_intro cf30 (by simp) ?_)
  have hne : decide ((k : Int) = ((k + 1 : Nat) : Int)) = false := by simp; omega
  simp (config := {contextual := true, maxSteps := 1000000}) only [go_sem, ints, intRows, iv_c, Nat.reduceAdd, Nat.reduceBEq, Nat.reduceEqDiff, Nat.reduceLeDiff, Nat.reduceLT, reduceIte, Nat.le_refl, true_or, or_true, and_self, Int.reduceLE, Int.reduceLT, Int.reduceEq, Int.reduceNeg, Int.natCast_nonneg, Int.reduceToNat, c30, hob, hne]
  have f1 : ((k : Int) = 0) = (k = 0) := by simp
  have f2 : (((k + 1 : Nat) : Int) = 0) = False := by simp; omega
  repeat (refine And.intro (by omega) ?_)
  simp (config := {contextual := true, maxSteps := 1000000}) only [go_sem, ints, intRows, iv_c, Nat.reduceAdd, Nat.reduceBEq, Nat.reduceEqDiff, Nat.reduceLeDiff, Nat.reduceLT, reduceIte, Nat.le_refl, true_or, or_true, and_self, Int.reduceLE, Int.reduceLT, Int.reduceEq, Int.reduceNeg, Int.natCast_nonneg, Int.reduceToNat, hob, f2, Int.toNat_natCast]
  repeat (refine And.intro (by omega) ?_)
  have hx : rowsOf ob (if ((k + 1 : Nat) : Int) = (l.length : Int) then V.im Fl.b [] else V.sl id (k + 1) ((l.length : Int) - ((k + 1 : Nat) : Int)).toNat) = some ((l.drop (k + 1)).map opV) := by
    split
    · rename_i h
      rw [List.drop_eq_nil_of_le (by omega)]; rfl
    · rename_i h
      simp only [rowsOf, hob, Option.bind_some]
      rw [if_pos (by simp; omega), ← List.map_drop, List.take_of_length_le (by simp; omega)]
  rw [app_in hob rfl hx (allOps _) (by simp; omega) (by simp [maxLen]; omega)]
  have he : over (l.map opV) (0 + k) ((l.drop (k + 1)).map opV) = (l.eraseIdx k).map opV ++ (l.map opV).drop (l.length - 1) := by
    unfold over
    rw [List.eraseIdx_eq_take_drop_succ, List.map_append, List.map_take, Nat.zero_add]
    congr 2
    simp; omega
  have hlen : (l.eraseIdx k).length = l.length - 1 := by rw [List.length_eraseIdx]; simp [hk]
  have hn : k + ((l.drop (k + 1)).map opV).length = l.length - 1 := by simp; omega
  rw [he, hn]
  simp (config := {contextual := true, maxSteps := 1000000}) only [go_sem, ints, intRows, iv_c, Nat.reduceAdd, Nat.reduceBEq, Nat.reduceEqDiff, Nat.reduceLeDiff, Nat.reduceLT, reduceIte, Nat.le_refl, true_or, or_true, and_self, Int.reduceLE, Int.reduceLT, Int.reduceEq, Int.reduceNeg, Int.natCast_nonneg, Int.reduceToNat, List.length_append, List.length_map, hlen]
  have hs : (if ((l.length - 1 : Nat) : Int) = 0 then V.sl id 0 l.length else if ((l.length - 1 : Nat) : Int) = l.length then V.im .b [] else V.sl id (l.length - 1) ((l.length : Int) - ((l.length - 1 : Nat) : Int)).toNat) = V.sl id (l.length - 1) 1 := by
    split
    · rename_i h
      have : l.length = 1 := by omega
      rw [this]
    · rw [if_neg (by omega)]
      congr 1; omega
  have hd : (List.drop (l.length - 1) (l.map opV)).length = 1 := by simp; omega
  rw [hs]
  simp (config := {contextual := true, maxSteps := 1000000}) only [go_sem, ints, intRows, iv_c, Nat.reduceAdd, Nat.reduceBEq, Nat.reduceEqDiff, Nat.reduceLeDiff, Nat.reduceLT, reduceIte, Nat.le_refl, true_or, or_true, and_self, Int.reduceLE, Int.reduceLT, Int.reduceEq, Int.reduceNeg, Int.natCast_nonneg, Int.reduceToNat, hd, hlen, List.length_append, List.length_map]
  repeat (refine And.intro (by omega) ?_)
  refine ⟨updO ob id (some ⟨12, (l.eraseIdx k).map opV, none⟩), fun j o ho => ?_, hC _ _ (by omega) (fun j hj hlt => by simp [updO, hj]) (updO_s _ _ _)⟩
  by_cases hj : j = id
  · subst hj
    rw [updO_s] at ho; injection ho with ho; subst ho
    refine ⟨_, updO_s _ _ _, rfl, ⟨l.length - 1, ?_⟩, fun c hc => by cases hc⟩
    simp only [over]
    rw [List.append_assoc, List.take_append_of_le_length (by simp [hlen]), List.take_of_length_le (by simp [hlen]), List.take_append_of_le_length (by simp [hlen]), List.take_of_length_le (by simp [hlen])]
  · simp only [updO, hj, if_false] at ho
    exact ⟨o, by simp [updO, hj, ho], rfl, ⟨o.l.length, by simp⟩, fun c hc => hc⟩
end Go.Proofs.Ytcoecplkcajhgaa.D
end
section
set_option linter.unusedVariables false
set_option linter.unusedSimpArgs false
set_option maxRecDepth 100000
set_option linter.constructorNameAsVariable false

/- Deleting what a function tells. No condition. -/
namespace Go.Proofs.Ytcoecplkcajhgaa.D
open Go Go.Proofs

theorem idxI_spec {α : Type} [Inhabited α] (p : α → Bool) (l : List α) : (idxI p l = -1 ∧ ∀ x ∈ l, p x = false) ∨ ∃ i : Nat, idxI p l = i ∧ i < l.length ∧ p (gN l i) = true ∧ ∀ x ∈ l.take i, p x = false := by
  by_cases h : l.any p = true
  · right
    have hlt : l.findIdx p < l.length := List.findIdx_lt_length_of_exists (by simpa using h)
    refine ⟨l.findIdx p, by rw [idxI, if_pos h], hlt, ?_, fun x hx => ?_⟩
    · rw [gN_eq hlt]; exact List.findIdx_getElem
    · obtain ⟨j, hj, rfl⟩ := List.mem_take_iff_getElem.1 hx
      have := List.not_of_lt_findIdx (p := p) (xs := l) (i := j) (by omega)
      simpa using this
  · left
    refine ⟨by rw [idxI, if_neg h], fun x hx => ?_⟩
    cases hp : p x with
    | false => rfl
    | true => exact absurd (List.any_eq_true.2 ⟨x, hx, hp⟩) h

theorem less_upd {ob' : OB} {id k : Nat} {rows rows2 : List (List V)} {cap : Option Nat} (h : ∃ m, rows2 = rows.take m) : Less (updO ob' id (some ⟨k, rows2, none⟩)) (updO ob' id (some ⟨k, rows, cap⟩)) := fun j o ho => by
  by_cases hj : j = id
  · subst hj
    rw [updO_s] at ho; injection ho with ho; subst ho
    exact ⟨_, updO_s _ _ _, rfl, h, fun c hc => by cases hc⟩
  · simp only [updO, hj, if_false] at ho
    exact ⟨o, by simp [updO, hj, ho], rfl, ⟨o.l.length, by simp⟩, fun c hc => hc⟩

set_option maxHeartbeats 1000000 in
theorem DeleteFuncOps_ok {l : List Opx} {id nid f : Nat} {cap : Option Nat} {ob : OB} {C : V → OB → Nat → Prop} {caps rc : List V} {p : Opx → Bool} (hl : l.length ≤ maxLen) (hob : ob id = some ⟨12, l.map opV, cap⟩) (hid : id < nid)
    (hrc : ∀ ob', (∀ j, j ≠ id → j < nid → ob' j = ob j) → caps.map (resV ob' 6) = rc ∧ caps.map (resV ob' 5) = rc) (hrr : ∀ ob', rc.map (resV ob' 6) = rc) (hp : ∀ x ∈ l, FnB Try.prog f (.ag (opV x) :: rc) (vb (p x)))
    (hC : ∀ ob' n', nid ≤ n' → (∀ j, j ≠ id → j < nid → ob' j = ob j) → ob' id = some ⟨12, (l.filter fun x => !p x).map opV, none⟩ → C (.sl id 0 (l.filter fun x => !p x).length) ob' n') :
    FnS Try.prog 31 [.sl id 0 l.length, .fn f caps] ob nid C := by
  have hl' := hl
  unfold maxLen at hl
  refine FnS_less (fnS_intro cf31 (by simp) ?_)
  have hc0 := hrc ob fun _ _ _ => rfl
  have hlen : (l.map opV).length = l.length := by simp
  simp (config := {contextual := true, maxSteps := 1000000}) only [go_sem, ints, intRows, iv_c, Nat.reduceAdd, Nat.reduceBEq, Nat.reduceEqDiff, Nat.reduceLeDiff, Nat.reduceLT, reduceIte, Nat.le_refl, true_or, or_true, and_self, Int.reduceLE, Int.reduceLT, Int.reduceEq, Int.reduceNeg, Int.natCast_nonneg, Int.reduceToNat, c31, hob, hc0.1, hc0.2, hlen, Nat.le_refl, Nat.zero_add]
  first | refine caS_i (IndexOps_ok (fl := .n) l f rc p hl' hrr hp) trivial ?_ | refine caD_i (IndexOps_ok (fl := .n) l f rc p hl' hrr hp) trivial ?_ | refine gC_i (fun _ => IndexOps_ok (fl := .n) l f rc p hl' hrr hp) trivial ?_ | refine gCD_i (fun _ => IndexOps_ok (fl := .n) l f rc p hl' hrr hp) trivial ?_
  rcases idxI_spec p l with ⟨e, hno⟩ | ⟨i, e, hi, hpi, hbe⟩
  · simp (config := {contextual := true, maxSteps := 1000000}) only [go_sem, ints, intRows, iv_c, Nat.reduceAdd, Nat.reduceBEq, Nat.reduceEqDiff, Nat.reduceLeDiff, Nat.reduceLT, reduceIte, Nat.le_refl, true_or, or_true, and_self, Int.reduceLE, Int.reduceLT, Int.reduceEq, Int.reduceNeg, Int.natCast_nonneg, Int.reduceToNat, e]
    have hf : (l.filter fun x => !p x) = l := List.filter_eq_self.2 fun x hx => by simp [hno x hx]
    refine ⟨updO ob id (some ⟨12, l.map opV, none⟩), fun j o ho => ?_, ?_⟩
    · by_cases hj : j = id
      · subst hj; rw [updO_s] at ho; injection ho with ho; subst ho
        exact ⟨_, hob, rfl, ⟨l.length, by rw [List.take_of_length_le (by simp)]⟩, fun c hc => by cases hc⟩
      · simp only [updO, hj, if_false] at ho; exact ⟨o, ho, rfl, ⟨o.l.length, by simp⟩, fun c hc => hc⟩
    · have := hC (updO ob id (some ⟨12, l.map opV, none⟩)) (nid + 1 + 1 + 1 + 1 + 1 + 1 + 1 + 1 + 1) (by omega) (fun j hj _ => by simp [updO, hj])
      rw [hf] at this
      exact this (updO_s _ _ _)
  have w1 : IntKind.i64.wrap ((i : Int) + 1) = ((i + 1 : Nat) : Int) := by rw [w64 (by omega)]; omega
  have hne : decide ((i : Int) = -1) = false := by simp
  simp (config := {contextual := true, maxSteps := 1000000}) only [go_sem, ints, intRows, iv_c, Nat.reduceAdd, Nat.reduceBEq, Nat.reduceEqDiff, Nat.reduceLeDiff, Nat.reduceLT, reduceIte, Nat.le_refl, true_or, or_true, and_self, Int.reduceLE, Int.reduceLT, Int.reduceEq, Int.reduceNeg, Int.natCast_nonneg, Int.reduceToNat, e, w1, hne]
  have hpi' : (!p (gN l i)) = false := by rw [hpi]; rfl
  refine wpC_lp (fun env ob' n' => env 0 = .sl id 0 l.length ∧ env 1 = .fn f caps ∧ (∀ j, j ≠ id → j < nid → ob' j = ob j) ∧ nid ≤ n' ∧ ∃ (i j : Nat) (cur : List Opx), env 5 = vi i ∧ env 6 = vi j ∧ i + 1 ≤ j ∧ j ≤ l.length ∧ ob' id = some ⟨12, cur.map opV, cap⟩ ∧ cur.length = l.length ∧ cur.take i = (l.take j).filter (fun x => !p x) ∧ cur.drop j = l.drop j) (fun env ob _ => (l.length - iv (env 6)).toNat) ?_ ?_
  · simp (config := {contextual := true, maxSteps := 1000000}) only [go_sem, ints, intRows, iv_c, Nat.reduceAdd, Nat.reduceBEq, Nat.reduceEqDiff, Nat.reduceLeDiff, Nat.reduceLT, reduceIte, Nat.le_refl, true_or, or_true, and_self, Int.reduceLE, Int.reduceLT, Int.reduceEq, Int.reduceNeg, Int.natCast_nonneg, Int.reduceToNat]
    refine ⟨by omega, i, i + 1, l, rfl, rfl, by omega, by omega, hob, rfl, ?_, rfl⟩
    rw [take_gN hi, List.filter_append, List.filter_eq_self.2 fun x hx => by simp [hbe x hx]]
    simp [hpi]
  rintro env ob' n' ⟨h0, h1, hfr, hn', i, j, cur, h5, h6, hij, hj, hob', hcl, ht, hd⟩
  simp (config := {contextual := true, maxSteps := 1000000}) only [go_sem, ints, intRows, iv_c, Nat.reduceAdd, Nat.reduceBEq, Nat.reduceEqDiff, Nat.reduceLeDiff, Nat.reduceLT, reduceIte, Nat.le_refl, true_or, or_true, and_self, Int.reduceLE, Int.reduceLT, Int.reduceEq, Int.reduceNeg, Int.natCast_nonneg, Int.reduceToNat, h0, h1, h5, h6, hob']
  refine ⟨fun hlt => ?_, fun hge => ?_⟩
  · simp at hlt
    have hcj : gN cur j = gN l j := by
      have := congrArg (fun l => l[0]?) hd
      simp at this
      simp [gN, List.getD, this]
    repeat (refine And.intro (by omega) ?_)
    simp (config := {contextual := true, maxSteps := 1000000}) only [go_sem, ints, intRows, iv_c, Nat.reduceAdd, Nat.reduceBEq, Nat.reduceEqDiff, Nat.reduceLeDiff, Nat.reduceLT, reduceIte, Nat.le_refl, true_or, or_true, and_self, Int.reduceLE, Int.reduceLT, Int.reduceEq, Int.reduceNeg, Int.natCast_nonneg, Int.reduceToNat, hcj, List.map_append]
    have hm : (id == n' + 1 + 1 + 1 + 1 + 1 + 1 + 1 + 1) = false := by simp; omega
    rw [(hrc _ fun j hj hlt => by simp only [updO]; rw [if_neg (by omega), if_neg (by omega)]; exact hfr j hj hlt).1]
    first | refine caS_i (hp _ (gN_mem hlt)) trivial ?_ | refine caD_i (hp _ (gN_mem hlt)) trivial ?_ | refine gC_i (fun _ => hp _ (gN_mem hlt)) trivial ?_ | refine gCD_i (fun _ => hp _ (gN_mem hlt)) trivial ?_
    have w2 : IntKind.i64.wrap ((i : Int) + 1) = ((i + 1 : Nat) : Int) := by rw [w64 (by omega)]; omega
    have w3 : IntKind.i64.wrap ((j : Int) + 1) = ((j + 1 : Nat) : Int) := by rw [w64 (by omega)]; omega
    simp (config := {contextual := true, maxSteps := 1000000}) only [go_sem, ints, intRows, iv_c, Nat.reduceAdd, Nat.reduceBEq, Nat.reduceEqDiff, Nat.reduceLeDiff, Nat.reduceLT, reduceIte, Nat.le_refl, true_or, or_true, and_self, Int.reduceLE, Int.reduceLT, Int.reduceEq, Int.reduceNeg, Int.natCast_nonneg, Int.reduceToNat, h0, h1, h5, h6, hob', hcj, hm, w2, w3]
    have hfr' : ∀ (m : Nat) (a b c : Option Ob), nid ≤ m → ∀ j, j ≠ id → j < nid → updO (updO (updO ob' m a) m b) id c j = ob j := fun m a b c hm j hj hlt => by
      simp only [updO]; rw [if_neg hj, if_neg (by omega), if_neg (by omega)]; exact hfr j hj hlt
    have hfr2 : ∀ (m : Nat) (a b : Option Ob), nid ≤ m → ∀ j, j ≠ id → j < nid → updO (updO ob' m a) m b j = ob j := fun m a b hm j hj hlt => by
      simp only [updO]; rw [if_neg (by omega), if_neg (by omega)]; exact hfr j hj hlt
    have hd1 : cur.drop (j + 1) = l.drop (j + 1) := by
      have := congrArg (List.drop 1) hd
      simpa [List.drop_drop] using this
    refine ⟨fun hp1 => ⟨by omega, by omega, ⟨hfr' _ _ _ _ (by omega), by omega, i + 1, j + 1, cur.set i (gN l j), rfl, rfl, by omega, by omega, rfl, by simpa using hcl, ?_, ?_⟩, by omega⟩, fun hp2 => ⟨⟨hfr2 _ _ _ (by omega), by omega, i, j + 1, cur, rfl, rfl, by omega, by omega, rfl, hcl, ?_, hd1⟩, by omega⟩⟩
    · rw [take_gN (l := cur.set i (gN l j)) (by simp; omega), take_gN hlt, List.filter_append, ← ht, List.take_set_of_le (Nat.le_refl _), gN_set (by omega)]
      simp [hp1]
    · rw [List.drop_set_of_lt (by omega)]; exact hd1
    · rw [take_gN hlt, List.filter_append, ← ht]
      simp at hp2; simp [hp2]
  · simp at hge
    have hj' : j = l.length := by omega
    subst hj'
    rw [List.take_of_length_le (Nat.le_refl _)] at ht
    have hs : (if (i : Int) = 0 then V.sl id 0 l.length else if (i : Int) = l.length then V.im .b [] else V.sl id i ((l.length : Int) - i).toNat) = V.sl id i (l.length - i) := by
      split
      · rename_i h
        have : i = 0 := by omega
        subst this; rfl
      · rw [if_neg (by omega)]
        congr 1; omega
    have hil : (l.filter fun x => !p x).length = i := by rw [← ht, List.length_take]; omega
    repeat (refine And.intro (by omega) ?_)
    rw [hs]
    simp (config := {contextual := true, maxSteps := 1000000}) only [go_sem, ints, intRows, iv_c, Nat.reduceAdd, Nat.reduceBEq, Nat.reduceEqDiff, Nat.reduceLeDiff, Nat.reduceLT, reduceIte, Nat.le_refl, true_or, or_true, and_self, Int.reduceLE, Int.reduceLT, Int.reduceEq, Int.reduceNeg, Int.natCast_nonneg, Int.reduceToNat, h0, h5, hob']
    repeat (refine And.intro (by omega) ?_)
    refine ⟨by unfold over; simp; omega, updO ob' id (some ⟨12, (cur.take i).map opV, none⟩), less_upd ⟨i, ?_⟩, ?_⟩
    · unfold over
      rw [List.append_assoc, List.take_append_of_le_length (by simp; omega), List.map_take, List.take_take, Nat.min_self]
    · have := hC (updO ob' id (some ⟨12, (cur.take i).map opV, none⟩)) (n' + 1 + 1 + 1 + 1 + 1 + 1 + 1 + 1 + 1 + 1 + 1 + 1) (by omega) (fun j hj hlt => by simp only [updO, hj, if_false]; exact hfr j hj hlt) (by rw [updO_s, ht])
      rw [hil] at this
      exact this
end Go.Proofs.Ytcoecplkcajhgaa.D
end
section
set_option linter.unusedVariables false
set_option linter.unusedSimpArgs false
set_option maxRecDepth 100000
set_option linter.constructorNameAsVariable false

/- Inserting into a slice of one's own. No condition. -/
namespace Go.Proofs.Ytcoecplkcajhgaa.D
open Go Go.Proofs

theorem OverlapsOps_ok {i j oi oj li lj nid : Nat} {x y : Ob} {ob : OB} {C : V → OB → Nat → Prop} (hi : ob i = some x) (hj : ob j = some y) (hij : i ≠ j) (hy : y.l ≠ []) (hk : y.k ≠ 0) (hC : C (vb false) ob nid) :
    FnX Try.prog 42 [.sl i oi li, .sl j oj lj] ob nid C := by
  intro B n0 w own loc xs hwf hle hfr hxs
  match xs, hxs with
  | [a, b], hxs =>
    have ha := hxs.2 0 _ a rfl rfl
    have hb := hxs.2 1 _ b rfl rfl
    obtain ⟨p, hp, hor, hcap, rfl⟩ := sl_at hwf hi ha
    obtain ⟨q, hq, hoq, hcaq, rfl⟩ := sl_at hwf hj hb
    have hne : p.b ≠ q.b := fun e => by
      have h1 := (hwf.owns i p hp).1
      have h2 := (hwf.owns j q hq).1
      rw [e, h2] at h1; injection h1 with h1; exact hij h1.symm
    obtain ⟨cs, t, hm1, hm2⟩ := hor.mem
    obtain ⟨ds, u, hn1, hn2⟩ := hoq.mem
    have hds : ds.size ≠ 0 := by
      have h1 : 0 < y.l.length := List.length_pos_iff.2 hy
      have h2 := hoq.len
      have h3 : 1 * q.k ≤ q.cap * q.k := Nat.mul_le_mul_right _ (by omega)
      have := hoq.k; omega
    refine ⟨.bool false, w, vb false, ob, nid, own, loc, ?_, .c _, hwf, .refl _ _ _, hfr, hC⟩
    rw [run_callFunc_extern (fn := Try.f42) Try.func42 (by kernel_rfl) (by kernel_rfl) (by kernel_rfl) (e := Extern.SlicesOverlaps.overlaps #[22, 22] #[4]) (by kernel_rfl)]
    rw [Lib.run_overlaps_apart w 22 4 32 Try.underlying22 12 (fun w => ?_) _ _ _ _ _ _ hne t u cs.size ds.size (by simp [World.shape?, hm1]) (by simp [World.shape?, hn1]) hds (by simp [World.frozen?, hm1]) (by simp [World.frozen?, hm1])]
    · rfl
    · rfl

theorem slv {id i m : Nat} (h : i < m) : (if (i : Int) = 0 then V.sl id 0 m else if (i : Int) = m then V.im .b [] else V.sl id i ((m : Int) - i).toNat) = V.sl id i (m - i) := by
  split
  · rename_i h0
    have : i = 0 := by omega
    subst this; rfl
  · rw [if_neg (by omega)]
    congr 1; omega
theorem slv2 {id i m M : Nat} (h : i < m) (hM : i = 0 → M = m) : (if (i : Int) = 0 then V.sl id 0 M else if (i : Int) = m then V.im .b [] else V.sl id i ((m : Int) - i).toNat) = V.sl id i (m - i) := by
  split
  · rename_i h0
    have : i = 0 := by omega
    rw [hM this, this]; rfl
  · rw [if_neg (by omega)]
    congr 1; omega
theorem Less.refl (ob : OB) : Less ob ob := fun _ o ho => ⟨o, ho, rfl, ⟨o.l.length, by simp⟩, fun _ hc => hc⟩
theorem over_mid {A B X : List (List V)} {a : Nat} (h : A.length = a) : over (A ++ B) a X = A ++ X ++ B.drop X.length := by
  subst h
  unfold over
  rw [List.take_left, List.drop_append]
  simp

@[go_sem] theorem slice_z (ob : OB) (k : Nat) (lo hi : Option Int) : sliceV ob k .z lo hi = if lo.getD 0 = 0 ∧ hi.getD 0 = 0 then some V.z else none := (rfl)

set_option maxHeartbeats 1000000 in
theorem InsertOps_ok {l : List Opx} {i idv n nid : Nat} {x : Opx} {s : V} {capv : Option Nat} {ob : OB} {C : V → OB → Nat → Prop} (hi : i ≤ l.length) (hl : l.length + 1 ≤ maxLen) (h : Own n ob s 12 (l.map opV)) (hn : n ≤ nid) (hv : ob idv = some ⟨12, [opV x], capv⟩) (hiv : idv < nid) (hsv : ∀ len, s ≠ .sl idv 0 len)
    (hC : ∀ v' ob' n', nid ≤ n' → Own n' ob' v' 12 ((l.take i ++ x :: l.drop i).map opV) → (∀ j, j < nid → (∀ len, s ≠ .sl j 0 len) → ob' j = ob j) → C v' ob' n') :
    FnS Try.prog 26 [s, vi i, .sl idv 0 1] ob nid C := by
  have hl' := hl
  unfold maxLen at hl'
  have hxr : rowsOf ob (.sl idv 0 1) = some [opV x] := by simp [rowsOf, hv]
  have hxo : [opV x].all (okRow 12) = true := by simpa using allOps [x]
  by_cases hin : i = l.length
  · -- at the end
    subst hin
    have hin' : decide ((l.length : Int) = l.length) = true := by simp
    refine fnS_intro cf26 (by simp) ?_
    have fin : ∀ v' ob' n', nid ≤ n' → Own n' ob' v' 12 (l.map opV ++ [opV x]) → (∀ j, j < nid → (∀ len, s ≠ .sl j 0 len) → ob' j = ob j) → C v' ob' n' := fun v' ob' n' h1 h2 h3 => hC v' ob' n' h1 (by rw [List.take_of_length_le (Nat.le_refl _), List.drop_eq_nil_of_le (Nat.le_refl _), List.map_append]; exact h2) h3
    rcases h with ⟨h1, rfl⟩ | ⟨h1, id, cap, hid, rfl, hob⟩
    · have hl0 : l.length = 0 := by simpa using congrArg List.length h1
      have hl0' : l = [] := List.eq_nil_of_length_eq_zero hl0
      subst hl0'
      simp (config := {contextual := true, maxSteps := 1000000}) only [go_sem, ints, intRows, iv_c, Nat.reduceAdd, Nat.reduceBEq, Nat.reduceEqDiff, Nat.reduceLeDiff, Nat.reduceLT, reduceIte, Nat.le_refl, true_or, or_true, and_self, Int.reduceLE, Int.reduceLT, Int.reduceEq, Int.reduceNeg, Int.natCast_nonneg, Int.reduceToNat, c26, List.length_nil, hv]
      refine nxS_app (n := nid) (rows := []) (xs := [opV x]) Own.nil (by omega) hxr hxo (by simp [maxLen]) fun v' ob' ho hfr => ?_
      simp (config := {contextual := true, maxSteps := 1000000}) only [go_sem, ints, intRows, iv_c, Nat.reduceAdd, Nat.reduceBEq, Nat.reduceEqDiff, Nat.reduceLeDiff, Nat.reduceLT, reduceIte, Nat.le_refl, true_or, or_true, and_self, Int.reduceLE, Int.reduceLT, Int.reduceEq, Int.reduceNeg, Int.natCast_nonneg, Int.reduceToNat]
      exact fin v' ob' _ (by omega) (ho.mono (by omega)) fun j hj hs => hfr j hj fun e => by cases e
    · have hlm : (l.map opV).length = l.length := by simp
      simp (config := {contextual := true, maxSteps := 1000000}) only [go_sem, ints, intRows, iv_c, Nat.reduceAdd, Nat.reduceBEq, Nat.reduceEqDiff, Nat.reduceLeDiff, Nat.reduceLT, reduceIte, Nat.le_refl, true_or, or_true, and_self, Int.reduceLE, Int.reduceLT, Int.reduceEq, Int.reduceNeg, Int.natCast_nonneg, Int.reduceToNat, c26, hob, hlm, hv, hin']
      repeat (refine And.intro (by omega) ?_)
      have ho0 : Own nid ob (.sl id 0 l.length) 12 (l.map opV) := .inr ⟨h1, id, cap, by omega, by rw [hlm], hob⟩
      refine nxS_app (n := nid) (rows := l.map opV) (xs := [opV x]) ho0 (by omega) hxr hxo (by simpa [maxLen] using hl') fun v' ob' ho hfr => ?_
      simp (config := {contextual := true, maxSteps := 1000000}) only [go_sem, ints, intRows, iv_c, Nat.reduceAdd, Nat.reduceBEq, Nat.reduceEqDiff, Nat.reduceLeDiff, Nat.reduceLT, reduceIte, Nat.le_refl, true_or, or_true, and_self, Int.reduceLE, Int.reduceLT, Int.reduceEq, Int.reduceNeg, Int.natCast_nonneg, Int.reduceToNat]
      exact fin v' ob' _ (by omega) (ho.mono (by omega)) fun j hj hs => hfr j hj (by simpa using hs)
  -- inside
  have hlt : i < l.length := by omega
  have hne : l ≠ [] := fun e => by rw [e] at hlt; simp at hlt
  rcases h with ⟨h1, rfl⟩ | ⟨h1, id, cap, hid, rfl, hob⟩
  · simp at h1; exact absurd h1 hne
  have hivd : idv ≠ id := fun e => hsv l.length (by rw [e, List.length_map])
  refine FnS_grow hob (fun c h1 h2 => FnS_less (fnS_intro cf26 (by simp) ?_)) (by kernel_rfl)
  have hlm : (l.map opV).length = l.length := by simp
  rw [hlm] at h1
  have hin' : decide ((i : Int) = l.length) = false := by simp; omega
  have w1 : IntKind.i64.wrap ((l.length : Int) + 1) = ((l.length + 1 : Nat) : Int) := by rw [w64 (by omega)]; omega
  have hv' : ∀ o, updO ob id o idv = some ⟨12, [opV x], capv⟩ := fun o => by rw [updO, if_neg hivd, hv]
  have hvn : ∀ (m : Nat) (a b : Option Ob), nid ≤ m → updO (updO ob id a) m b idv = some ⟨12, [opV x], capv⟩ := fun m a b hm => by rw [updO, if_neg (by omega), hv']
  have hid2 : ∀ (m : Nat) (a b c : Option Ob), nid ≤ m → updO (updO (updO ob id a) m b) m c id = a := fun m a b c hm => by rw [updO, if_neg (by omega), updO, if_neg (by omega), updO, if_pos rfl]
  have hov : ∀ z : List V, over (List.map opV (l.take i) ++ List.replicate (l.length + 1 - i) z) i [opV x] = List.map opV (l.take i) ++ [opV x] ++ List.replicate (l.length - i) z := fun z => by
    rw [over_mid (by simp; omega)]
    simp; omega
  have hll : (l.map opV ++ List.replicate (c - l.length) (List.replicate 12 V.u)).length = c := by simp; omega
  simp only [hlm]
  simp (config := {contextual := true, maxSteps := 1000000}) only [go_sem, ints, intRows, iv_c, Nat.reduceAdd, Nat.reduceBEq, Nat.reduceEqDiff, Nat.reduceLeDiff, Nat.reduceLT, reduceIte, Nat.le_refl, true_or, or_true, and_self, Int.reduceLE, Int.reduceLT, Int.reduceEq, Int.reduceNeg, Int.natCast_nonneg, Int.reduceToNat, c26, hlm, hv', hin', w1, hll]
  have w2 : IntKind.i64.wrap (((l.length + 1 : Nat) : Int) - (i : Int)) = ((l.length + 1 - i : Nat) : Int) := by rw [w64 (by omega)]; omega
  have w3 : IntKind.i64.wrap ((i : Int) + 1) = ((i + 1 : Nat) : Int) := by rw [w64 (by omega)]; omega
  refine ⟨⟨by omega, by omega⟩, fun hcl => ?_, fun hcl => ?_⟩
  · have hc : c = l.length := by simp at hcl; omega
    subst hc
    have e1 : (0 : Int) < ((l.length + 1 - i : Nat) : Int) := by omega
    have e2 : i + (l.length + 1 - i) = l.length + 1 := by omega
    have e3 : l.length < l.length + 1 := by omega
    have e4 : List.take i (l.map opV ++ List.replicate (l.length - l.length) (List.replicate 12 V.u)) = (l.take i).map opV := by simp
    rw [w2, Int.toNat_natCast, e2, e4]
    repeat (refine And.intro (by omega) ?_)
    have hz : ∀ z : List V, z.length = 12 → (List.map opV (l.take i) ++ List.replicate (l.length + 1 - i) z).length = l.length + 1 := fun z _ => by simp; omega
    rw [hz _ rfl]
    repeat (refine And.intro (by omega) ?_)
    rw [slv2 (i := i) (m := l.length + 1) (by omega)]
    · simp (config := {contextual := true, maxSteps := 1000000}) only [go_sem, ints, intRows, iv_c, Nat.reduceAdd, Nat.reduceBEq, Nat.reduceEqDiff, Nat.reduceLeDiff, Nat.reduceLT, reduceIte, Nat.le_refl, true_or, or_true, and_self, Int.reduceLE, Int.reduceLT, Int.reduceEq, Int.reduceNeg, Int.natCast_nonneg, Int.reduceToNat, hv', hlm]
      rw [hvn _ _ _ (by omega)]
      have hta : List.take (l.length + 1 - i) [opV x] = [opV x] := List.take_of_length_le (by simp; omega)
      simp (config := {contextual := true, maxSteps := 1000000}) only [go_sem, ints, intRows, iv_c, Nat.reduceAdd, Nat.reduceBEq, Nat.reduceEqDiff, Nat.reduceLeDiff, Nat.reduceLT, reduceIte, Nat.le_refl, true_or, or_true, and_self, Int.reduceLE, Int.reduceLT, Int.reduceEq, Int.reduceNeg, Int.natCast_nonneg, Int.reduceToNat, hta]
      rw [hz _ rfl, hov, w3, hid2 _ _ _ _ (by omega)]
      repeat (refine And.intro (by omega) ?_)
      have hz2 : ∀ z : List V, z.length = 12 → (List.map opV (l.take i) ++ [opV x] ++ List.replicate (l.length - i) z).length = l.length + 1 := fun z _ => by simp; omega
      have hlr : (l.map opV ++ List.replicate (l.length - l.length) (List.replicate 12 V.u)).length = l.length := by simp
      simp (config := {contextual := true, maxSteps := 1000000}) only [go_sem, ints, intRows, iv_c, Nat.reduceAdd, Nat.reduceBEq, Nat.reduceEqDiff, Nat.reduceLeDiff, Nat.reduceLT, reduceIte, Nat.le_refl, true_or, or_true, and_self, Int.reduceLE, Int.reduceLT, Int.reduceEq, Int.reduceNeg, Int.natCast_nonneg, Int.reduceToNat, hz2, hlr]
      repeat (refine And.intro (by omega) ?_)
      rw [slv2 (i := i + 1) (m := l.length + 1) (by omega) (by omega), slv2 (i := i) (m := l.length) (by omega) (fun _ => rfl)]
      simp (config := {contextual := true, maxSteps := 1000000}) only [go_sem, ints, intRows, iv_c, Nat.reduceAdd, Nat.reduceBEq, Nat.reduceEqDiff, Nat.reduceLeDiff, Nat.reduceLT, reduceIte, Nat.le_refl, true_or, or_true, and_self, Int.reduceLE, Int.reduceLT, Int.reduceEq, Int.reduceNeg, Int.natCast_nonneg, Int.reduceToNat]
      rw [hid2 _ _ _ _ (by omega)]
      simp (config := {contextual := true, maxSteps := 1000000}) only [go_sem, ints, intRows, iv_c, Nat.reduceAdd, Nat.reduceBEq, Nat.reduceEqDiff, Nat.reduceLeDiff, Nat.reduceLT, reduceIte, Nat.le_refl, true_or, or_true, and_self, Int.reduceLE, Int.reduceLT, Int.reduceEq, Int.reduceNeg, Int.natCast_nonneg, Int.reduceToNat, hlr, hz2]
      have e5 : List.take (l.length + 1 - (i + 1)) (List.take (l.length - i) (List.drop i (l.map opV ++ List.replicate (l.length - l.length) (List.replicate 12 V.u)))) = (l.drop i).map opV := by
        rw [Nat.sub_self, List.replicate_zero, List.append_nil, List.take_of_length_le (by simp), List.take_of_length_le (by simp), List.map_drop]
      have e6 : ∀ z : List V, over (List.map opV (l.take i) ++ [opV x] ++ List.replicate (l.length - i) z) (i + 1) ((l.drop i).map opV) = (l.take i ++ x :: l.drop i).map opV := fun z => by
        rw [over_mid (by simp; omega)]
        simp
      rw [e5, e6]
      refine ⟨by omega, ⟨allOps _, by omega⟩, _, .refl _, hC _ _ _ (by omega) (.inr ⟨by simp, _, none, ?_, ?_, updO_s _ _ _⟩) fun j hj hs => ?_⟩
      · omega
      · congr 1; simp; omega
      · have hji : j ≠ id := fun e => hs _ (by rw [e])
        rw [updO, if_neg (by omega), updO, if_neg (by omega), updO, if_neg (by omega), updO, if_neg hji]
    · intro h0; subst h0
      rw [Int.sub_zero, w64 (by omega)]; simp
  have hcl' : l.length + 1 ≤ c := by simp at hcl; omega
  have hrl : (l.map opV ++ List.replicate (c - l.length) (List.replicate 12 V.u)).length = c := by simp; omega
  repeat (refine And.intro (by omega) ?_)
  rw [w3, Int.toNat_natCast, slv2 (i := i + 1) (m := l.length + 1) (by omega) (by omega)]
  refine rcS_x (OverlapsOps_ok (hv' _) (updO_s _ _ _) hivd ?_ (by simp) ?_)
  · intro e
    have e : l.map opV ++ List.replicate (c - l.length) (List.replicate 12 V.u) = [] := e
    rw [e] at hrl; simp at hrl; omega
  simp (config := {contextual := true, maxSteps := 1000000}) only [go_sem, ints, intRows, iv_c, Nat.reduceAdd, Nat.reduceBEq, Nat.reduceEqDiff, Nat.reduceLeDiff, Nat.reduceLT, reduceIte, Nat.le_refl, true_or, or_true, and_self, Int.reduceLE, Int.reduceLT, Int.reduceEq, Int.reduceNeg, Int.natCast_nonneg, Int.reduceToNat, hrl]
  rw [w3, Int.toNat_natCast]
  repeat (refine And.intro (by omega) ?_)
  rw [slv2 (i := i + 1) (m := l.length + 1) (by omega) (by omega), slv2 (i := i) (m := l.length + 1) (by omega) (by omega)]
  simp (config := {contextual := true, maxSteps := 1000000}) only [go_sem, ints, intRows, iv_c, Nat.reduceAdd, Nat.reduceBEq, Nat.reduceEqDiff, Nat.reduceLeDiff, Nat.reduceLT, reduceIte, Nat.le_refl, true_or, or_true, and_self, Int.reduceLE, Int.reduceLT, Int.reduceEq, Int.reduceNeg, Int.natCast_nonneg, Int.reduceToNat, hrl]
  have e5 : List.take (l.length + 1 - (i + 1)) (List.take (l.length + 1 - i) (List.drop i (l.map opV ++ List.replicate (c - l.length) (List.replicate 12 V.u)))) = (l.drop i).map opV := by
    rw [List.take_take, Nat.min_eq_left (by omega), List.drop_append_of_le_length (by simp <;> omega), List.take_append_of_le_length (by simp <;> omega), List.take_of_length_le (by simp), List.map_drop]
  have hz6 : (l.take (i + 1)).map opV = (l.take i).map opV ++ [opV (gN l i)] := by rw [take_gN hlt]; simp
  have e6 : over (l.map opV ++ List.replicate (c - l.length) (List.replicate 12 V.u)) (i + 1) ((l.drop i).map opV) = (l.take (i + 1)).map opV ++ ((l.drop i).map opV ++ List.replicate (c - l.length - 1) (List.replicate 12 V.u)) := by
    have hnil : (l.map opV).drop (i + 1 + ((l.drop i).map opV).length) = [] := List.drop_eq_nil_of_le (by simp <;> omega)
    unfold over
    rw [List.take_append_of_le_length (by simp <;> omega), List.append_assoc, List.map_take, List.drop_append, hnil, List.drop_replicate, List.nil_append]
    congr 3
    simp <;> omega
  have e7 : over ((l.take (i + 1)).map opV ++ ((l.drop i).map opV ++ List.replicate (c - l.length - 1) (List.replicate 12 V.u))) i [opV x] = (l.take i ++ x :: l.drop i).map opV ++ List.replicate (c - l.length - 1) (List.replicate 12 V.u) := by
    rw [hz6, List.append_assoc, over_mid (by simp <;> omega)]
    simp
  have hl6 : ((l.take (i + 1)).map opV ++ ((l.drop i).map opV ++ List.replicate (c - l.length - 1) (List.replicate 12 V.u))).length = c := by simp; omega
  rw [e5, allOps, e6, hl6]
  refine ⟨by omega, ⟨rfl, by omega⟩, ⟨by omega, by omega⟩, ?_⟩
  rw [slv2 (i := i) (m := l.length + 1) (by omega) (fun _ => rfl)]
  have hta : List.take (l.length + 1 - i) [opV x] = [opV x] := List.take_of_length_le (by simp <;> omega)
  have hv3 : ∀ a b : Option Ob, updO (updO ob id a) id b idv = some ⟨12, [opV x], capv⟩ := fun a b => by rw [updO, if_neg hivd, hv']
  simp (config := {contextual := true, maxSteps := 1000000}) only [go_sem, ints, intRows, iv_c, Nat.reduceAdd, Nat.reduceBEq, Nat.reduceEqDiff, Nat.reduceLeDiff, Nat.reduceLT, reduceIte, Nat.le_refl, true_or, or_true, and_self, Int.reduceLE, Int.reduceLT, Int.reduceEq, Int.reduceNeg, Int.natCast_nonneg, Int.reduceToNat, hv3, hta, hxo, hl6, e7]
  refine ⟨by omega, _, less_upd ⟨l.length + 1, ?_⟩, hC _ _ _ (by omega) (.inr ⟨by simp, id, none, by omega, ?_, updO_s _ _ _⟩) fun j hj hs => ?_⟩
  · rw [List.take_append_of_le_length (by simp <;> omega), List.take_of_length_le (l := (l.take i ++ x :: l.drop i).map opV) (by simp <;> omega)]
  · congr 1; simp; omega
  · have hji : j ≠ id := fun e => hs _ (by rw [e])
    rw [updO, if_neg hji, updO, if_neg hji, updO, if_neg hji]
end Go.Proofs.Ytcoecplkcajhgaa.D
end
section
set_option linter.unusedVariables false
set_option linter.unusedSimpArgs false
set_option maxRecDepth 100000
set_option linter.constructorNameAsVariable false

/- What can be had: the buffer's inner functions. No condition. -/
namespace Go.Proofs.Ytcoecplkcajhgaa.D
open Go Go.Proofs

/-- What is asked of an operation. -/
structure OkO (x : Opx) : Prop where
  d : x.deps.length ≤ maxLen
  v : x.vals.length ≤ maxLen
  s : x.dots.length ≤ maxLen
  n : inI x.dot.n

theorem Own.upd {n m k : Nat} {ob : OB} {v : V} {rows : List (List V)} {x : Option Ob} (h : Own n ob v k rows) (hm : n ≤ m) : Own n (updO ob m x) v k rows := by
  rcases h with h | ⟨h1, id, cap, hid, h2, h3⟩
  · exact .inl h
  · exact .inr ⟨h1, id, cap, hid, h2, by rw [updO, if_neg (by omega), h3]⟩
theorem resE {n : Nat} {ob : OB} {s : V} {l : List Opx} (h : OwnE n ob s 12 (l.map opV)) : ∃ f, ∀ m, resV ob (m + 4) s = ops f l := by
  rcases h with ⟨h1, rfl⟩ | ⟨id, cap, hid, rfl, hob⟩
  · refine ⟨.b, fun m => ?_⟩
    rw [res_z, ops, h1]
  · refine ⟨.n, fun m => ?_⟩
    simp only [resV, rowsOf, hob, Option.bind_some, List.length_map]
    rw [if_pos (by simp), ops, List.drop_zero, List.take_of_length_le (by simp)]
    show V.im Fl.n (List.map (fun r => List.map (resV ob (m + 3)) r) (l.map opV)) = _
    rw [List.map_map]
    congr 1
    exact List.map_congr_left fun x _ => res_op _ _ x
section
variable {P : Program} {nid : Nat} {env : Env} {ob : OB} {J : Env → OB → Nat → Prop} {l : List RO} {d : Option Nat} {n k : Nat} {v x : V} {rows xs : List (List V)}
/-- What one gets to own. -/
theorem nxS_own (hK : ∀ v' ob', ((rows = [] ∧ v' = .z) ∨ (rows ≠ [] ∧ v' = .sl nid 0 rows.length ∧ ob' nid = some ⟨k, rows, none⟩)) → (∀ id, id ≠ nid → ob' id = ob id) → wpS P l (nid + 1) (put env d v') ob' J) :
    nxS P d l nid env ob J (some (imp (.own k) nid (.im .o rows))) := by
  rw [imp_oi]
  split
  · rename_i h
    have h : rows = [] := List.eq_nil_of_length_eq_zero h
    exact hK .z ob (.inl ⟨h, rfl⟩) fun _ _ => rfl
  · rename_i h
    exact hK _ _ (.inr ⟨fun e => h (by rw [e]; rfl), rfl, updO_s _ _ _⟩) fun id hid => by simp [apps, updO, hid]
/-- Appending, told with the number of what comes. -/
theorem nxS_new (h : (rows = [] ∧ v = .z) ∨ (∃ id cap, v = .sl id 0 rows.length ∧ ob id = some ⟨k, rows, cap⟩)) (h0 : xs ≠ []) (hx : rowsOf ob x = some xs) (hk : xs.all (okRow k) = true) (hlen : rows.length + xs.length ≤ maxLen)
    (hK : ∀ ob', ob' nid = some ⟨k, rows ++ xs, none⟩ → (∀ id, id ≠ nid → (∀ len, v ≠ .sl id 0 len) → ob' id = ob id) → wpS P l (nid + 1) (put env d (.sl nid 0 (rows.length + xs.length))) ob' J) : nxS P d l nid env ob J (opF (.app k) [v, x] ob nid) := by
  have hx0 : xs.length ≠ 0 := fun e => h0 (List.eq_nil_of_length_eq_zero e)
  rcases h with ⟨rfl, rfl⟩ | ⟨id, cap, rfl, hob⟩
  · have : opF (.app k) [.z, x] ob nid = some (.sl nid 0 xs.length, [(nid, some ⟨k, xs, none⟩)]) := by
      simp only [opF, hx, hk, Option.bind_some, if_true, hx0, if_false]; rw [if_pos (by simpa using hlen)]
    rw [this]
    have := hK (apps ob [(nid, some ⟨k, xs, none⟩)]) (by simp [apps, updO]) fun id hid _ => by simp [apps, updO, hid]
    rw [List.length_nil, Nat.zero_add] at this
    exact this
  · have hop : opF (.app k) [.sl id 0 rows.length, x] ob nid = some (.sl nid 0 (rows.length + xs.length), grown cap id (rows.length + xs.length) ++ [(nid, some ⟨k, rows ++ xs, none⟩)]) := by
      simp only [opF, hx, hk, Option.bind_some, if_true, hob]
      rw [if_pos ⟨trivial, by simp, by simpa using hlen⟩, if_neg (by omega), List.take_length]
    have hgr : grown cap id (rows.length + xs.length) = [] ∨ grown cap id (rows.length + xs.length) = [(id, none)] := by
      unfold grown; split
      · split
        · exact .inl rfl
        · exact .inr rfl
      · exact .inr rfl
    rw [hop]
    refine hK _ ?_ fun id' hid' hv => ?_
    · rcases hgr with h | h <;> simp [h, apps]
    · have hne' : id' ≠ id := by intro e; subst e; exact hv _ rfl
      rcases hgr with h | h <;> simp [h, apps, hne', hid']
end
/-- Literals of one element of several cells. -/
theorem bsl_row {k : Nat} {z l : List V} (ob : OB) (i : Nat) (hz : z.length = k) (h : okRow k l = true) : fill z [(0, k)] [.ag l] = some l ∧ l.take k = l := by
  simp only [okRow, Bool.and_eq_true, beq_iff_eq] at h
  obtain ⟨h1, h2⟩ := h
  refine ⟨?_, by simp [← h1]⟩
  simp only [fill, cellsV, Nat.zero_add]
  rw [if_pos ⟨h1, by simp [hz], h2⟩]
  simp [hz]
theorem op_bsl_r {k : Nat} {z l : List V} (ob : OB) (i : Nat) (hz : z.length = k) (h : okRow k l = true) : opF (.bsl k z [0] 1 true) [.ag l] ob i = some (.im .b [l], []) := by
  obtain ⟨h1, h2⟩ := bsl_row ob i hz h
  simp [opF, h1, h2, h]
theorem op_bsl_o {k : Nat} {z l : List V} (ob : OB) (i : Nat) (hz : z.length = k) (h : okRow k l = true) : opF (.bsl k z [0] 1 false) [.ag l] ob i = some (.sl i 0 1, [(i, some ⟨k, [l], none⟩)]) := by
  obtain ⟨h1, h2⟩ := bsl_row ob i hz h
  simp [opF, h1, h2, h]
@[go_sem] theorem op_bsl_op (z : List V) (x : Opx) (ob : OB) (i : Nat) (hz : (z.length == 12) = true) : opF (.bsl 12 z [0] 1 true) [.ag (opV x)] ob i = some (.im .b [opV x], []) := op_bsl_r ob i (by simpa using hz) (opV_row x)
@[go_sem] theorem op_bsl_oo (z : List V) (x : Opx) (ob : OB) (i : Nat) (hz : (z.length == 12) = true) : opF (.bsl 12 z [0] 1 false) [.ag (opV x)] ob i = some (.sl i 0 1, [(i, some ⟨12, [opV x], none⟩)]) := op_bsl_o ob i (by simpa using hz) (opV_row x)

theorem Twins_ok {fl : Fl} (l : List Opx) (hl : l.length ≤ maxLen) (h : ∀ x ∈ l, OkO x) : FnB Try.prog 23 [ops fl l] (ops .o l) := by
  unfold maxLen at hl
  refine fnB_intro cf23 (by simp) ?_
  simp (config := {contextual := true, maxSteps := 1000000}) only [go_sem, ints, intRows, iv_c, Nat.reduceAdd, Nat.reduceBEq, Nat.reduceEqDiff, Nat.reduceLeDiff, Nat.reduceLT, reduceIte, Nat.le_refl, true_or, or_true, and_self, Int.reduceLE, Int.reduceLT, Int.reduceEq, Int.reduceNeg, Int.natCast_nonneg, Int.reduceToNat, c23, ops]
  refine wpC_lp (fun env ob n' => env 6 = ops fl l ∧ env 7 = vi l.length ∧ ∃ i : Nat, env 8 = vi i ∧ i ≤ l.length ∧ Own n' ob (env 3) 12 ((l.take i).map opV)) (fun env ob _ => (l.length - iv (env 8)).toNat) ?_ ?_
  · simp (config := {contextual := true, maxSteps := 1000000}) only [go_sem, ints, intRows, iv_c, Nat.reduceAdd, Nat.reduceBEq, Nat.reduceEqDiff, Nat.reduceLeDiff, Nat.reduceLT, reduceIte, Nat.le_refl, true_or, or_true, and_self, Int.reduceLE, Int.reduceLT, Int.reduceEq, Int.reduceNeg, Int.natCast_nonneg, Int.reduceToNat, ops]
    exact ⟨0, rfl, by omega, Own.nil⟩
  rintro env ob n' ⟨h6, h7, i, h8, hi, ho⟩
  simp (config := {contextual := true, maxSteps := 1000000}) only [go_sem, ints, intRows, iv_c, Nat.reduceAdd, Nat.reduceBEq, Nat.reduceEqDiff, Nat.reduceLeDiff, Nat.reduceLT, reduceIte, Nat.le_refl, true_or, or_true, and_self, Int.reduceLE, Int.reduceLT, Int.reduceEq, Int.reduceNeg, Int.natCast_nonneg, Int.reduceToNat, h6, h7, h8, ops]
  refine ⟨fun hlt => ?_, fun hge => ?_⟩
  · simp at hlt
    have hx := h _ (gN_mem hlt)
    repeat (refine And.intro (by omega) ?_)
    first | refine caS_i (Twin1_ok (gN l i) hx.d hx.v hx.s) trivial ?_ | refine caD_i (Twin1_ok (gN l i) hx.d hx.v hx.s) trivial ?_ | refine gC_i (fun _ => Twin1_ok (gN l i) hx.d hx.v hx.s) trivial ?_ | refine gCD_i (fun _ => Twin1_ok (gN l i) hx.d hx.v hx.s) trivial ?_
    simp (config := {contextual := true, maxSteps := 1000000}) only [go_sem, ints, intRows, iv_c, Nat.reduceAdd, Nat.reduceBEq, Nat.reduceEqDiff, Nat.reduceLeDiff, Nat.reduceLT, reduceIte, Nat.le_refl, true_or, or_true, and_self, Int.reduceLE, Int.reduceLT, Int.reduceEq, Int.reduceNeg, Int.natCast_nonneg, Int.reduceToNat, h6, h7, h8]
    refine nxS_app (n := n') ((ho.upd (by omega)).upd (by omega)) (by omega) rfl (by simpa using allOps [gN l i]) (by simp [maxLen]; omega) fun v' ob' ho' _ => ?_
    simp (config := {contextual := true, maxSteps := 1000000}) only [go_sem, ints, intRows, iv_c, Nat.reduceAdd, Nat.reduceBEq, Nat.reduceEqDiff, Nat.reduceLeDiff, Nat.reduceLT, reduceIte, Nat.le_refl, true_or, or_true, and_self, Int.reduceLE, Int.reduceLT, Int.reduceEq, Int.reduceNeg, Int.natCast_nonneg, Int.reduceToNat, h6, h7, h8]
    refine ⟨⟨rfl, i + 1, ?_, by omega, ?_⟩, ?_⟩
    · rw [w64 (by omega)]; simp
    · rw [take_gN hlt, List.map_append]; exact ho'.mono (by omega)
    · rw [w64 (by omega)]; omega
  · simp at hge
    rw [List.take_of_length_le (by omega)] at ho
    rw [out_own ho (fun ob' => gOps ob' _) _ (fun _ => rfl)]; rfl

theorem DeleteFuncOps_z {nid f : Nat} {ob : OB} {C : V → OB → Nat → Prop} {caps rc : List V} (hrc : caps.map (resV ob 6) = rc ∧ caps.map (resV ob 5) = rc) (hrr : ∀ ob', rc.map (resV ob' 6) = rc) (p : Opx → Bool) 
    (hC : ∀ n', nid ≤ n' → C .z ob n') : FnS Try.prog 31 [.z, .fn f caps] ob nid C := by
  refine fnS_intro cf31 (by simp) ?_
  simp (config := {contextual := true, maxSteps := 1000000}) only [go_sem, ints, intRows, iv_c, Nat.reduceAdd, Nat.reduceBEq, Nat.reduceEqDiff, Nat.reduceLeDiff, Nat.reduceLT, reduceIte, Nat.le_refl, true_or, or_true, and_self, Int.reduceLE, Int.reduceLT, Int.reduceEq, Int.reduceNeg, Int.natCast_nonneg, Int.reduceToNat, c31, hrc.1, hrc.2]
  first | refine caS_i (IndexOps_ok (fl := .b) [] f rc p (by simp) hrr (fun x hx => by cases hx)) trivial ?_ | refine caD_i (IndexOps_ok (fl := .b) [] f rc p (by simp) hrr (fun x hx => by cases hx)) trivial ?_ | refine gC_i (fun _ => IndexOps_ok (fl := .b) [] f rc p (by simp) hrr (fun x hx => by cases hx)) trivial ?_ | refine gCD_i (fun _ => IndexOps_ok (fl := .b) [] f rc p (by simp) hrr (fun x hx => by cases hx)) trivial ?_
  have e : idxI p [] = -1 := idxI_no (fun x hx => by cases hx)
  simp (config := {contextual := true, maxSteps := 1000000}) only [go_sem, ints, intRows, iv_c, Nat.reduceAdd, Nat.reduceBEq, Nat.reduceEqDiff, Nat.reduceLeDiff, Nat.reduceLT, reduceIte, Nat.le_refl, true_or, or_true, and_self, Int.reduceLE, Int.reduceLT, Int.reduceEq, Int.reduceNeg, Int.natCast_nonneg, Int.reduceToNat, e]
  exact hC _ (by omega)
def canB (v : List Int) (x : Opx) : Bool := nextB v x.dot && leB x.deps v
theorem Can_ok {fl : Fl} (v : List Int) (x : Opx) (hv : ∀ n ∈ v, inI n) (hx : OkO x) : FnB Try.prog 22 [ints fl v, .ag (opV x)] (vb (canB v x)) := by
  refine fnB_intro cf22 (by simp) ?_
  simp (config := {contextual := true, maxSteps := 1000000}) only [go_sem, ints, intRows, iv_c, Nat.reduceAdd, Nat.reduceBEq, Nat.reduceEqDiff, Nat.reduceLeDiff, Nat.reduceLT, reduceIte, Nat.le_refl, true_or, or_true, and_self, Int.reduceLE, Int.reduceLT, Int.reduceEq, Int.reduceNeg, Int.natCast_nonneg, Int.reduceToNat, c22]
  first | refine caS_i (Next_ok v x.dot hx.n hv) trivial ?_ | refine caD_i (Next_ok v x.dot hx.n hv) trivial ?_ | refine gC_i (fun _ => Next_ok v x.dot hx.n hv) trivial ?_ | refine gCD_i (fun _ => Next_ok v x.dot hx.n hv) trivial ?_
  simp (config := {contextual := true, maxSteps := 1000000}) only [go_sem, ints, intRows, iv_c, Nat.reduceAdd, Nat.reduceBEq, Nat.reduceEqDiff, Nat.reduceLeDiff, Nat.reduceLT, reduceIte, Nat.le_refl, true_or, or_true, and_self, Int.reduceLE, Int.reduceLT, Int.reduceEq, Int.reduceNeg, Int.natCast_nonneg, Int.reduceToNat]
  first | refine caS_i (Le_ok x.deps v hx.d) trivial ?_ | refine caD_i (Le_ok x.deps v hx.d) trivial ?_ | refine gC_i (fun _ => Le_ok x.deps v hx.d) trivial ?_ | refine gCD_i (fun _ => Le_ok x.deps v hx.d) trivial ?_
  simp (config := {contextual := true, maxSteps := 1000000}) only [go_sem, ints, intRows, iv_c, Nat.reduceAdd, Nat.reduceBEq, Nat.reduceEqDiff, Nat.reduceLeDiff, Nat.reduceLT, reduceIte, Nat.le_refl, true_or, or_true, and_self, Int.reduceLE, Int.reduceLT, Int.reduceEq, Int.reduceNeg, Int.natCast_nonneg, Int.reduceToNat]
  unfold canB
  cases nextB v x.dot <;> rfl
theorem AgainA_ok {fl : Fl} (v : List Int) (x : Opx) (hv : ∀ n ∈ v, inI n) (hx : OkO x) : FnB Try.prog 29 [.ag (opV x), .bp [ints fl v]] (vb (canB v x)) := by
  refine fnB_intro cf29 (by simp) ?_
  simp (config := {contextual := true, maxSteps := 1000000}) only [go_sem, ints, intRows, iv_c, Nat.reduceAdd, Nat.reduceBEq, Nat.reduceEqDiff, Nat.reduceLeDiff, Nat.reduceLT, reduceIte, Nat.le_refl, true_or, or_true, and_self, Int.reduceLE, Int.reduceLT, Int.reduceEq, Int.reduceNeg, Int.natCast_nonneg, Int.reduceToNat, c29]
  first | refine caS_i (Can_ok v x hv hx) trivial ?_ | refine caD_i (Can_ok v x hv hx) trivial ?_ | refine gC_i (fun _ => Can_ok v x hv hx) trivial ?_ | refine gCD_i (fun _ => Can_ok v x hv hx) trivial ?_
  simp (config := {contextual := true, maxSteps := 1000000}) only [go_sem, ints, intRows, iv_c, Nat.reduceAdd, Nat.reduceBEq, Nat.reduceEqDiff, Nat.reduceLeDiff, Nat.reduceLT, reduceIte, Nat.le_refl, true_or, or_true, and_self, Int.reduceLE, Int.reduceLT, Int.reduceEq, Int.reduceNeg, Int.natCast_nonneg, Int.reduceToNat]
theorem AgainB_ok {fl : Fl} (v : List Int) (x : Opx) : FnB Try.prog 32 [.ag (opV x), .bp [ints fl v]] (vb (hasB v x.dot)) := by
  refine fnB_intro cf32 (by simp) ?_
  simp (config := {contextual := true, maxSteps := 1000000}) only [go_sem, ints, intRows, iv_c, Nat.reduceAdd, Nat.reduceBEq, Nat.reduceEqDiff, Nat.reduceLeDiff, Nat.reduceLT, reduceIte, Nat.le_refl, true_or, or_true, and_self, Int.reduceLE, Int.reduceLT, Int.reduceEq, Int.reduceNeg, Int.natCast_nonneg, Int.reduceToNat, c32]
  first | refine caS_i (Has_ok v x.dot) trivial ?_ | refine caD_i (Has_ok v x.dot) trivial ?_ | refine gC_i (fun _ => Has_ok v x.dot) trivial ?_ | refine gCD_i (fun _ => Has_ok v x.dot) trivial ?_
  simp (config := {contextual := true, maxSteps := 1000000}) only [go_sem, ints, intRows, iv_c, Nat.reduceAdd, Nat.reduceBEq, Nat.reduceEqDiff, Nat.reduceLeDiff, Nat.reduceLT, reduceIte, Nat.le_refl, true_or, or_true, and_self, Int.reduceLE, Int.reduceLT, Int.reduceEq, Int.reduceNeg, Int.natCast_nonneg, Int.reduceToNat]
def sameD (a b : Dt) : Bool := decide (a.p = b.p ∧ a.n = b.n)
theorem OfferA_ok (y x : Opx) : FnB Try.prog 21 [.ag (opV y), .bp (opV x)] (vb (sameD y.dot x.dot)) := by
  refine fnB_intro cf21 (by simp) ?_
  simp (config := {contextual := true, maxSteps := 1000000}) only [go_sem, ints, intRows, iv_c, Nat.reduceAdd, Nat.reduceBEq, Nat.reduceEqDiff, Nat.reduceLeDiff, Nat.reduceLT, reduceIte, Nat.le_refl, true_or, or_true, and_self, Int.reduceLE, Int.reduceLT, Int.reduceEq, Int.reduceNeg, Int.natCast_nonneg, Int.reduceToNat, c21]
  simp [sameD]
def wrongE (v : List Int) (l : List Opx) : Int := if vecE v ≠ 0 then vecE v else if 40 < l.length then 2 else 0
theorem wrong_ok {fl fm : Fl} (v : List Int) (l : List Opx) : FnB Try.prog 18 [ints fl v, ops fm l] (vi (wrongE v l)) := by
  refine fnB_intro cf18 (by simp) ?_
  simp (config := {contextual := true, maxSteps := 1000000}) only [go_sem, ints, intRows, iv_c, Nat.reduceAdd, Nat.reduceBEq, Nat.reduceEqDiff, Nat.reduceLeDiff, Nat.reduceLT, reduceIte, Nat.le_refl, true_or, or_true, and_self, Int.reduceLE, Int.reduceLT, Int.reduceEq, Int.reduceNeg, Int.natCast_nonneg, Int.reduceToNat, c18]
  first | refine caS_i (Check_ok v) trivial ?_ | refine caD_i (Check_ok v) trivial ?_ | refine gC_i (fun _ => Check_ok v) trivial ?_ | refine gCD_i (fun _ => Check_ok v) trivial ?_
  simp (config := {contextual := true, maxSteps := 1000000}) only [go_sem, ints, intRows, iv_c, Nat.reduceAdd, Nat.reduceBEq, Nat.reduceEqDiff, Nat.reduceLeDiff, Nat.reduceLT, reduceIte, Nat.le_refl, true_or, or_true, and_self, Int.reduceLE, Int.reduceLT, Int.reduceEq, Int.reduceNeg, Int.natCast_nonneg, Int.reduceToNat, ops]
  unfold wrongE
  refine ⟨fun h => by simp at h; simp [h], fun h => ⟨fun h2 => ?_, fun h2 => ?_⟩⟩
  · simp at h h2; simp [h]; omega
  · simp at h h2; simp [h]; omega
end Go.Proofs.Ytcoecplkcajhgaa.D
end
section
set_option linter.unusedVariables false
set_option linter.unusedSimpArgs false
set_option maxRecDepth 100000
set_option linter.constructorNameAsVariable false

/- What of the waiting ones is ready. No condition. -/
namespace Go.Proofs.Ytcoecplkcajhgaa.D
open Go Go.Proofs

/-- One after the other: what is ready, what is had then, what is left. -/
def againL : Nat → List Int → List Opx → List Opx × List Int × List Opx
  | 0, now, rest => ([], now, rest)
  | n + 1, now, rest => if rest.any (canB now) then
      (let x := gN rest (rest.findIdx (canB now))
       let q := againL n (now.set x.dot.p.toNat x.dot.n) (rest.eraseIdx (rest.findIdx (canB now)))
       (x :: q.1, q.2)) else ([], now, rest)
def againV (v : List Int) (l : List Opx) : List Opx × List Opx × Int :=
  if wrongE v l ≠ 0 then ([], [], wrongE v l) else
  ((againL l.length v l).1, (againL l.length v l).2.2.filter fun x => !hasB (againL l.length v l).2.1 x.dot, 0)

theorem canB_t {v : List Int} {x : Opx} (h : canB v x = true) : (0 ≤ x.dot.p ∧ x.dot.p < v.length ∧ x.dot.n = gN v x.dot.p.toNat + 1) ∧ leB x.deps v = true := by
  simpa [canB, nextB] using h

def slen : V → Nat
  | .sl _ _ n => n
  | _ => 0
theorem res_box {ob : OB} {b a n : Nat} {now : List Int} {cap cap' : Option Nat} (h1 : ob b = some ⟨1, [[.sl a 0 n]], cap⟩) (h2 : ob a = some ⟨1, now.map fun n => [vi n], cap'⟩) (hn : n = now.length) (m : Nat) : resP ob (m + 4) 0 ((ob b).bind fun x => x.l[0]?) = .bp [ints .n now] := by
  subst hn
  simp [resP, resV, h1, rowsOf, h2, ints, Function.comp_def]
  rw [List.take_of_length_le (by simp)]
theorem res_boxV {ob : OB} {b a n : Nat} {now : List Int} {cap cap' : Option Nat} (h1 : ob b = some ⟨1, [[.sl a 0 n]], cap⟩) (h2 : ob a = some ⟨1, now.map fun n => [vi n], cap'⟩) (hn : n = now.length) (m : Nat) : [V.pt b 0 0].map (resV ob (m + 4)) = [.bp [ints .n now]] := by
  subst hn
  simp [resV, h1, rowsOf, h2, ints, Function.comp_def]
  rw [List.take_of_length_le (by simp)]
theorem res_now (ob : OB) (now : List Int) (m : Nat) : [V.bp [ints .n now]].map (resV ob (m + 4)) = [V.bp [ints .n now]] := by
  simp [resV, ints, resFl, Function.comp_def]
theorem gV_ops (ob : OB) (m : Nat) (l : List Opx) : gV ob (m + 4) (.im .b (l.map opV)) = .im .b (l.map opV) := by
  show V.im .b (List.map (fun r => List.map (gV ob (m + 3)) r) (l.map opV)) = _
  rw [List.map_map]
  congr 1
  exact List.map_congr_left fun x _ => g_op _ _ x
theorem againL_no {n : Nat} {now : List Int} {rest : List Opx} (h : ∀ x ∈ rest, canB now x = false) : againL n now rest = ([], now, rest) := by
  cases n with
  | zero => rfl
  | succ n =>
    have : rest.any (canB now) = false := by simpa using h
    simp [againL, this]

set_option maxHeartbeats 2000000 in
theorem Again_ok {fl fm : Fl} (v : List Int) (l : List Opx) (hv : v.length ≤ maxLen) (hl : l.length ≤ maxLen) (h : ∀ x ∈ l, OkO x) : FnB Try.prog 14 [ints fl v, ops fm l] (.tp [ops .o (againV v l).1, ops .b (againV v l).2.1, vi (againV v l).2.2]) := by
  refine fnB_intro cf14 (by simp) ?_
  simp (config := {contextual := true, maxSteps := 1000000}) only [go_sem, ints, intRows, iv_c, Nat.reduceAdd, Nat.reduceBEq, Nat.reduceEqDiff, Nat.reduceLeDiff, Nat.reduceLT, reduceIte, Nat.le_refl, true_or, or_true, and_self, Int.reduceLE, Int.reduceLT, Int.reduceEq, Int.reduceNeg, Int.natCast_nonneg, Int.reduceToNat, ops, vals, dots, c14]
  first | refine caS_i (wrong_ok v l) trivial ?_ | refine caD_i (wrong_ok v l) trivial ?_ | refine gC_i (fun _ => wrong_ok v l) trivial ?_ | refine gCD_i (fun _ => wrong_ok v l) trivial ?_
  simp (config := {contextual := true, maxSteps := 1000000}) only [go_sem, ints, intRows, iv_c, Nat.reduceAdd, Nat.reduceBEq, Nat.reduceEqDiff, Nat.reduceLeDiff, Nat.reduceLT, reduceIte, Nat.le_refl, true_or, or_true, and_self, Int.reduceLE, Int.reduceLT, Int.reduceEq, Int.reduceNeg, Int.natCast_nonneg, Int.reduceToNat, ops, vals, dots]
  refine ⟨fun hw => ?_, fun hw => ?_⟩
  · simp at hw
    simp [againV, hw, ops]
  simp at hw
  have hvE : vecE v = 0 := by unfold wrongE at hw; by_cases hz : vecE v = 0 <;> simp_all
  have hlen : l.length ≤ 40 := by unfold wrongE at hw; by_cases hz : 40 < l.length <;> simp_all <;> omega
  obtain ⟨hv1, hv5, hvr⟩ := vecE_range v hvE
  have hv0 : (v.length = 0) = False := eq_false (by omega)
  have hva : okRow 1 [V.sl 10 0 v.length] = true := by simp [okRow, leaf]
  first | refine caS_i (CloneInts_ok v hv _) (fun ch hch => by obtain ⟨_, _, rfl⟩ := List.mem_map.1 hch; rfl) ?_ | refine caD_i (CloneInts_ok v hv _) (fun ch hch => by obtain ⟨_, _, rfl⟩ := List.mem_map.1 hch; rfl) ?_ | refine gC_i (fun _ => CloneInts_ok v hv _) (fun ch hch => by obtain ⟨_, _, rfl⟩ := List.mem_map.1 hch; rfl) ?_ | refine gCD_i (fun _ => CloneInts_ok v hv _) (fun ch hch => by obtain ⟨_, _, rfl⟩ := List.mem_map.1 hch; rfl) ?_
  simp (config := {contextual := true, maxSteps := 1000000}) only [go_sem, ints, intRows, iv_c, Nat.reduceAdd, Nat.reduceBEq, Nat.reduceEqDiff, Nat.reduceLeDiff, Nat.reduceLT, reduceIte, Nat.le_refl, true_or, or_true, and_self, Int.reduceLE, Int.reduceLT, Int.reduceEq, Int.reduceNeg, Int.natCast_nonneg, Int.reduceToNat, ops, vals, dots, hv0]
  first | refine caS_i (Twins_ok l hl h) (fun ch hch => by obtain ⟨_, _, rfl⟩ := List.mem_map.1 hch; rfl) ?_ | refine caD_i (Twins_ok l hl h) (fun ch hch => by obtain ⟨_, _, rfl⟩ := List.mem_map.1 hch; rfl) ?_ | refine gC_i (fun _ => Twins_ok l hl h) (fun ch hch => by obtain ⟨_, _, rfl⟩ := List.mem_map.1 hch; rfl) ?_ | refine gCD_i (fun _ => Twins_ok l hl h) (fun ch hch => by obtain ⟨_, _, rfl⟩ := List.mem_map.1 hch; rfl) ?_
  refine nxS_own fun s ob1 hs hf1 => ?_
  have hb : ob1 10 = some ⟨1, v.map fun n => [vi n], none⟩ := by rw [hf1 _ (by omega)]; rfl
  simp (config := {contextual := true, maxSteps := 1000000}) only [go_sem, ints, intRows, iv_c, Nat.reduceAdd, Nat.reduceBEq, Nat.reduceEqDiff, Nat.reduceLeDiff, Nat.reduceLT, reduceIte, Nat.le_refl, true_or, or_true, and_self, Int.reduceLE, Int.reduceLT, Int.reduceEq, Int.reduceNeg, Int.natCast_nonneg, Int.reduceToNat, ops, vals, dots, hb]
  refine wpC_lp (fun env ob n' => env 7 = .pt 13 0 0 ∧ 16 ≤ n' ∧ ob 13 = some ⟨1, [[.sl 10 0 v.length]], none⟩ ∧ ∃ (now : List Int) (rd rs : List Opx), now.length = v.length ∧ (∀ n ∈ now, inI n) ∧ ob 10 = some ⟨1, now.map fun n => [vi n], none⟩ ∧ ((rd = [] ∧ env 4 = .z) ∨ (rd ≠ [] ∧ ∃ id cap, 14 ≤ id ∧ id < n' ∧ env 4 = .sl id 0 rd.length ∧ ob id = some ⟨12, rd.map opV, cap⟩)) ∧ ((rs = [] ∧ env 8 = .z) ∨ (∃ cap, env 8 = .sl 12 0 rs.length ∧ ob 12 = some ⟨12, rs.map opV, cap⟩)) ∧ rd.length + rs.length = l.length ∧ (∀ x ∈ rs, OkO x) ∧ againL l.length v l = (rd ++ (againL rs.length now rs).1, (againL rs.length now rs).2)) (fun env ob _ => slen (env 8)) ?_ ?_
  · simp (config := {contextual := true, maxSteps := 1000000}) only [go_sem, ints, intRows, iv_c, Nat.reduceAdd, Nat.reduceBEq, Nat.reduceEqDiff, Nat.reduceLeDiff, Nat.reduceLT, reduceIte, Nat.le_refl, true_or, or_true, and_self, Int.reduceLE, Int.reduceLT, Int.reduceEq, Int.reduceNeg, Int.natCast_nonneg, Int.reduceToNat, ops, vals, dots]
    refine ⟨v, [], l, rfl, fun n hn => ?_, hb, by simp, ?_, by simp, h, by simp⟩
    · have := hvr n hn; unfold inI; omega
    · rcases hs with ⟨h1, h2⟩ | ⟨h1, h2, h3⟩
      · exact .inl ⟨by simpa using h1, h2⟩
      · exact .inr ⟨none, by simpa using h2, h3⟩
  rintro env ob n' ⟨h7, hn', h13, now, rd, rs, hnl, hni, h10, h4, h8, hll, hok, hag⟩
  have hrs : OwnE n' ob (env 8) 12 (rs.map opV) := by
    rcases h8 with ⟨h1, h2⟩ | ⟨cap, h1, h2⟩
    · exact .inl ⟨by rw [h1]; rfl, h2⟩
    · exact .inr ⟨12, cap, by omega, by rw [h1, List.length_map], h2⟩
  obtain ⟨f, hf⟩ := resE hrs
  have hrl : rs.length ≤ maxLen := by unfold maxLen; omega
  simp (config := {contextual := true, maxSteps := 1000000}) only [go_sem, ints, intRows, iv_c, Nat.reduceAdd, Nat.reduceBEq, Nat.reduceEqDiff, Nat.reduceLeDiff, Nat.reduceLT, reduceIte, Nat.le_refl, true_or, or_true, and_self, Int.reduceLE, Int.reduceLT, Int.reduceEq, Int.reduceNeg, Int.natCast_nonneg, Int.reduceToNat, ops, vals, dots, h7]
  rw [hf 2, res_box h13 h10 hnl.symm 0]
  first | refine caS_i (IndexOps_ok rs 29 [.bp [ints .n now]] (canB now) hrl (fun ob => res_now ob now 2) (fun x hx => AgainA_ok now x hni (hok x hx))) trivial ?_ | refine caD_i (IndexOps_ok rs 29 [.bp [ints .n now]] (canB now) hrl (fun ob => res_now ob now 2) (fun x hx => AgainA_ok now x hni (hok x hx))) trivial ?_ | refine gC_i (fun _ => IndexOps_ok rs 29 [.bp [ints .n now]] (canB now) hrl (fun ob => res_now ob now 2) (fun x hx => AgainA_ok now x hni (hok x hx))) trivial ?_ | refine gCD_i (fun _ => IndexOps_ok rs 29 [.bp [ints .n now]] (canB now) hrl (fun ob => res_now ob now 2) (fun x hx => AgainA_ok now x hni (hok x hx))) trivial ?_
  rcases idxI_spec (canB now) rs with ⟨e, hno⟩ | ⟨i, e, hi, hpi, hbe⟩
  · simp (config := {contextual := true, maxSteps := 1000000}) only [go_sem, ints, intRows, iv_c, Nat.reduceAdd, Nat.reduceBEq, Nat.reduceEqDiff, Nat.reduceLeDiff, Nat.reduceLT, reduceIte, Nat.le_refl, true_or, or_true, and_self, Int.reduceLE, Int.reduceLT, Int.reduceEq, Int.reduceNeg, Int.natCast_nonneg, Int.reduceToNat, ops, vals, dots, e, h7]
    have hDF : ∀ (nid : Nat) (C : V → OB → Nat → Prop), n' ≤ nid → (∀ s' ob' n'', nid ≤ n'' → (∀ j, j ≠ 12 → j < nid → ob' j = ob j) → OwnE n'' ob' s' 12 ((rs.filter fun x => !hasB now x.dot).map opV) → C s' ob' n'') → FnS Try.prog 31 [env 8, .fn 32 [.pt 13 0 0]] ob nid C := by
      intro nid C hnid hC
      rcases h8 with ⟨h1, h2⟩ | ⟨cap, h1, h2⟩
      · rw [h2]
        refine DeleteFuncOps_z ⟨res_boxV h13 h10 hnl.symm 2, res_boxV h13 h10 hnl.symm 1⟩ (fun ob => res_now ob now 2) (fun x => hasB now x.dot) fun n'' hn'' => hC _ _ _ hn'' (fun _ _ _ => rfl) (.inl ⟨by rw [h1]; rfl, rfl⟩)
      · rw [h1]
        refine DeleteFuncOps_ok (p := fun x => hasB now x.dot) hrl h2 (by omega) (fun ob' hf => ?_) (fun ob => res_now ob now 2) (fun x hx => AgainB_ok now x) fun ob' n'' hn'' hf hid => hC _ _ _ hn'' hf (.inr ⟨12, none, by omega, by rw [List.length_map], hid⟩)
        have a1 := hf 13 (by omega) (by omega)
        have a2 := hf 10 (by omega) (by omega)
        rw [h13] at a1; rw [h10] at a2
        exact ⟨res_boxV a1 a2 hnl.symm 2, res_boxV a1 a2 hnl.symm 1⟩
    refine rcS_i (hDF _ _ (by omega) fun s' ob' n'' hn'' hf hs' => ?_)
    obtain ⟨g, hg⟩ := resE hs'
    simp (config := {contextual := true, maxSteps := 1000000}) only [go_sem, ints, intRows, iv_c, Nat.reduceAdd, Nat.reduceBEq, Nat.reduceEqDiff, Nat.reduceLeDiff, Nat.reduceLT, reduceIte, Nat.le_refl, true_or, or_true, and_self, Int.reduceLE, Int.reduceLT, Int.reduceEq, Int.reduceNeg, Int.natCast_nonneg, Int.reduceToNat, ops, vals, dots, h7, hg]
    have hrf : (rs.filter fun x => !hasB now x.dot).length ≤ maxLen := Nat.le_trans (List.length_filter_le _ _) hrl
    first | refine caS_i (CloneOps_ok _ hrf _) trivial ?_ | refine caD_i (CloneOps_ok _ hrf _) trivial ?_ | refine gC_i (fun _ => CloneOps_ok _ hrf _) trivial ?_ | refine gCD_i (fun _ => CloneOps_ok _ hrf _) trivial ?_
    simp (config := {contextual := true, maxSteps := 1000000}) only [go_sem, ints, intRows, iv_c, Nat.reduceAdd, Nat.reduceBEq, Nat.reduceEqDiff, Nat.reduceLeDiff, Nat.reduceLT, reduceIte, Nat.le_refl, true_or, or_true, and_self, Int.reduceLE, Int.reduceLT, Int.reduceEq, Int.reduceNeg, Int.natCast_nonneg, Int.reduceToNat, ops, vals, dots, h7]
    have hav : againV v l = (rd, rs.filter fun x => !hasB now x.dot, 0) := by
      rw [againL_no hno] at hag
      simp [againV, hw, hag]
    rw [hav]
    have hrd : Own n'' ob' (env 4) 12 (rd.map opV) := by
      rcases h4 with ⟨h1, h2⟩ | ⟨hrd0, id, cap, a1, a2, h1, h2⟩
      · exact .inl ⟨by rw [h1]; rfl, h2⟩
      · exact .inr ⟨by simpa using hrd0, id, cap, by omega, by rw [h1, List.length_map], by rw [hf _ (by omega) (by omega), h2]⟩
    rw [out_own hrd (fun ob' => gOps ob' _) _ (fun ob' => by rw [List.map_cons]; congr 1; exact gV_ops ob' 2 _)]; rfl
  · have hi0 : decide ((i : Int) < 0) = false := by simp
    rcases h8 with ⟨h1, h2⟩ | ⟨cap8, h8, h12⟩
    · rw [h1] at hi; simp at hi
    have hrsl : (rs.map opV).length = rs.length := by simp
    obtain ⟨⟨hp0, hp1, hp2⟩, hp3⟩ := canB_t hpi
    simp (config := {contextual := true, maxSteps := 1000000}) only [go_sem, ints, intRows, iv_c, Nat.reduceAdd, Nat.reduceBEq, Nat.reduceEqDiff, Nat.reduceLeDiff, Nat.reduceLT, reduceIte, Nat.le_refl, true_or, or_true, and_self, Int.reduceLE, Int.reduceLT, Int.reduceEq, Int.reduceNeg, Int.natCast_nonneg, Int.reduceToNat, ops, vals, dots, e, h7, hi0, h8, h12, h13, h10, hrsl]
    repeat (refine And.intro (by omega) ?_)
    have hm13 : (13 == n' + 1 + 1 + 1 + 1 + 1 + 1 + 1 + 1 + 1 + 1) = false := by simp; omega
    have hm12 : (12 == n' + 1 + 1 + 1 + 1 + 1 + 1 + 1 + 1 + 1 + 1) = false := by simp; omega
    have hm10 : (10 == n' + 1 + 1 + 1 + 1 + 1 + 1 + 1 + 1 + 1 + 1) = false := by simp; omega
    have hnr : (now.map fun n => [vi n]).length = v.length := by simp [hnl]
    have hmx : (n' + 1 + 1 + 1 + 1 + 1 + 1 + 1 + 1 + 1 + 1 == 10) = false := by simp; omega
    simp (config := {contextual := true, maxSteps := 1000000}) only [go_sem, ints, intRows, iv_c, Nat.reduceAdd, Nat.reduceBEq, Nat.reduceEqDiff, Nat.reduceLeDiff, Nat.reduceLT, reduceIte, Nat.le_refl, true_or, or_true, and_self, Int.reduceLE, Int.reduceLT, Int.reduceEq, Int.reduceNeg, Int.natCast_nonneg, Int.reduceToNat, ops, vals, dots, hm13, hm12, hm10, hmx, h13, h10, h12, h7, hnr]
    repeat (refine And.intro (by omega) ?_)
    refine nxS_new (k := 12) (rows := rd.map opV) (xs := [opV (gN rs i)]) ?_ (by simp) rfl (by simpa using allOps [gN rs i]) (by simp [maxLen]; omega) fun ob' hob' hfr => ?_
    · rcases h4 with ⟨b1, b2⟩ | ⟨hrd0, id, cap, a1, a2, b1, b2⟩
      · exact .inl ⟨by rw [b1]; rfl, b2⟩
      · refine .inr ⟨id, cap, by rw [b1, List.length_map], ?_⟩
        rw [updO, if_neg (by omega), updO, if_neg (by omega), updO, if_neg (by omega), b2]
    have hne4 : ∀ j, j < 14 → ∀ len, env 4 ≠ .sl j 0 len := fun j hj len e => by
      rcases h4 with ⟨b1, b2⟩ | ⟨hrd0, id, cap, a1, a2, b1, b2⟩
      · rw [b2] at e; cases e
      · rw [b1] at e; injection e; omega
    have g12 : ob' 12 = some ⟨12, rs.map opV, cap8⟩ := by
      rw [hfr 12 (by omega) (hne4 _ (by omega)), updO, if_neg (by omega), updO, if_neg (by omega), updO, if_neg (by omega), h12]
    have g13 : ob' 13 = some ⟨1, [[.sl 10 0 v.length]], none⟩ := by
      rw [hfr 13 (by omega) (hne4 _ (by omega)), updO, if_neg (by omega), updO, if_neg (by omega), updO, if_neg (by omega), h13]
    have g10 : ob' 10 = some ⟨1, (now.set (gN rs i).dot.p.toNat (gN rs i).dot.n).map fun n => [vi n], none⟩ := by
      rw [hfr 10 (by omega) (hne4 _ (by omega)), updO_s]
    have w2 : IntKind.i64.wrap ((i : Int) + 1) = ((i + 1 : Nat) : Int) := by rw [w64 (by omega)]; omega
    simp (config := {contextual := true, maxSteps := 1000000}) only [go_sem, ints, intRows, iv_c, Nat.reduceAdd, Nat.reduceBEq, Nat.reduceEqDiff, Nat.reduceLeDiff, Nat.reduceLT, reduceIte, Nat.le_refl, true_or, or_true, and_self, Int.reduceLE, Int.reduceLT, Int.reduceEq, Int.reduceNeg, Int.natCast_nonneg, Int.reduceToNat, ops, vals, dots, w2, h8]
    refine rcS_i (DeleteOps_ok hi hrl g12 (by omega) fun ob2 n2 hn2 hf2 hob2 => ?_)
    simp (config := {contextual := true, maxSteps := 1000000}) only [go_sem, ints, intRows, iv_c, Nat.reduceAdd, Nat.reduceBEq, Nat.reduceEqDiff, Nat.reduceLeDiff, Nat.reduceLT, reduceIte, Nat.le_refl, true_or, or_true, and_self, Int.reduceLE, Int.reduceLT, Int.reduceEq, Int.reduceNeg, Int.natCast_nonneg, Int.reduceToNat, ops, vals, dots, h7]
    have hle : (rs.eraseIdx i).length = rs.length - 1 := by rw [List.length_eraseIdx]; simp [hi]
    have q10 : ob2 10 = some ⟨1, (now.set (gN rs i).dot.p.toNat (gN rs i).dot.n).map fun n => [vi n], none⟩ := by rw [hf2 _ (by omega) (by omega), g10]
    have q13 : ob2 13 = some ⟨1, [[.sl 10 0 v.length]], none⟩ := by rw [hf2 _ (by omega) (by omega), g13]
    have q24 : ob2 (n' + 24) = some ⟨12, (rd ++ [gN rs i]).map opV, none⟩ := by rw [hf2 _ (by omega) (by omega), List.map_append]; exact hob'
    have hst : againL rs.length now rs = (gN rs i :: (againL (rs.eraseIdx i).length (now.set (gN rs i).dot.p.toNat (gN rs i).dot.n) (rs.eraseIdx i)).1, (againL (rs.eraseIdx i).length (now.set (gN rs i).dot.p.toNat (gN rs i).dot.n) (rs.eraseIdx i)).2) := by
      have hany : rs.any (canB now) = true := List.any_eq_true.2 ⟨_, gN_mem hi, hpi⟩
      have hix : rs.findIdx (canB now) = i := by
        unfold idxI at e; rw [if_pos hany] at e; omega
      obtain ⟨m, hm⟩ : ∃ m, rs.length = m + 1 := ⟨rs.length - 1, by omega⟩
      have hm' : (rs.eraseIdx i).length = m := by omega
      rw [hm', hm, againL, if_pos hany, hix]
    refine ⟨⟨by omega, q13, now.set (gN rs i).dot.p.toNat (gN rs i).dot.n, rd ++ [gN rs i], rs.eraseIdx i, by simpa using hnl, ?_, q10, .inr ⟨by simp, n' + 24, none, by omega, by omega, by simp, q24⟩, .inr ⟨none, by rw [hle], hob2⟩, by simp [hle]; omega, fun x hx => hok x (List.mem_of_mem_eraseIdx hx), ?_⟩, ?_⟩
    · intro n hn
      rcases List.mem_or_eq_of_mem_set hn with hn | hn
      · exact hni n hn
      · rw [hn]; exact (hok _ (gN_mem hi)).n
    · rw [hag, hst]; simp
    · simp [slen]; omega
end Go.Proofs.Ytcoecplkcajhgaa.D
end
section
set_option linter.unusedVariables false
set_option linter.unusedSimpArgs false
set_option maxRecDepth 100000
set_option linter.constructorNameAsVariable false

/- What of an operation that is offered. No condition. -/
namespace Go.Proofs.Ytcoecplkcajhgaa.D
open Go Go.Proofs

section
variable {P : Program} {nid : Nat} {env : Env} {ob : OB} {J : Env → OB → Nat → Prop} {l : List RO} {d : Option Nat} {n k : Nat} {v x : V} {rows xs : List (List V)}
theorem nxS_ownT {us : List V} (hK : ∀ v' ob', ((rows = [] ∧ v' = .z) ∨ (rows ≠ [] ∧ v' = .sl nid 0 rows.length ∧ ob' nid = some ⟨k, rows, none⟩)) → (∀ id, id ≠ nid → ob' id = ob id) → wpS P l (nid + 1) (put env d (.tp (v' :: us))) ob' J) :
    nxS P d l nid env ob J (some (imp (.own k) nid (.tp (.im .o rows :: us)))) := by
  rw [imp_ot]
  split
  · rename_i h
    have h : rows = [] := List.eq_nil_of_length_eq_zero h
    exact hK .z ob (.inl ⟨h, rfl⟩) fun _ _ => rfl
  · rename_i h
    exact hK _ _ (.inr ⟨fun e => h (by rw [e]; rfl), rfl, updO_s _ _ _⟩) fun id hid => by simp [apps, updO, hid]
theorem nxD_own {K : Env → OB → Prop} {dl : Ups} (hK : ∀ v' us, ((rows = [] ∧ v' = .z ∧ us = []) ∨ (rows ≠ [] ∧ v' = .sl nid 0 rows.length ∧ us = [(nid, some ⟨k, rows, none⟩)])) → wpD P l (nid + 1) (put env d v') ob (dl ++ us) K) :
    nxD P false d l nid env ob dl K (some (imp (.own k) nid (.im .o rows))) := by
  rw [imp_oi]
  split
  · rename_i h
    exact hK .z [] (.inl ⟨List.eq_nil_of_length_eq_zero h, rfl, rfl⟩)
  · rename_i h
    exact hK _ _ (.inr ⟨fun e => h (by rw [e]; rfl), rfl, rfl⟩)
end

theorem gV_own {n : Nat} {ob : OB} {v : V} {l : List Opx} (h : Own n ob v 12 (l.map opV)) (m : Nat) : gV ob (m + 4) v = .im .b (l.map opV) := by
  rcases h with ⟨h1, rfl⟩ | ⟨_, id, cap, hid, rfl, hob⟩
  · rw [h1]; rfl
  · simp only [gV, rowsOf, hob, Option.bind_some, List.length_map]
    rw [if_pos (by simp), List.drop_zero, List.take_of_length_le (by simp)]
    show V.im Fl.b (List.map (fun r => List.map (gV ob (m + 3)) r) (l.map opV)) = _
    rw [List.map_map]
    congr 1
    exact List.map_congr_left fun x _ => g_op _ _ x
theorem againL_len : ∀ (n : Nat) (now : List Int) (rest : List Opx), (againL n now rest).1.length ≤ n
  | 0, _, _ => by simp [againL]
  | n + 1, now, rest => by
    unfold againL
    split
    · have := againL_len n (now.set (gN rest (rest.findIdx (canB now))).dot.p.toNat (gN rest (rest.findIdx (canB now))).dot.n) (rest.eraseIdx (rest.findIdx (canB now)))
      simp; omega
    · simp
theorem againV_len (v : List Int) (l : List Opx) : (againV v l).1.length ≤ l.length := by
  unfold againV
  split
  · simp
  · exact againL_len _ _ _
def offerV (v : List Int) (l : List Opx) (x : Opx) : List Opx × List Opx × Int :=
  if wrongE v l ≠ 0 then ([], [], wrongE v l)
  else if hasB v x.dot || l.any (fun y => sameD y.dot x.dot) then ([], [], 8)
  else if canB v x then (let q := againV (v.set x.dot.p.toNat x.dot.n) l; if q.2.2 ≠ 0 then ([], [], q.2.2) else (x :: q.1, q.2.1, 0))
  else if 40 ≤ l.length then ([], [], 6) else ([], l ++ [x], 9)

set_option maxHeartbeats 2000000 in
theorem Offer_ok {fl fm : Fl} (v : List Int) (l : List Opx) (x : Opx) (hv : v.length ≤ maxLen) (hl : l.length ≤ maxLen) (h : ∀ x ∈ l, OkO x) (hx : OkO x) : FnB Try.prog 9 [ints fl v, ops fm l, .ag (opV x)] (.tp [ops .o (offerV v l x).1, ops .b (offerV v l x).2.1, vi (offerV v l x).2.2]) := by
  refine fnB_intro cf9 (by simp) ?_
  simp (config := {contextual := true, maxSteps := 1000000}) only [go_sem, ints, intRows, iv_c, Nat.reduceAdd, Nat.reduceBEq, Nat.reduceEqDiff, Nat.reduceLeDiff, Nat.reduceLT, reduceIte, Nat.le_refl, true_or, or_true, and_self, Int.reduceLE, Int.reduceLT, Int.reduceEq, Int.reduceNeg, Int.natCast_nonneg, Int.reduceToNat, ops, vals, dots, c9]
  first | refine caS_i (wrong_ok v l) trivial ?_ | refine caD_i (wrong_ok v l) trivial ?_ | refine gC_i (fun _ => wrong_ok v l) trivial ?_ | refine gCD_i (fun _ => wrong_ok v l) trivial ?_
  simp (config := {contextual := true, maxSteps := 1000000}) only [go_sem, ints, intRows, iv_c, Nat.reduceAdd, Nat.reduceBEq, Nat.reduceEqDiff, Nat.reduceLeDiff, Nat.reduceLT, reduceIte, Nat.le_refl, true_or, or_true, and_self, Int.reduceLE, Int.reduceLT, Int.reduceEq, Int.reduceNeg, Int.natCast_nonneg, Int.reduceToNat, ops, vals, dots]
  refine ⟨fun hw => ?_, fun hw => ?_⟩
  · simp at hw
    simp [offerV, hw]
  simp at hw
  have hvE : vecE v = 0 := by unfold wrongE at hw; by_cases hz : vecE v = 0 <;> simp_all
  have hlen : l.length ≤ 40 := by unfold wrongE at hw; by_cases hz : 40 < l.length <;> simp_all <;> omega
  obtain ⟨hv1, hv5, hvr⟩ := vecE_range v hvE
  first | refine caS_i (Has_ok v x.dot) trivial ?_ | refine caD_i (Has_ok v x.dot) trivial ?_ | refine gC_i (fun _ => Has_ok v x.dot) trivial ?_ | refine gCD_i (fun _ => Has_ok v x.dot) trivial ?_
  simp (config := {contextual := true, maxSteps := 1000000}) only [go_sem, ints, intRows, iv_c, Nat.reduceAdd, Nat.reduceBEq, Nat.reduceEqDiff, Nat.reduceLeDiff, Nat.reduceLT, reduceIte, Nat.le_refl, true_or, or_true, and_self, Int.reduceLE, Int.reduceLT, Int.reduceEq, Int.reduceNeg, Int.natCast_nonneg, Int.reduceToNat, ops, vals, dots]
  have hbp : ∀ (ob : OB) (m : Nat), [V.bp (opV x)].map (resV ob (m + 4)) = [V.bp (opV x)] := fun ob m => by
    simp only [List.map_cons, List.map_nil, res_bp]
    rw [res_op]
  first | refine caS_i (ContainsOps_ok l 21 [.bp (opV x)] (fun y => sameD y.dot x.dot) hl (fun ob => hbp ob 2) (fun ob => hbp ob 1) (fun y hy => OfferA_ok y x)) trivial ?_ | refine caD_i (ContainsOps_ok l 21 [.bp (opV x)] (fun y => sameD y.dot x.dot) hl (fun ob => hbp ob 2) (fun ob => hbp ob 1) (fun y hy => OfferA_ok y x)) trivial ?_ | refine gC_i (fun _ => ContainsOps_ok l 21 [.bp (opV x)] (fun y => sameD y.dot x.dot) hl (fun ob => hbp ob 2) (fun ob => hbp ob 1) (fun y hy => OfferA_ok y x)) trivial ?_ | refine gCD_i (fun _ => ContainsOps_ok l 21 [.bp (opV x)] (fun y => sameD y.dot x.dot) hl (fun ob => hbp ob 2) (fun ob => hbp ob 1) (fun y hy => OfferA_ok y x)) trivial ?_
  simp (config := {contextual := true, maxSteps := 1000000}) only [go_sem, ints, intRows, iv_c, Nat.reduceAdd, Nat.reduceBEq, Nat.reduceEqDiff, Nat.reduceLeDiff, Nat.reduceLT, reduceIte, Nat.le_refl, true_or, or_true, and_self, Int.reduceLE, Int.reduceLT, Int.reduceEq, Int.reduceNeg, Int.natCast_nonneg, Int.reduceToNat, ops, vals, dots]
  refine ⟨fun hh => ?_, fun hh => ?_⟩
  · rw [offerV, if_neg (by simpa using hw), if_pos hh]; rfl
  first | refine caS_i (Can_ok v x (fun n hn => by have := hvr n hn; unfold inI; omega) hx) trivial ?_ | refine caD_i (Can_ok v x (fun n hn => by have := hvr n hn; unfold inI; omega) hx) trivial ?_ | refine gC_i (fun _ => Can_ok v x (fun n hn => by have := hvr n hn; unfold inI; omega) hx) trivial ?_ | refine gCD_i (fun _ => Can_ok v x (fun n hn => by have := hvr n hn; unfold inI; omega) hx) trivial ?_
  simp (config := {contextual := true, maxSteps := 1000000}) only [go_sem, ints, intRows, iv_c, Nat.reduceAdd, Nat.reduceBEq, Nat.reduceEqDiff, Nat.reduceLeDiff, Nat.reduceLT, reduceIte, Nat.le_refl, true_or, or_true, and_self, Int.reduceLE, Int.reduceLT, Int.reduceEq, Int.reduceNeg, Int.natCast_nonneg, Int.reduceToNat, ops, vals, dots]
  refine ⟨fun hh2 => ?_, fun hh2 => ?_⟩
  · have hcf : canB v x = false := by cases hc : canB v x <;> simp_all
    have h40 : 40 ≤ l.length := by rw [hcf] at hh2; simp at hh2; omega
    have ho : offerV v l x = ([], [], 6) := by unfold offerV; simp only [hw, hh, hcf, h40]; simp
    rw [ho]; rfl
  first | refine caS_i (Can_ok v x (fun n hn => by have := hvr n hn; unfold inI; omega) hx) trivial ?_ | refine caD_i (Can_ok v x (fun n hn => by have := hvr n hn; unfold inI; omega) hx) trivial ?_ | refine gC_i (fun _ => Can_ok v x (fun n hn => by have := hvr n hn; unfold inI; omega) hx) trivial ?_ | refine gCD_i (fun _ => Can_ok v x (fun n hn => by have := hvr n hn; unfold inI; omega) hx) trivial ?_
  simp (config := {contextual := true, maxSteps := 1000000}) only [go_sem, ints, intRows, iv_c, Nat.reduceAdd, Nat.reduceBEq, Nat.reduceEqDiff, Nat.reduceLeDiff, Nat.reduceLT, reduceIte, Nat.le_refl, true_or, or_true, and_self, Int.reduceLE, Int.reduceLT, Int.reduceEq, Int.reduceNeg, Int.natCast_nonneg, Int.reduceToNat, ops, vals, dots]
  refine ⟨fun hcf => ?_, fun hct => ?_⟩
  · have h40 : ¬ 40 ≤ l.length := by rw [hcf] at hh2; simp at hh2; omega
    have ho : offerV v l x = ([], l ++ [x], 9) := by unfold offerV; simp only [hw, hh, hcf, h40]; simp
    rw [ho]
    first | refine caS_i (Twins_ok l hl h) (fun ch hch => by obtain ⟨_, _, rfl⟩ := List.mem_map.1 hch; rfl) ?_ | refine caD_i (Twins_ok l hl h) (fun ch hch => by obtain ⟨_, _, rfl⟩ := List.mem_map.1 hch; rfl) ?_ | refine gC_i (fun _ => Twins_ok l hl h) (fun ch hch => by obtain ⟨_, _, rfl⟩ := List.mem_map.1 hch; rfl) ?_ | refine gCD_i (fun _ => Twins_ok l hl h) (fun ch hch => by obtain ⟨_, _, rfl⟩ := List.mem_map.1 hch; rfl) ?_
    refine nxD_own fun s us hs => ?_
    simp (config := {contextual := true, maxSteps := 1000000}) only [go_sem, ints, intRows, iv_c, Nat.reduceAdd, Nat.reduceBEq, Nat.reduceEqDiff, Nat.reduceLeDiff, Nat.reduceLT, reduceIte, Nat.le_refl, true_or, or_true, and_self, Int.reduceLE, Int.reduceLT, Int.reduceEq, Int.reduceNeg, Int.natCast_nonneg, Int.reduceToNat, ops, vals, dots]
    first | refine caS_i (Twin1_ok x hx.d hx.v hx.s) trivial ?_ | refine caD_i (Twin1_ok x hx.d hx.v hx.s) trivial ?_ | refine gC_i (fun _ => Twin1_ok x hx.d hx.v hx.s) trivial ?_ | refine gCD_i (fun _ => Twin1_ok x hx.d hx.v hx.s) trivial ?_
    simp (config := {contextual := true, maxSteps := 1000000}) only [go_sem, ints, intRows, iv_c, Nat.reduceAdd, Nat.reduceBEq, Nat.reduceEqDiff, Nat.reduceLeDiff, Nat.reduceLT, reduceIte, Nat.le_refl, true_or, or_true, and_self, Int.reduceLE, Int.reduceLT, Int.reduceEq, Int.reduceNeg, Int.natCast_nonneg, Int.reduceToNat, ops, vals, dots]
    have hso : Own 41 (apps (updO noOb 0 (some { k := 12, l := [opV x], cap := none })) us) s 12 (l.map opV) := by
      rcases hs with ⟨h1, rfl, rfl⟩ | ⟨h1, rfl, rfl⟩
      · exact .inl ⟨h1, rfl⟩
      · exact .inr ⟨h1, 37, none, by omega, rfl, by simp [apps, updO]⟩
    refine nxS_app (n := 41) (rows := l.map opV) (xs := [opV x]) hso (by omega) rfl (by simpa using allOps [x]) (by simp [maxLen]; omega) fun v' ob' ho' _ => ?_
    simp (config := {contextual := true, maxSteps := 1000000}) only [go_sem, ints, intRows, iv_c, Nat.reduceAdd, Nat.reduceBEq, Nat.reduceEqDiff, Nat.reduceLeDiff, Nat.reduceLT, reduceIte, Nat.le_refl, true_or, or_true, and_self, Int.reduceLE, Int.reduceLT, Int.reduceEq, Int.reduceNeg, Int.natCast_nonneg, Int.reduceToNat, ops, vals, dots]
    have ho2 : Own 42 ob' v' 12 ((l ++ [x]).map opV) := by rw [List.map_append]; exact ho'
    rw [gV_own ho2 2]
  have hct : canB v x = true := by cases hc : canB v x <;> simp_all
  first | refine caS_i (CloneInts_ok v hv _) (fun ch hch => by obtain ⟨_, _, rfl⟩ := List.mem_map.1 hch; rfl) ?_ | refine caD_i (CloneInts_ok v hv _) (fun ch hch => by obtain ⟨_, _, rfl⟩ := List.mem_map.1 hch; rfl) ?_ | refine gC_i (fun _ => CloneInts_ok v hv _) (fun ch hch => by obtain ⟨_, _, rfl⟩ := List.mem_map.1 hch; rfl) ?_ | refine gCD_i (fun _ => CloneInts_ok v hv _) (fun ch hch => by obtain ⟨_, _, rfl⟩ := List.mem_map.1 hch; rfl) ?_
  have hv0 : (v.length = 0) = False := eq_false (by omega)
  have hsl : (v.set x.dot.p.toNat x.dot.n).length = v.length := by simp
  have htk : List.take v.length (List.map (fun n => [vi n]) (v.set x.dot.p.toNat x.dot.n)) = List.map (fun n => [vi n]) (v.set x.dot.p.toNat x.dot.n) := List.take_of_length_le (by simp)
  obtain ⟨⟨hp0, hp1, hp2⟩, hp3⟩ := canB_t hct
  simp (config := {contextual := true, maxSteps := 1000000}) only [go_sem, ints, intRows, iv_c, Nat.reduceAdd, Nat.reduceBEq, Nat.reduceEqDiff, Nat.reduceLeDiff, Nat.reduceLT, reduceIte, Nat.le_refl, true_or, or_true, and_self, Int.reduceLE, Int.reduceLT, Int.reduceEq, Int.reduceNeg, Int.natCast_nonneg, Int.reduceToNat, ops, vals, dots, hv0, hsl, htk]
  repeat (refine And.intro (by omega) ?_)
  refine caS_i (Again_ok (v.set x.dot.p.toNat x.dot.n) l (by rw [hsl]; exact hv) hl h) ?_ ?_
  · intro s hs ch hch
    simp [ops] at hs
    rw [hs] at hch
    obtain ⟨_, _, rfl⟩ := List.mem_map.1 hch; rfl
  refine nxS_ownT fun s ob1 hs hf1 => ?_
  have hb0 : ob1 0 = some ⟨12, [opV x], none⟩ := by rw [hf1 0 (by omega)]; rfl
  simp (config := {contextual := true, maxSteps := 1000000}) only [go_sem, ints, intRows, iv_c, Nat.reduceAdd, Nat.reduceBEq, Nat.reduceEqDiff, Nat.reduceLeDiff, Nat.reduceLT, reduceIte, Nat.le_refl, true_or, or_true, and_self, Int.reduceLE, Int.reduceLT, Int.reduceEq, Int.reduceNeg, Int.natCast_nonneg, Int.reduceToNat, ops, vals, dots, hb0]
  have hne : ∀ b, hasB v x.dot = b → b = false := fun b h => by subst h; simp at hh; exact hh.1
  refine ⟨fun hag => ?_, fun hag => ?_⟩
  · simp at hag
    have ho : offerV v l x = ([], [], (againV (v.set x.dot.p.toNat x.dot.n) l).2.2) := by unfold offerV; simp only [hw, hh, hct, hag]; simp [hag]
    rw [ho]; rfl
  simp at hag
  have ho : offerV v l x = (x :: (againV (v.set x.dot.p.toNat x.dot.n) l).1, (againV (v.set x.dot.p.toNat x.dot.n) l).2.1, 0) := by unfold offerV; simp only [hw, hh, hct, hag]; simp
  rw [ho]
  first | refine caS_i (Twin1_ok x hx.d hx.v hx.s) trivial ?_ | refine caD_i (Twin1_ok x hx.d hx.v hx.s) trivial ?_ | refine gC_i (fun _ => Twin1_ok x hx.d hx.v hx.s) trivial ?_ | refine gCD_i (fun _ => Twin1_ok x hx.d hx.v hx.s) trivial ?_
  simp (config := {contextual := true, maxSteps := 1000000}) only [go_sem, ints, intRows, iv_c, Nat.reduceAdd, Nat.reduceBEq, Nat.reduceEqDiff, Nat.reduceLeDiff, Nat.reduceLT, reduceIte, Nat.le_refl, true_or, or_true, and_self, Int.reduceLE, Int.reduceLT, Int.reduceEq, Int.reduceNeg, Int.natCast_nonneg, Int.reduceToNat, ops, vals, dots]
  have hal := againV_len (v.set x.dot.p.toNat x.dot.n) l
  have hso : Own 51 (updO ob1 63 (some { k := 12, l := [opV x], cap := none })) s 12 ((againV (v.set x.dot.p.toNat x.dot.n) l).1.map opV) := by
    rcases hs with ⟨h1, rfl⟩ | ⟨h1, rfl, h2⟩
    · exact .inl ⟨h1, rfl⟩
    · exact .inr ⟨h1, 50, none, by omega, rfl, by rw [updO, if_neg (by omega), h2]⟩
  have hns : ∀ len, s ≠ .sl 63 0 len := fun len e => by
    rcases hs with ⟨h1, h2⟩ | ⟨h1, h2, h3⟩
    · rw [h2] at e; cases e
    · rw [h2] at e; injection e; omega
  refine rcS_i (InsertOps_ok (i := 0) (Nat.zero_le _) (by unfold maxLen; omega) hso (by omega) (updO_s _ _ _) (by omega) hns fun v' ob' n' hn' ho' _ => ?_)
  simp (config := {contextual := true, maxSteps := 1000000}) only [go_sem, ints, intRows, iv_c, Nat.reduceAdd, Nat.reduceBEq, Nat.reduceEqDiff, Nat.reduceLeDiff, Nat.reduceLT, reduceIte, Nat.le_refl, true_or, or_true, and_self, Int.reduceLE, Int.reduceLT, Int.reduceEq, Int.reduceNeg, Int.natCast_nonneg, Int.reduceToNat, ops, vals, dots]
  rw [List.take_zero, List.drop_zero, List.nil_append, List.map_cons] at ho'
  rw [out_own ho' (fun ob' r hr => by
    rcases List.mem_cons.1 hr with rfl | hr
    · exact g_op ob' 3 x
    · exact gOps ob' _ r hr) _ (fun ob' => by rw [List.map_cons]; congr 1; exact gV_ops ob' 2 _)]
  rfl
end Go.Proofs.Ytcoecplkcajhgaa.D
end
