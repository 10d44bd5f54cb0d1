/- Calls without arguments, worked out. -/
import Derived.Test.YtdmpjlpkmokllaaDoorXTabVE
import Derived.Test.YtdmpjlpkmokllaaDoorXEval
import Derived.ProofKit
import Derived.Test.YtdmpjlpkmokllaaDoorXBld
import Derived.Test.YtdmpjlpkmokllaaDoorVES
namespace Go.Proofs.YtdmpjlpkmokllaaDoor
open Go Go.X
set_option linter.unusedVariables false
set_option linter.unusedSimpArgs false
set_option maxRecDepth 100000
def tabAnn0 (t : Nat) : Ann := (bif Nat.blt t 51 then (bif Nat.blt t 34 then (bif Nat.blt t 17 then (bif Nat.blt t 15 then (bif Nat.beq t 12 then { keep := [0, 1, 2], dead := fun s => (bif Nat.blt s 27 then (bif Nat.blt s 17 then (bif Nat.blt s 11 then (bif Nat.blt s 8 then (bif Nat.beq s 7 then [3, 4, 5, 6] else []) else (bif Nat.beq s 8 then [7] else bif Nat.beq s 10 then [9] else [])) else (bif Nat.blt s 14 then (bif Nat.beq s 11 then [10] else bif Nat.beq s 13 then [12] else []) else (bif Nat.beq s 14 then [11, 13] else bif Nat.beq s 16 then [15] else []))) else (bif Nat.blt s 22 then (bif Nat.blt s 20 then (bif Nat.beq s 17 then [16] else bif Nat.beq s 19 then [18] else []) else (bif Nat.beq s 20 then [19] else bif Nat.beq s 21 then [17, 20] else [])) else (bif Nat.blt s 25 then (bif Nat.beq s 22 then [21] else bif Nat.beq s 24 then [23] else []) else (bif Nat.beq s 25 then [24] else bif Nat.beq s 26 then [22, 25] else [])))) else (bif Nat.blt s 37 then (bif Nat.blt s 32 then (bif Nat.blt s 30 then (bif Nat.beq s 27 then [26] else bif Nat.beq s 29 then [28] else []) else (bif Nat.beq s 30 then [29] else bif Nat.beq s 31 then [27, 30] else [])) else (bif Nat.blt s 35 then (bif Nat.beq s 32 then [31] else bif Nat.beq s 34 then [33] else []) else (bif Nat.beq s 35 then [34] else bif Nat.beq s 36 then [32, 35] else []))) else (bif Nat.blt s 42 then (bif Nat.blt s 40 then (bif Nat.beq s 37 then [36] else bif Nat.beq s 39 then [38] else []) else (bif Nat.beq s 40 then [39] else bif Nat.beq s 41 then [37, 40] else [])) else (bif Nat.blt s 46 then (bif Nat.beq s 42 then [41] else bif Nat.beq s 45 then [43, 44] else []) else (bif Nat.beq s 46 then [45] else bif Nat.beq s 47 then [42, 46] else []))))) } else { keep := [] }) else (bif Nat.beq t 15 then { keep := [0, 1, 2, 3, 4] } else bif Nat.beq t 16 then { keep := [0, 1, 2, 3, 6], dead := fun s => (bif Nat.blt s 13 then (bif Nat.beq s 5 then [4] else bif Nat.beq s 8 then [7] else []) else (bif Nat.blt s 14 then (bif Nat.beq s 13 then [12] else []) else (bif Nat.beq s 14 then [13] else bif Nat.beq s 15 then [14] else []))), own := fun s => bif Nat.beq s 8 then some 64 else none } else { keep := [] })) else (bif Nat.blt t 20 then (bif Nat.beq t 17 then { keep := [0, 1, 2, 3, 4], dead := fun s => (bif Nat.blt s 33 then (bif Nat.blt s 19 then (bif Nat.blt s 12 then (bif Nat.blt s 9 then (bif Nat.beq s 6 then [5] else bif Nat.beq s 8 then [7] else []) else (bif Nat.beq s 9 then [6, 8] else bif Nat.beq s 10 then [9] else [])) else (bif Nat.blt s 15 then (bif Nat.beq s 12 then [11] else bif Nat.beq s 14 then [13] else []) else (bif Nat.blt s 16 then (bif Nat.beq s 15 then [12, 14] else []) else (bif Nat.beq s 16 then [10, 15] else bif Nat.beq s 17 then [16] else [])))) else (bif Nat.blt s 26 then (bif Nat.blt s 22 then (bif Nat.beq s 19 then [18] else bif Nat.beq s 21 then [20] else []) else (bif Nat.blt s 23 then (bif Nat.beq s 22 then [19, 21] else []) else (bif Nat.beq s 23 then [17, 22] else bif Nat.beq s 24 then [23] else []))) else (bif Nat.blt s 29 then (bif Nat.beq s 26 then [25] else bif Nat.beq s 28 then [27] else []) else (bif Nat.blt s 30 then (bif Nat.beq s 29 then [26, 28] else []) else (bif Nat.beq s 30 then [24, 29] else bif Nat.beq s 31 then [30] else []))))) else (bif Nat.blt s 45 then (bif Nat.blt s 38 then (bif Nat.blt s 36 then (bif Nat.beq s 33 then [32] else bif Nat.beq s 35 then [34] else []) else (bif Nat.beq s 36 then [33, 35] else bif Nat.beq s 37 then [31, 36] else [])) else (bif Nat.blt s 42 then (bif Nat.beq s 38 then [37] else bif Nat.beq s 40 then [39] else []) else (bif Nat.blt s 43 then (bif Nat.beq s 42 then [41] else []) else (bif Nat.beq s 43 then [40, 42] else bif Nat.beq s 44 then [38, 43] else [])))) else (bif Nat.blt s 52 then (bif Nat.blt s 49 then (bif Nat.beq s 45 then [44] else bif Nat.beq s 47 then [46] else []) else (bif Nat.blt s 50 then (bif Nat.beq s 49 then [48] else []) else (bif Nat.beq s 50 then [47, 49] else bif Nat.beq s 51 then [45, 50] else []))) else (bif Nat.blt s 56 then (bif Nat.beq s 52 then [51] else bif Nat.beq s 54 then [53] else []) else (bif Nat.blt s 57 then (bif Nat.beq s 56 then [55] else []) else (bif Nat.beq s 57 then [54, 56] else bif Nat.beq s 58 then [52, 57] else [])))))) } else bif Nat.beq t 19 then { keep := [0, 1, 2] } else { keep := [] }) else (bif Nat.beq t 20 then { keep := [0, 1, 2] } else bif Nat.beq t 33 then { keep := [0, 1, 2, 3, 4] } else { keep := [] }))) else (bif Nat.blt t 39 then (bif Nat.blt t 36 then (bif Nat.beq t 34 then { keep := [0, 1, 2, 3, 4, 6], dead := fun s => (bif Nat.blt s 14 then (bif Nat.blt s 11 then (bif Nat.beq s 8 then [7] else bif Nat.beq s 10 then [9] else []) else (bif Nat.beq s 11 then [10] else bif Nat.beq s 13 then [12] else [])) else (bif Nat.blt s 17 then (bif Nat.beq s 14 then [11, 13] else bif Nat.beq s 15 then [14] else []) else (bif Nat.beq s 17 then [16] else bif Nat.beq s 18 then [15, 17] else []))) } else bif Nat.beq t 35 then { keep := [0, 1, 2, 3, 4, 5, 7, 8, 9, 10, 33, 37], dead := fun s => (bif Nat.blt s 74 then (bif Nat.blt s 54 then (bif Nat.blt s 44 then (bif Nat.blt s 36 then (bif Nat.blt s 7 then (bif Nat.beq s 3 then [11] else []) else (bif Nat.beq s 7 then [6] else bif Nat.beq s 13 then [12] else [])) else (bif Nat.blt s 42 then (bif Nat.beq s 36 then [35] else bif Nat.beq s 39 then [38] else []) else (bif Nat.beq s 42 then [41] else bif Nat.beq s 43 then [42] else []))) else (bif Nat.blt s 49 then (bif Nat.blt s 47 then (bif Nat.beq s 44 then [43] else bif Nat.beq s 46 then [45] else []) else (bif Nat.beq s 47 then [46] else bif Nat.beq s 48 then [44, 47] else [])) else (bif Nat.blt s 52 then (bif Nat.beq s 49 then [48] else bif Nat.beq s 51 then [50] else []) else (bif Nat.beq s 52 then [51] else bif Nat.beq s 53 then [49, 52] else [])))) else (bif Nat.blt s 63 then (bif Nat.blt s 58 then (bif Nat.blt s 56 then (bif Nat.beq s 54 then [53] else []) else (bif Nat.beq s 56 then [55] else bif Nat.beq s 57 then [56] else [])) else (bif Nat.blt s 61 then (bif Nat.beq s 58 then [54, 57] else bif Nat.beq s 59 then [58] else []) else (bif Nat.beq s 61 then [60] else bif Nat.beq s 62 then [61] else []))) else (bif Nat.blt s 68 then (bif Nat.blt s 65 then (bif Nat.beq s 63 then [62] else bif Nat.beq s 64 then [59, 63] else []) else (bif Nat.beq s 65 then [64] else bif Nat.beq s 67 then [66] else [])) else (bif Nat.blt s 72 then (bif Nat.beq s 68 then [67] else bif Nat.beq s 69 then [68] else []) else (bif Nat.beq s 72 then [70, 71] else bif Nat.beq s 73 then [69, 72] else []))))) else (bif Nat.blt s 95 then (bif Nat.blt s 84 then (bif Nat.blt s 80 then (bif Nat.blt s 77 then (bif Nat.beq s 74 then [73] else []) else (bif Nat.beq s 77 then [75, 76] else bif Nat.beq s 78 then [77] else [])) else (bif Nat.blt s 82 then (bif Nat.beq s 80 then [79] else bif Nat.beq s 81 then [80] else []) else (bif Nat.beq s 82 then [78, 81] else bif Nat.beq s 83 then [74, 82] else []))) else (bif Nat.blt s 89 then (bif Nat.blt s 87 then (bif Nat.beq s 84 then [65, 83] else bif Nat.beq s 85 then [84] else []) else (bif Nat.beq s 87 then [86] else bif Nat.beq s 88 then [87] else [])) else (bif Nat.blt s 93 then (bif Nat.beq s 89 then [88] else bif Nat.beq s 92 then [90, 91] else []) else (bif Nat.beq s 93 then [89, 92] else bif Nat.beq s 94 then [85, 93] else [])))) else (bif Nat.blt s 106 then (bif Nat.blt s 100 then (bif Nat.blt s 98 then (bif Nat.beq s 95 then [94] else bif Nat.beq s 97 then [96] else []) else (bif Nat.beq s 98 then [97] else bif Nat.beq s 99 then [98] else [])) else (bif Nat.blt s 104 then (bif Nat.beq s 100 then [99] else bif Nat.beq s 103 then [101, 102] else []) else (bif Nat.beq s 104 then [100, 103] else bif Nat.beq s 105 then [95, 104] else []))) else (bif Nat.blt s 111 then (bif Nat.blt s 109 then (bif Nat.beq s 106 then [105] else bif Nat.beq s 108 then [107] else []) else (bif Nat.beq s 109 then [108] else bif Nat.beq s 110 then [109] else [])) else (bif Nat.blt s 115 then (bif Nat.beq s 111 then [110] else bif Nat.beq s 114 then [112, 113] else []) else (bif Nat.beq s 115 then [111, 114] else bif Nat.beq s 116 then [106, 115] else [])))))) } else { keep := [] }) else (bif Nat.beq t 36 then { keep := [0, 1, 3, 5, 6, 12, 21, 32, 38, 44, 50, 77, 94], dead := fun s => (bif Nat.blt s 91 then (bif Nat.blt s 63 then (bif Nat.blt s 36 then (bif Nat.beq s 9 then [8] else bif Nat.beq s 10 then [9] else []) else (bif Nat.blt s 42 then (bif Nat.beq s 36 then [35] else []) else (bif Nat.beq s 42 then [41] else bif Nat.beq s 48 then [47] else []))) else (bif Nat.blt s 71 then (bif Nat.blt s 66 then (bif Nat.beq s 63 then [62] else []) else (bif Nat.beq s 66 then [65] else bif Nat.beq s 67 then [66] else [])) else (bif Nat.blt s 74 then (bif Nat.beq s 71 then [70] else []) else (bif Nat.beq s 74 then [73] else bif Nat.beq s 75 then [74] else [])))) else (bif Nat.blt s 109 then (bif Nat.blt s 101 then (bif Nat.blt s 96 then (bif Nat.beq s 91 then [90] else []) else (bif Nat.beq s 96 then [95] else bif Nat.beq s 97 then [96] else [])) else (bif Nat.blt s 104 then (bif Nat.beq s 101 then [100] else []) else (bif Nat.beq s 104 then [103] else bif Nat.beq s 105 then [104] else []))) else (bif Nat.blt s 117 then (bif Nat.blt s 112 then (bif Nat.beq s 109 then [108] else []) else (bif Nat.beq s 112 then [111] else bif Nat.beq s 113 then [112] else [])) else (bif Nat.blt s 120 then (bif Nat.beq s 117 then [116] else []) else (bif Nat.beq s 120 then [119] else bif Nat.beq s 121 then [120] else []))))) } else bif Nat.beq t 38 then { keep := [0, 1, 2, 6, 7, 8, 9, 14, 15, 16, 17, 18, 30], dead := fun s => (bif Nat.blt s 21 then (bif Nat.blt s 11 then (bif Nat.beq s 7 then [19] else []) else (bif Nat.beq s 11 then [10] else bif Nat.beq s 13 then [12] else [])) else (bif Nat.blt s 25 then (bif Nat.beq s 21 then [20] else bif Nat.beq s 24 then [22, 23] else []) else (bif Nat.beq s 25 then [24] else bif Nat.beq s 29 then [26, 27, 28] else []))) } else { keep := [] })) else (bif Nat.blt t 41 then (bif Nat.beq t 39 then { keep := [0, 1, 4], dead := fun s => (bif Nat.beq s 7 then [5, 6] else []) } else bif Nat.beq t 40 then { keep := [0, 2, 5], dead := fun s => (bif Nat.beq s 3 then [3] else bif Nat.beq s 7 then [6] else []) } else { keep := [] }) else (bif Nat.beq t 41 then { keep := [0, 1, 2, 5], dead := fun s => (bif Nat.beq s 3 then [3] else bif Nat.beq s 8 then [6, 7] else []) } else bif Nat.beq t 50 then { keep := [0, 1, 2, 3, 4, 6, 8, 10, 15, 17, 18, 19, 20, 28, 31, 32, 33, 34, 43], dead := fun s => (bif Nat.blt s 31 then (bif Nat.blt s 22 then (bif Nat.beq s 14 then [11, 12, 13] else bif Nat.beq s 17 then [16] else []) else (bif Nat.blt s 26 then (bif Nat.beq s 22 then [21] else []) else (bif Nat.beq s 26 then [25] else bif Nat.beq s 27 then [23, 24, 26] else []))) else (bif Nat.blt s 39 then (bif Nat.beq s 31 then [30] else bif Nat.beq s 36 then [35] else []) else (bif Nat.blt s 41 then (bif Nat.beq s 39 then [38] else []) else (bif Nat.beq s 41 then [40] else bif Nat.beq s 42 then [37, 39, 41] else [])))) } else { keep := [] })))) else (bif Nat.blt t 59 then (bif Nat.blt t 54 then (bif Nat.blt t 52 then (bif Nat.beq t 51 then { keep := [0, 2], dead := fun s => (bif Nat.blt s 7 then (bif Nat.beq s 4 then [3] else bif Nat.beq s 5 then [4] else []) else (bif Nat.blt s 8 then (bif Nat.beq s 7 then [6] else []) else (bif Nat.beq s 8 then [7] else bif Nat.beq s 9 then [5, 8] else []))) } else { keep := [] }) else (bif Nat.beq t 52 then { keep := [0, 1, 2, 3, 4, 33, 47, 49, 50], dead := fun s => (bif Nat.blt s 26 then (bif Nat.blt s 15 then (bif Nat.blt s 10 then (bif Nat.blt s 7 then (bif Nat.beq s 3 then [38] else bif Nat.beq s 6 then [5] else []) else (bif Nat.beq s 7 then [6] else bif Nat.beq s 8 then [7] else [])) else (bif Nat.blt s 12 then (bif Nat.beq s 10 then [9] else bif Nat.beq s 11 then [10] else []) else (bif Nat.beq s 12 then [8, 11] else bif Nat.beq s 13 then [12] else []))) else (bif Nat.blt s 20 then (bif Nat.blt s 17 then (bif Nat.beq s 15 then [14] else bif Nat.beq s 16 then [15] else []) else (bif Nat.beq s 17 then [13, 16] else bif Nat.beq s 18 then [17] else [])) else (bif Nat.blt s 22 then (bif Nat.beq s 20 then [19] else bif Nat.beq s 21 then [20] else []) else (bif Nat.blt s 23 then (bif Nat.beq s 22 then [21] else []) else (bif Nat.beq s 23 then [18, 22] else bif Nat.beq s 24 then [23] else []))))) else (bif Nat.blt s 39 then (bif Nat.blt s 31 then (bif Nat.blt s 28 then (bif Nat.beq s 26 then [25] else bif Nat.beq s 27 then [26] else []) else (bif Nat.beq s 28 then [27] else bif Nat.beq s 30 then [29] else [])) else (bif Nat.blt s 34 then (bif Nat.beq s 31 then [30] else bif Nat.beq s 32 then [28, 31] else []) else (bif Nat.blt s 36 then (bif Nat.beq s 34 then [37] else []) else (bif Nat.beq s 36 then [35] else bif Nat.beq s 37 then [36] else [])))) else (bif Nat.blt s 46 then (bif Nat.blt s 43 then (bif Nat.beq s 39 then [34] else bif Nat.beq s 41 then [40] else []) else (bif Nat.beq s 43 then [42] else bif Nat.beq s 45 then [43, 44] else [])) else (bif Nat.blt s 56 then (bif Nat.beq s 46 then [45] else bif Nat.beq s 55 then [54] else []) else (bif Nat.blt s 58 then (bif Nat.beq s 56 then [55] else []) else (bif Nat.beq s 58 then [57] else bif Nat.beq s 59 then [58] else [])))))), again := fun s => bif Nat.beq s 50 then true else false } else bif Nat.beq t 53 then { keep := [0, 1, 3], dead := fun s => (bif Nat.beq s 6 then [5] else bif Nat.beq s 7 then [4, 6] else []) } else { keep := [] })) else (bif Nat.blt t 57 then (bif Nat.beq t 54 then { keep := [0, 1, 4], dead := fun s => (bif Nat.beq s 7 then [5, 6] else bif Nat.beq s 8 then [7] else []) } else bif Nat.beq t 55 then { keep := [0, 1, 4, 5], dead := fun s => (bif Nat.blt s 14 then (bif Nat.blt s 11 then (bif Nat.beq s 4 then [18] else bif Nat.beq s 10 then [9] else []) else (bif Nat.beq s 11 then [10] else bif Nat.beq s 12 then [11] else [])) else (bif Nat.blt s 16 then (bif Nat.beq s 14 then [12, 13] else bif Nat.beq s 15 then [8] else []) else (bif Nat.beq s 16 then [15] else bif Nat.beq s 18 then [17] else []))) } else { keep := [] }) else (bif Nat.beq t 57 then { keep := [0, 1, 4, 5, 11, 12, 13, 18, 24, 35], dead := fun s => (bif Nat.blt s 29 then (bif Nat.blt s 17 then (bif Nat.blt s 8 then (bif Nat.beq s 7 then [6] else []) else (bif Nat.beq s 8 then [7] else bif Nat.beq s 11 then [10] else [])) else (bif Nat.blt s 21 then (bif Nat.beq s 17 then [15, 16] else bif Nat.beq s 20 then [19] else []) else (bif Nat.beq s 21 then [20] else bif Nat.beq s 28 then [27] else []))) else (bif Nat.blt s 38 then (bif Nat.blt s 32 then (bif Nat.beq s 29 then [28] else bif Nat.beq s 31 then [30] else []) else (bif Nat.beq s 32 then [31] else bif Nat.beq s 33 then [32] else [])) else (bif Nat.blt s 43 then (bif Nat.beq s 38 then [37] else bif Nat.beq s 39 then [38] else []) else (bif Nat.beq s 43 then [42] else bif Nat.beq s 44 then [43] else [])))), again := fun s => bif Nat.beq s 24 then true else false } else bif Nat.beq t 58 then { keep := [0, 1, 4, 5, 10, 11, 12, 13, 18], dead := fun s => (bif Nat.blt s 20 then (bif Nat.blt s 8 then (bif Nat.beq s 4 then [14] else bif Nat.beq s 7 then [6] else []) else (bif Nat.beq s 8 then [7] else bif Nat.beq s 16 then [15] else [])) else (bif Nat.blt s 28 then (bif Nat.beq s 20 then [19] else bif Nat.beq s 21 then [20] else []) else (bif Nat.beq s 28 then [27] else bif Nat.beq s 29 then [28] else []))) } else { keep := [] }))) else (bif Nat.blt t 84 then (bif Nat.blt t 62 then (bif Nat.beq t 59 then { keep := [0, 1, 4, 5, 10, 11, 12, 13, 18], dead := fun s => (bif Nat.blt s 25 then (bif Nat.blt s 16 then (bif Nat.blt s 7 then (bif Nat.beq s 4 then [14] else []) else (bif Nat.beq s 7 then [6] else bif Nat.beq s 8 then [7] else [])) else (bif Nat.blt s 20 then (bif Nat.beq s 16 then [15] else []) else (bif Nat.beq s 20 then [19] else bif Nat.beq s 21 then [20] else []))) else (bif Nat.blt s 33 then (bif Nat.blt s 28 then (bif Nat.beq s 25 then [24] else []) else (bif Nat.beq s 28 then [27] else bif Nat.beq s 29 then [28] else [])) else (bif Nat.blt s 37 then (bif Nat.beq s 33 then [32] else []) else (bif Nat.beq s 37 then [36] else bif Nat.beq s 38 then [37] else [])))) } else bif Nat.beq t 60 then { keep := [0, 1, 4], dead := fun s => (bif Nat.blt s 13 then (bif Nat.blt s 10 then (bif Nat.beq s 9 then [8] else []) else (bif Nat.beq s 10 then [9] else bif Nat.beq s 11 then [10] else [])) else (bif Nat.blt s 15 then (bif Nat.beq s 13 then [12] else bif Nat.beq s 14 then [11, 13] else []) else (bif Nat.beq s 15 then [7] else bif Nat.beq s 16 then [15] else []))) } else { keep := [] }) else (bif Nat.beq t 62 then { keep := [0, 1, 2, 6, 7, 8, 9, 14, 15, 16, 17, 18, 30], dead := fun s => (bif Nat.blt s 21 then (bif Nat.blt s 11 then (bif Nat.beq s 7 then [19] else []) else (bif Nat.beq s 11 then [10] else bif Nat.beq s 13 then [12] else [])) else (bif Nat.blt s 25 then (bif Nat.beq s 21 then [20] else bif Nat.beq s 24 then [22, 23] else []) else (bif Nat.beq s 25 then [24] else bif Nat.beq s 29 then [26, 27, 28] else []))) } else bif Nat.beq t 63 then { keep := [0, 1, 2, 3, 4], dead := fun s => (bif Nat.blt s 12 then (bif Nat.blt s 9 then (bif Nat.beq s 6 then [5] else bif Nat.beq s 8 then [7] else []) else (bif Nat.beq s 9 then [6, 8] else bif Nat.beq s 10 then [9] else [])) else (bif Nat.blt s 15 then (bif Nat.beq s 12 then [11] else bif Nat.beq s 14 then [13] else []) else (bif Nat.beq s 15 then [12, 14] else bif Nat.beq s 16 then [10, 15] else []))) } else { keep := [] })) else (bif Nat.blt t 86 then (bif Nat.beq t 84 then { keep := [0, 2, 3, 4, 5, 8, 11, 14], dead := fun s => (bif Nat.beq s 2 then [13] else []), again := fun s => bif Nat.beq s 14 then true else false } else bif Nat.beq t 85 then { keep := [0, 1, 2, 6, 7, 8, 9, 14, 15, 16, 17, 18, 30], dead := fun s => (bif Nat.blt s 21 then (bif Nat.blt s 11 then (bif Nat.beq s 7 then [19] else []) else (bif Nat.beq s 11 then [10] else bif Nat.beq s 13 then [12] else [])) else (bif Nat.blt s 25 then (bif Nat.beq s 21 then [20] else bif Nat.beq s 24 then [22, 23] else []) else (bif Nat.beq s 25 then [24] else bif Nat.beq s 29 then [26, 27, 28] else []))) } else { keep := [] }) else (bif Nat.beq t 86 then { keep := [0, 1, 2, 4], dead := fun s => (bif Nat.beq s 6 then [5] else bif Nat.beq s 8 then [6, 7] else []) } else bif Nat.beq t 87 then { keep := [0, 1, 4, 5, 7, 8, 9, 16], dead := fun s => (bif Nat.blt s 14 then (bif Nat.beq s 7 then [6] else []) else (bif Nat.beq s 14 then [12, 13] else bif Nat.beq s 15 then [14] else [])) } else { keep := [] })))))
def tab0 : Tab := { ty := tabTy, zero := tabZero, ann := tabAnn0, eqs := tabEqs }
theorem tab0_is_ok : TabOK Tryd.prog tab0 := ⟨tab_is_ok.ty, tab_is_ok.zero, tab_is_ok.eq, tab_is_ok.unit⟩
def k12 : XC :=
  .seq (.region [xo 0 (.assign (.const (.bool false))) []])
 (.seq (.region [xo 3 (.build 27 #[]) [], xo 4 (.build 27 #[(0, (.const (.int .u8 1))), (1, (.const (.int .i64 (-5))))]) [], xo 5 (.build 27 #[(0, (.const (.int .u8 2))), (1, (.const (.int .i64 1)))]) [], xo 6 (.build 27 #[(0, (.const (.int .u8 3))), (2, (.const (.string { data := #[97, 34, 98] })))]) [], xo 7 (.buildSlice 23 4 #[(0, (xt 3)), (1, (xt 4)), (2, (xt 5)), (3, (xt 6))]) [3,4,5,6], xo 8 (.build 27 #[(0, (.const (.int .u8 4))), (3, (xt 7))]) [7], xo 1 (.alloc 27) [], xn (.store 27 (xt 1) (xt 8))])
 (.seq (.region [xo 9 (.build 27 #[(0, (.const (.int .u8 1))), (1, (.const (.int .i64 5)))]) [], xo 10 (.build 36 #[(0, (.const (.string { data := #[105, 100] }))), (1, (xt 9))]) [9], xo 11 (.buildSlice 24 1 #[(0, (xt 10))]) [10], xo 12 (.build 27 #[(0, (.const (.int .u8 3))), (2, (.const (.string { data := #[104, 105] })))]) [], xo 13 (.buildSlice 23 1 #[(0, (xt 12))]) [12], xo 14 (.build 27 #[(0, (.const (.int .u8 6))), (5, (.const (.int .u8 1))), (2, (.const (.string { data := #[100, 105, 118] }))), (7, (.const (.bool true))), (6, (.const (.string { data := #[107] }))), (4, (xt 11)), (3, (xt 13))]) [11,13], xo 2 (.alloc 27) [], xn (.store 27 (xt 2) (xt 14))])
 (.seq (.regionG [xo 15 (.load 27 (xt 1)) [], xo 16 (xc 15 [15] [27]) [15], xo 17 (.move (xt 16)) [16], xg 18 (.load 27 (xt 1)) 17 true [], xg 19 (xc 16 [18] [27]) 17 true [18], xg 20 (.binOp .eql 9 (xt 19) (.const (.string { data := #[91, 110, 111, 110, 101, 32, 45, 53, 32, 121, 101, 115, 32, 34, 97, 92, 34, 98, 34, 93] })) 9) 17 true [19], xo 21 (.pick (xt 17) (xt 20) (.const (.bool false))) [17,20], xo 22 (.move (xt 21)) [21], xg 23 (.load 27 (xt 2)) 22 true [], xg 24 (xc 16 [23] [27]) 22 true [23], xg 25 (.binOp .eql 9 (xt 24) (.const (.string { data := #[60, 104, 111, 115, 116, 32, 34, 100, 105, 118, 34, 32, 107, 101, 121, 32, 34, 107, 34, 32, 123, 34, 105, 100, 34, 32, 53, 125, 32, 91, 34, 104, 105, 34, 93, 62] })) 9) 22 true [24], xo 26 (.pick (xt 22) (xt 25) (.const (.bool false))) [22,25], xo 27 (.move (xt 26)) [26], xg 28 (.build 27 #[(0, (.const (.int .u8 2))), (1, (.const (.int .i64 2)))]) 27 true [], xg 29 (xc 15 [28] [27]) 27 true [28], xg 30 (.unOp .not 4 (xt 29)) 27 true [29], xo 31 (.pick (xt 27) (xt 30) (.const (.bool false))) [27,30], xo 32 (.move (xt 31)) [31], xg 33 (.load 27 (xt 1)) 32 true [], xg 34 (xc 19 [33] [27]) 32 true [33], xg 35 (.binOp .eql 3 (xt 34) (.const (.int .i64 5)) 3) 32 true [34], xo 36 (.pick (xt 32) (xt 35) (.const (.bool false))) [32,35], xo 37 (.move (xt 36)) [36], xg 38 (.load 27 (xt 1)) 37 true [], xg 39 (xc 20 [38] [27]) 37 true [38], xg 40 (.binOp .eql 3 (xt 39) (.const (.int .i64 2)) 3) 37 true [39], xo 41 (.pick (xt 37) (xt 40) (.const (.bool false))) [37,40], xo 42 (.move (xt 41)) [41], xg 43 (.load 27 (xt 1)) 42 true [], xg 44 (.load 27 (xt 2)) 42 true [], xg 45 (xc 17 [43,44] [27,27]) 42 true [43,44], xg 46 (.unOp .not 4 (xt 45)) 42 true [45], xo 47 (.pick (xt 42) (xt 46) (.const (.bool false))) [42,46], xo 0 (.assign (xt 47)) []])
 (.ret))))
theorem k12_ok : Tryd.f12.body.map (strip (tab0.ann 12)) = some k12 := by kernel_rfl
def k15 : XC :=
  .seq (.region [xo 1 (.box 27 (xt 0)) [], xo 2 (.assign (.const (.bool false))) []])
 (.seq (.region [xo 3 (.alloc 3) [], xo 4 (.alloc 4) [], xn (.store 3 (xt 3) (.const (.int .i64 0))), xn (.store 4 (xt 4) (.const (.bool true)))])
 (.seq (.region [xo 5 (.load 27 (xt 1)) [], xo 6 (.makeFunc (.func 34) #[] #[(xt 3), (xt 4)]) [], xo 7 (xc 33 [5,6] [27,60]) []])
 (.seq (.region [xo 8 (.load 4 (xt 4)) [], xo 2 (.assign (xt 8)) []])
 (.ret))))
theorem k15_ok : Tryd.f15.body.map (strip (tab0.ann 15)) = some k15 := by kernel_rfl
def k16 : XC :=
  .seq (.region [xo 1 (.box 27 (xt 0)) [], xo 2 (.assign (.const (.string { data := #[] }))) []])
 (.seq (.seq (.region [xo 4 (.load 27 (xt 1)) [], xo 5 (xc 15 [4] [27]) [4], xo 6 (.unOp .not 4 (xt 5)) []])
 (.cond 6 (.seq (.region [xo 2 (.assign (.const (.string { data := #[] }))) []])
 (.ret)) (.skip)))
 (.seq (.region [xo 7 (.build 66 #[]) [], xo 8 (.box 66 (xt 7)) [7], xo 3 (.assign (xt 8)) []])
 (.seq (.region [xo 9 (.move (xt 3)) [], xo 10 (.load 27 (xt 1)) [], xo 11 (xc 36 [9,10] [61,27]) []])
 (.seq (.region [xo 12 (.move (xt 3)) [], xo 13 (.nilCheck (xt 12)) [12], xo 14 (.fieldAddr 66 (xt 13) 0) [13], xo 15 (xc 37 [14] [64]) [14], xo 2 (.assign (xt 15)) []])
 (.ret)))))
theorem k16_ok : Tryd.f16.body.map (strip (tab0.ann 16)) = some k16 := by kernel_rfl
def k17 : XC :=
  .seq (.region [xo 2 (.box 27 (xt 0)) [], xo 3 (.box 27 (xt 1)) [], xo 4 (.assign (.const (.bool false))) []])
 (.seq (.regionG [xo 5 (.fieldAddr 27 (xt 2) 0) [], xo 6 (.load 22 (xt 5)) [5], xo 7 (.fieldAddr 27 (xt 3) 0) [], xo 8 (.load 22 (xt 7)) [7], xo 9 (.binOp .eql 22 (xt 6) (xt 8) 22) [6,8], xo 10 (.move (xt 9)) [9], xg 11 (.fieldAddr 27 (xt 2) 1) 10 true [], xg 12 (.load 2 (xt 11)) 10 true [11], xg 13 (.fieldAddr 27 (xt 3) 1) 10 true [], xg 14 (.load 2 (xt 13)) 10 true [13], xg 15 (.binOp .eql 2 (xt 12) (xt 14) 2) 10 true [12,14], xo 16 (.pick (xt 10) (xt 15) (.const (.bool false))) [10,15], xo 17 (.move (xt 16)) [16], xg 18 (.fieldAddr 27 (xt 2) 2) 17 true [], xg 19 (.load 9 (xt 18)) 17 true [18], xg 20 (.fieldAddr 27 (xt 3) 2) 17 true [], xg 21 (.load 9 (xt 20)) 17 true [20], xg 22 (.binOp .eql 9 (xt 19) (xt 21) 9) 17 true [19,21], xo 23 (.pick (xt 17) (xt 22) (.const (.bool false))) [17,22], xo 24 (.move (xt 23)) [23], xg 25 (.fieldAddr 27 (xt 2) 5) 24 true [], xg 26 (.load 25 (xt 25)) 24 true [25], xg 27 (.fieldAddr 27 (xt 3) 5) 24 true [], xg 28 (.load 25 (xt 27)) 24 true [27], xg 29 (.binOp .eql 25 (xt 26) (xt 28) 25) 24 true [26,28], xo 30 (.pick (xt 24) (xt 29) (.const (.bool false))) [24,29], xo 31 (.move (xt 30)) [30], xg 32 (.fieldAddr 27 (xt 2) 6) 31 true [], xg 33 (.load 9 (xt 32)) 31 true [32], xg 34 (.fieldAddr 27 (xt 3) 6) 31 true [], xg 35 (.load 9 (xt 34)) 31 true [34], xg 36 (.binOp .eql 9 (xt 33) (xt 35) 9) 31 true [33,35], xo 37 (.pick (xt 31) (xt 36) (.const (.bool false))) [31,36], xo 38 (.move (xt 37)) [37], xg 39 (.fieldAddr 27 (xt 2) 7) 38 true [], xg 40 (.load 4 (xt 39)) 38 true [39], xg 41 (.fieldAddr 27 (xt 3) 7) 38 true [], xg 42 (.load 4 (xt 41)) 38 true [41], xg 43 (.binOp .eql 4 (xt 40) (xt 42) 4) 38 true [40,42], xo 44 (.pick (xt 38) (xt 43) (.const (.bool false))) [38,43], xo 45 (.move (xt 44)) [44], xg 46 (.fieldAddr 27 (xt 2) 3) 45 true [], xg 47 (.load 23 (xt 46)) 45 true [46], xg 48 (.fieldAddr 27 (xt 3) 3) 45 true [], xg 49 (.load 23 (xt 48)) 45 true [48], xg 50 (.call { callee := (.value (.func 38)), args := #[(xt 47), (xt 49), (.func 17)], argTypes := #[23, 23, 33] }) 45 true [47,49], xo 51 (.pick (xt 45) (xt 50) (.const (.bool false))) [45,50], xo 52 (.move (xt 51)) [51], xg 53 (.fieldAddr 27 (xt 2) 4) 52 true [], xg 54 (.load 24 (xt 53)) 52 true [53], xg 55 (.fieldAddr 27 (xt 3) 4) 52 true [], xg 56 (.load 24 (xt 55)) 52 true [55], xg 57 (xc 39 [54,56] [24,24]) 52 true [54,56], xo 58 (.pick (xt 52) (xt 57) (.const (.bool false))) [52,57], xo 4 (.assign (xt 58)) []])
 (.ret))
theorem k17_ok : Tryd.f17.body.map (strip (tab0.ann 17)) = some k17 := by kernel_rfl
def k19 : XC :=
  .seq (.region [xo 1 (.box 27 (xt 0)) [], xo 2 (.alloc 3) []])
 (.seq (.region [xo 3 (.load 27 (xt 1)) [], xo 4 (.makeFunc (.func 40) #[] #[(xt 2)]) [], xo 5 (xc 33 [3,4] [27,60]) []])
 (.seq (.region [xo 6 (.load 3 (xt 2)) [], xn (.store 3 (xt 2) (xt 6))])
 (.ret)))
theorem k19_ok : Tryd.f19.body.map (strip (tab0.ann 19)) = some k19 := by kernel_rfl
def k20 : XC :=
  .seq (.region [xo 1 (.box 27 (xt 0)) [], xo 2 (.alloc 3) []])
 (.seq (.region [xo 3 (.load 27 (xt 1)) [], xo 4 (.makeFunc (.func 41) #[] #[(xt 2)]) [], xo 5 (xc 33 [3,4] [27,60]) []])
 (.seq (.region [xo 6 (.load 3 (xt 2)) [], xn (.store 3 (xt 2) (xt 6))])
 (.ret)))
theorem k20_ok : Tryd.f20.body.map (strip (tab0.ann 20)) = some k20 := by kernel_rfl
def k33 : XC :=
  .seq (.region [xo 2 (.box 27 (xt 0)) [], xo 3 (.box 60 (xt 1)) []])
 (.seq (.region [xo 4 (.alloc 60) []])
 (.seq (.region [xo 5 (.makeFunc (.func 50) #[] #[(xt 3), (xt 4)]) [], xn (.store 60 (xt 4) (xt 5))])
 (.region [xo 6 (.load 60 (xt 4)) [], xo 7 (.load 27 (xt 2)) [], xo 8 (.call { callee := (.value (xt 6)), args := #[(xt 7), (.const (.int .i64 1))], argTypes := #[27, 3] }) []])))
theorem k33_ok : Tryd.f33.body.map (strip (tab0.ann 33)) = some k33 := by kernel_rfl
def k34 : XC :=
  .seq (.region [xo 4 (.box 27 (xt 0)) [], xo 6 (.assign (.const (.bool false))) []])
 (.seq (.region [xo 7 (.load 3 (xt 2)) [], xo 8 (.binOp .add 3 (xt 7) (.const (.int .i64 1)) 3) [7], xn (.store 3 (xt 2) (xt 8))])
 (.seq (.regionG [xo 9 (.load 27 (xt 4)) [], xo 10 (xc 35 [9] [27]) [9], xo 11 (.move (xt 10)) [10], xg 12 (.load 3 (xt 2)) 11 true [], xg 13 (.binOp .leq 3 (xt 12) (.const (.int .i64 4096)) 3) 11 true [12], xo 14 (.pick (xt 11) (xt 13) (.const (.bool false))) [11,13], xo 15 (.move (xt 14)) [14], xg 16 (.move (xt 1)) 15 true [], xg 17 (.binOp .leq 3 (xt 16) (.const (.int .i64 64)) 3) 15 true [16], xo 18 (.pick (xt 15) (xt 17) (.const (.bool false))) [15,17], xn (.store 4 (xt 3) (xt 18))])
 (.seq (.region [xo 19 (.load 4 (xt 3)) [], xo 6 (.assign (xt 19)) []])
 (.ret))))
theorem k34_ok : Tryd.f34.body.map (strip (tab0.ann 34)) = some k34 := by kernel_rfl
def k35 : XC :=
  .seq (.region [xo 1 (.box 27 (xt 0)) [], xo 2 (.assign (.const (.bool false))) []])
 (.seq (.seq (.region [xo 6 (.fieldAddr 27 (xt 1) 4) [], xo 7 (.load 24 (xt 6)) [6], xo 8 (xb .len [7] [24]) [], xo 9 (.move (.const (.int .i64 0))) []])
 (.block 0 (.loop (.seq (.region [xo 10 (.binOp .lss 3 (xt 9) (xt 8) 3) []])
 (.seq (.cond 10 (.skip) (.exit 0))
 (.seq (.block 1 (.seq (.region [xo 11 (.move (xt 9)) [], xo 12 (.indexAddr 24 (xt 7) (xt 9)) [], xo 13 (.load 36 (xt 12)) [12], xo 4 (.alloc 36) [], xo 3 (.assign (xt 11)) [11], xn (.store 36 (xt 4) (xt 13))])
 (.seq (.regionG [xo 14 (.fieldAddr 36 (xt 4) 0) [], xo 15 (.load 9 (xt 14)) [], xo 16 (xc 51 [15] [9]) [], xo 17 (.unOp .not 4 (xt 16)) [], xo 18 (.move (xt 17)) [], xg 19 (.move (xt 3)) 18 false [], xg 20 (.binOp .gtr 3 (xt 19) (.const (.int .i64 0)) 3) 18 false [], xg 21 (.move (xt 20)) 18 false [], xg 22 (.fieldAddr 27 (xt 1) 4) 21 true [], xg 23 (.load 24 (xt 22)) 21 true [], xg 24 (.move (xt 3)) 21 true [], xg 25 (.binOp .sub 3 (xt 24) (.const (.int .i64 1)) 3) 21 true [], xg 26 (.indexAddr 24 (xt 23) (xt 25)) 21 true [], xg 27 (.fieldAddr 36 (xt 26) 0) 21 true [], xg 28 (.load 9 (xt 27)) 21 true [], xg 29 (.fieldAddr 36 (xt 4) 0) 21 true [], xg 30 (.load 9 (xt 29)) 21 true [], xg 31 (.binOp .geq 9 (xt 28) (xt 30) 9) 21 true [], xg 32 (.pick (xt 21) (xt 31) (.const (.bool false))) 18 false [], xo 33 (.pick (xt 18) (.const (.bool true)) (xt 32)) []])
 (.cond 33 (.seq (.region [xo 2 (.assign (.const (.bool false))) []])
 (.ret)) (.skip)))))
 (.region [xo 34 (.binOp .add 3 (xt 9) (.const (.int .i64 1)) 3) [], xo 9 (.move (xt 34)) []])))))))
 (.seq (.seq (.region [xo 35 (.fieldAddr 27 (xt 1) 0) [], xo 36 (.load 22 (xt 35)) [35], xo 37 (.binOp .eql 22 (xt 36) (.const (.int .u8 6)) 22) []])
 (.cond 37 (.seq (.region [xo 38 (.load 27 (xt 1)) [], xo 39 (xc 52 [38] [27]) [38], xo 2 (.assign (xt 39)) []])
 (.ret)) (.skip)))
 (.seq (.region [xo 40 (.makeFunc (.func 53) #[] #[(xt 1)]) [], xo 5 (.assign (xt 40)) []])
 (.seq (.regionG [xo 41 (.fieldAddr 27 (xt 1) 0) [], xo 42 (.load 22 (xt 41)) [41], xo 43 (.binOp .leq 22 (xt 42) (.const (.int .u8 7)) 22) [42], xo 44 (.move (xt 43)) [43], xg 45 (.fieldAddr 27 (xt 1) 5) 44 true [], xg 46 (.load 25 (xt 45)) 44 true [45], xg 47 (.binOp .eql 25 (xt 46) (.const (.int .u8 0)) 25) 44 true [46], xo 48 (.pick (xt 44) (xt 47) (.const (.bool false))) [44,47], xo 49 (.move (xt 48)) [48], xg 50 (.fieldAddr 27 (xt 1) 6) 49 true [], xg 51 (.load 9 (xt 50)) 49 true [50], xg 52 (.binOp .eql 9 (xt 51) (.const (.string { data := #[] })) 9) 49 true [51], xo 53 (.pick (xt 49) (xt 52) (.const (.bool false))) [49,52], xo 54 (.move (xt 53)) [53], xg 55 (.fieldAddr 27 (xt 1) 7) 54 true [], xg 56 (.load 4 (xt 55)) 54 true [55], xg 57 (.unOp .not 4 (xt 56)) 54 true [56], xo 58 (.pick (xt 54) (xt 57) (.const (.bool false))) [54,57], xo 59 (.move (xt 58)) [58], xg 60 (.fieldAddr 27 (xt 1) 2) 59 true [], xg 61 (.load 9 (xt 60)) 59 true [60], xg 62 (xb .len [61] [9]) 59 true [61], xg 63 (.binOp .leq 3 (xt 62) (.const (.int .i64 4096)) 3) 59 true [62], xo 64 (.pick (xt 59) (xt 63) (.const (.bool false))) [59,63], xo 65 (.move (xt 64)) [64], xg 66 (.fieldAddr 27 (xt 1) 1) 65 true [], xg 67 (.load 2 (xt 66)) 65 true [66], xg 68 (.binOp .eql 2 (xt 67) (.const (.int .i64 0)) 2) 65 true [67], xg 69 (.move (xt 68)) 65 true [68], xg 70 (.move (xt 5)) 69 false [], xg 71 (.buildSlice 83 2 #[(0, (.const (.int .u8 1))), (1, (.const (.int .u8 7)))]) 69 false [], xg 72 (.call { callee := (.value (xt 70)), args := #[(xt 71)], argTypes := #[83] }) 69 false [70,71], xg 73 (.pick (xt 69) (.const (.bool true)) (xt 72)) 65 true [69,72], xg 74 (.move (xt 73)) 65 true [73], xg 75 (.move (xt 5)) 74 false [], xg 76 (.buildSlice 83 1 #[(0, (.const (.int .u8 2)))]) 74 false [], xg 77 (.call { callee := (.value (xt 75)), args := #[(xt 76)], argTypes := #[83] }) 74 false [75,76], xg 78 (.move (xt 77)) 74 false [77], xg 79 (.fieldAddr 27 (xt 1) 1) 78 true [], xg 80 (.load 2 (xt 79)) 78 true [79], xg 81 (.binOp .eql 2 (xt 80) (.const (.int .i64 1)) 2) 78 true [80], xg 82 (.pick (xt 78) (xt 81) (.const (.bool false))) 74 false [78,81], xg 83 (.pick (xt 74) (.const (.bool true)) (xt 82)) 65 true [74,82], xo 84 (.pick (xt 65) (xt 83) (.const (.bool false))) [65,83], xo 85 (.move (xt 84)) [84], xg 86 (.fieldAddr 27 (xt 1) 2) 85 true [], xg 87 (.load 9 (xt 86)) 85 true [86], xg 88 (.binOp .eql 9 (xt 87) (.const (.string { data := #[] })) 9) 85 true [87], xg 89 (.move (xt 88)) 85 true [88], xg 90 (.move (xt 5)) 89 false [], xg 91 (.buildSlice 83 2 #[(0, (.const (.int .u8 3))), (1, (.const (.int .u8 7)))]) 89 false [], xg 92 (.call { callee := (.value (xt 90)), args := #[(xt 91)], argTypes := #[83] }) 89 false [90,91], xg 93 (.pick (xt 89) (.const (.bool true)) (xt 92)) 85 true [89,92], xo 94 (.pick (xt 85) (xt 93) (.const (.bool false))) [85,93], xo 95 (.move (xt 94)) [94], xg 96 (.fieldAddr 27 (xt 1) 3) 95 true [], xg 97 (.load 23 (xt 96)) 95 true [96], xg 98 (xb .len [97] [23]) 95 true [97], xg 99 (.binOp .eql 3 (xt 98) (.const (.int .i64 0)) 3) 95 true [98], xg 100 (.move (xt 99)) 95 true [99], xg 101 (.move (xt 5)) 100 false [], xg 102 (.buildSlice 83 1 #[(0, (.const (.int .u8 4)))]) 100 false [], xg 103 (.call { callee := (.value (xt 101)), args := #[(xt 102)], argTypes := #[83] }) 100 false [101,102], xg 104 (.pick (xt 100) (.const (.bool true)) (xt 103)) 95 true [100,103], xo 105 (.pick (xt 95) (xt 104) (.const (.bool false))) [95,104], xo 106 (.move (xt 105)) [105], xg 107 (.fieldAddr 27 (xt 1) 4) 106 true [], xg 108 (.load 24 (xt 107)) 106 true [107], xg 109 (xb .len [108] [24]) 106 true [108], xg 110 (.binOp .eql 3 (xt 109) (.const (.int .i64 0)) 3) 106 true [109], xg 111 (.move (xt 110)) 106 true [110], xg 112 (.move (xt 5)) 111 false [], xg 113 (.buildSlice 83 2 #[(0, (.const (.int .u8 5))), (1, (.const (.int .u8 7)))]) 111 false [], xg 114 (.call { callee := (.value (xt 112)), args := #[(xt 113)], argTypes := #[83] }) 111 false [112,113], xg 115 (.pick (xt 111) (.const (.bool true)) (xt 114)) 106 true [111,114], xo 116 (.pick (xt 106) (xt 115) (.const (.bool false))) [106,115], xo 2 (.assign (xt 116)) []])
 (.ret)))))
theorem k35_ok : Tryd.f35.body.map (strip (tab0.ann 35)) = some k35 := by kernel_rfl
def k36 : XC :=
  .seq (.region [xo 3 (.box 27 (xt 1)) []])
 (.seq (.region [xo 4 (.fieldAddr 27 (xt 3) 0) [], xo 5 (.load 22 (xt 4)) []])
 (.block 0 (.seq (.region [xo 7 (.binOp .eql 22 (xt 5) (.const (.int .u8 0)) 22) [], xo 6 (.assign (xt 7)) []])
 (.cond 6 (.region [xo 8 (.move (xt 0)) [], xo 9 (.nilCheck (xt 8)) [8], xo 10 (.fieldAddr 66 (xt 9) 0) [9], xo 11 (.call { callee := (.value (.func 55)), args := #[(xt 10), (.const (.string { data := #[110, 111, 110, 101] }))], argTypes := #[64, 9] }) []]) (.seq (.region [xo 13 (.binOp .eql 22 (xt 5) (.const (.int .u8 1)) 22) [], xo 12 (.assign (xt 13)) []])
 (.cond 12 (.region [xo 14 (.move (xt 0)) [], xo 15 (.nilCheck (xt 14)) [], xo 16 (.fieldAddr 66 (xt 15) 0) [], xo 17 (.fieldAddr 27 (xt 3) 1) [], xo 18 (.load 2 (xt 17)) [], xk 19 (.call { callee := (.value (.func 56)), args := #[(xt 18), (.const (.int .i64 10))], argTypes := #[2, 3] }) [], xo 20 (xc 55 [16,19] [64,9]) []]) (.seq (.region [xo 22 (.binOp .eql 22 (xt 5) (.const (.int .u8 2)) 22) [], xo 21 (.assign (xt 22)) []])
 (.cond 21 (.region [xo 23 (.move (xt 0)) [], xo 24 (.nilCheck (xt 23)) [], xo 25 (.fieldAddr 66 (xt 24) 0) [], xk 26 (.buildSlice 54 2 #[(0, (.const (.string { data := #[110, 111] }))), (1, (.const (.string { data := #[121, 101, 115] })))]) [], xo 27 (.fieldAddr 27 (xt 3) 1) [], xo 28 (.load 2 (xt 27)) [], xo 29 (.indexAddr 54 (xt 26) (xt 28)) [], xo 30 (.load 9 (xt 29)) [], xo 31 (xc 55 [25,30] [64,9]) []]) (.seq (.region [xo 33 (.binOp .eql 22 (xt 5) (.const (.int .u8 3)) 22) [], xo 32 (.assign (xt 33)) []])
 (.cond 32 (.region [xo 34 (.move (xt 0)) [], xo 35 (.fieldAddr 27 (xt 3) 2) [], xo 36 (.load 9 (xt 35)) [35], xo 37 (xc 57 [34,36] [61,9]) []]) (.seq (.region [xo 39 (.binOp .eql 22 (xt 5) (.const (.int .u8 4)) 22) [], xo 38 (.assign (xt 39)) []])
 (.cond 38 (.region [xo 40 (.move (xt 0)) [], xo 41 (.fieldAddr 27 (xt 3) 3) [], xo 42 (.load 23 (xt 41)) [41], xo 43 (xc 58 [40,42] [61,23]) []]) (.seq (.region [xo 45 (.binOp .eql 22 (xt 5) (.const (.int .u8 5)) 22) [], xo 44 (.assign (xt 45)) []])
 (.cond 44 (.region [xo 46 (.move (xt 0)) [], xo 47 (.fieldAddr 27 (xt 3) 4) [], xo 48 (.load 24 (xt 47)) [47], xo 49 (xc 59 [46,48] [61,24]) []]) (.seq (.region [xo 51 (.binOp .eql 22 (xt 5) (.const (.int .u8 7)) 22) [], xo 50 (.assign (xt 51)) []])
 (.cond 50 (.seq (.region [xo 52 (.move (xt 0)) [], xo 53 (.nilCheck (xt 52)) [], xo 54 (.fieldAddr 66 (xt 53) 0) [], xo 55 (.fieldAddr 27 (xt 3) 1) [], xo 56 (.load 2 (xt 55)) [], xk 57 (.call { callee := (.value (.func 56)), args := #[(xt 56), (.const (.int .i64 10))], argTypes := #[2, 3] }) [], xo 58 (.binOp .add 9 (.const (.string { data := #[60, 100, 101, 101, 100, 32] })) (xt 57) 9) [], xo 59 (.binOp .add 9 (xt 58) (.const (.string { data := #[32] })) 9) [], xo 60 (xc 55 [54,59] [64,9]) []])
 (.seq (.region [xo 61 (.move (xt 0)) [], xo 62 (.fieldAddr 27 (xt 3) 2) [], xo 63 (.load 9 (xt 62)) [62], xo 64 (xc 57 [61,63] [61,9]) []])
 (.seq (.region [xo 65 (.move (xt 0)) [], xo 66 (.nilCheck (xt 65)) [65], xo 67 (.fieldAddr 66 (xt 66) 0) [66], xo 68 (.call { callee := (.value (.func 60)), args := #[(xt 67), (.const (.int .u8 32))], argTypes := #[64, 5] }) []])
 (.seq (.region [xo 69 (.move (xt 0)) [], xo 70 (.fieldAddr 27 (xt 3) 4) [], xo 71 (.load 24 (xt 70)) [70], xo 72 (xc 59 [69,71] [61,24]) []])
 (.region [xo 73 (.move (xt 0)) [], xo 74 (.nilCheck (xt 73)) [73], xo 75 (.fieldAddr 66 (xt 74) 0) [74], xo 76 (.call { callee := (.value (.func 60)), args := #[(xt 75), (.const (.int .u8 62))], argTypes := #[64, 5] }) []]))))) (.seq (.region [xo 78 (.binOp .eql 22 (xt 5) (.const (.int .u8 6)) 22) [], xo 77 (.assign (xt 78)) []])
 (.cond 77 (.seq (.region [xo 79 (.move (xt 0)) [], xo 80 (.nilCheck (xt 79)) [], xo 81 (.fieldAddr 66 (xt 80) 0) [], xk 82 (xc 61 [] []) [], xo 83 (.fieldAddr 27 (xt 3) 5) [], xo 84 (.load 25 (xt 83)) [], xo 85 (.index 95 (xt 82) (xt 84)) [], xo 86 (.binOp .add 9 (.const (.string { data := #[60] })) (xt 85) 9) [], xo 87 (.binOp .add 9 (xt 86) (.const (.string { data := #[32] })) 9) [], xo 88 (xc 55 [81,87] [64,9]) []])
 (.seq (.region [xo 89 (.move (xt 0)) [], xo 90 (.fieldAddr 27 (xt 3) 2) [], xo 91 (.load 9 (xt 90)) [90], xo 92 (xc 57 [89,91] [61,9]) []])
 (.seq (.seq (.region [xo 93 (.fieldAddr 27 (xt 3) 7) [], xo 94 (.load 4 (xt 93)) []])
 (.cond 94 (.seq (.region [xo 95 (.move (xt 0)) [], xo 96 (.nilCheck (xt 95)) [95], xo 97 (.fieldAddr 66 (xt 96) 0) [96], xo 98 (.call { callee := (.value (.func 55)), args := #[(xt 97), (.const (.string { data := #[32, 107, 101, 121, 32] }))], argTypes := #[64, 9] }) []])
 (.region [xo 99 (.move (xt 0)) [], xo 100 (.fieldAddr 27 (xt 3) 6) [], xo 101 (.load 9 (xt 100)) [100], xo 102 (xc 57 [99,101] [61,9]) []])) (.skip)))
 (.seq (.region [xo 103 (.move (xt 0)) [], xo 104 (.nilCheck (xt 103)) [103], xo 105 (.fieldAddr 66 (xt 104) 0) [104], xo 106 (.call { callee := (.value (.func 60)), args := #[(xt 105), (.const (.int .u8 32))], argTypes := #[64, 5] }) []])
 (.seq (.region [xo 107 (.move (xt 0)) [], xo 108 (.fieldAddr 27 (xt 3) 4) [], xo 109 (.load 24 (xt 108)) [108], xo 110 (xc 59 [107,109] [61,24]) []])
 (.seq (.region [xo 111 (.move (xt 0)) [], xo 112 (.nilCheck (xt 111)) [111], xo 113 (.fieldAddr 66 (xt 112) 0) [112], xo 114 (.call { callee := (.value (.func 60)), args := #[(xt 113), (.const (.int .u8 32))], argTypes := #[64, 5] }) []])
 (.seq (.region [xo 115 (.move (xt 0)) [], xo 116 (.fieldAddr 27 (xt 3) 3) [], xo 117 (.load 23 (xt 116)) [116], xo 118 (xc 58 [115,117] [61,23]) []])
 (.region [xo 119 (.move (xt 0)) [], xo 120 (.nilCheck (xt 119)) [119], xo 121 (.fieldAddr 66 (xt 120) 0) [120], xo 122 (.call { callee := (.value (.func 60)), args := #[(xt 121), (.const (.int .u8 62))], argTypes := #[64, 5] }) []])))))))) (.skip)))))))))))))))))))
theorem k36_ok : Tryd.f36.body.map (strip (tab0.ann 36)) = some k36 := by kernel_rfl
def k38 : XC :=
  .seq (.region [xo 6 (.assign (.const (.bool false))) []])
 (.seq (.seq (.region [xo 10 (.move (xt 0)) [], xo 11 (xb .len [10] [23]) [10], xo 12 (.move (xt 1)) [], xo 13 (xb .len [12] [23]) [12], xo 14 (.binOp .neq 3 (xt 11) (xt 13) 3) []])
 (.cond 14 (.seq (.region [xo 6 (.assign (.const (.bool false))) []])
 (.ret)) (.skip)))
 (.seq (.seq (.region [xo 15 (.move (xt 0)) [], xo 16 (xb .len [15] [23]) [], xo 17 (.move (.const (.int .i64 0))) []])
 (.block 0 (.loop (.seq (.region [xo 18 (.binOp .lss 3 (xt 17) (xt 16) 3) []])
 (.seq (.cond 18 (.skip) (.exit 0))
 (.seq (.block 1 (.seq (.region [xo 19 (.move (xt 17)) [], xo 20 (.indexAddr 23 (xt 15) (xt 17)) [], xo 21 (.load 27 (xt 20)) [20], xo 8 (.alloc 27) [], xo 7 (.assign (xt 19)) [19], xn (.store 27 (xt 8) (xt 21))])
 (.seq (.region [xo 22 (.move (xt 1)) [], xo 23 (.move (xt 7)) [], xo 24 (.indexAddr 23 (xt 22) (xt 23)) [22,23], xo 25 (.load 27 (xt 24)) [24], xo 9 (.alloc 27) [], xn (.store 27 (xt 9) (xt 25))])
 (.seq (.region [xo 26 (.move (xt 2)) [], xo 27 (.load 27 (xt 8)) [], xo 28 (.load 27 (xt 9)) [], xo 29 (.call { callee := (.value (xt 26)), args := #[(xt 27), (xt 28)], argTypes := #[27, 27] }) [26,27,28], xo 30 (.unOp .not 4 (xt 29)) []])
 (.cond 30 (.seq (.region [xo 6 (.assign (.const (.bool false))) []])
 (.ret)) (.skip))))))
 (.region [xo 31 (.binOp .add 3 (xt 17) (.const (.int .i64 1)) 3) [], xo 17 (.move (xt 31)) []])))))))
 (.seq (.region [xo 6 (.assign (.const (.bool true))) []])
 (.ret))))
theorem k38_ok : Tryd.f38.body.map (strip (tab0.ann 38)) = some k38 := by kernel_rfl
def k39 : XC :=
  .seq (.region [xo 4 (.assign (.const (.bool false))) []])
 (.seq (.region [xo 5 (.move (xt 0)) [], xo 6 (.move (xt 1)) [], xo 7 (.call { callee := (.value (.func 62)), args := #[(xt 5), (xt 6), (.func 63)], argTypes := #[24, 24, 99] }) [5,6], xo 4 (.assign (xt 7)) []])
 (.ret))
theorem k39_ok : Tryd.f39.body.map (strip (tab0.ann 39)) = some k39 := by kernel_rfl
def k40 : XC :=
  .seq (.region [xo 3 (.box 27 (xt 0)) [3], xo 5 (.assign (.const (.bool false))) []])
 (.seq (.region [xo 6 (.load 3 (xt 2)) [], xo 7 (.binOp .add 3 (xt 6) (.const (.int .i64 1)) 3) [6], xn (.store 3 (xt 2) (xt 7))])
 (.seq (.region [xo 5 (.assign (.const (.bool true))) []])
 (.ret)))
theorem k40_ok : Tryd.f40.body.map (strip (tab0.ann 40)) = some k40 := by kernel_rfl
def k41 : XC :=
  .seq (.region [xo 3 (.box 27 (xt 0)) [3], xo 5 (.assign (.const (.bool false))) []])
 (.seq (.regionG [xo 6 (.load 3 (xt 2)) [], xo 7 (.move (xt 1)) [], xo 8 (xb .max [6,7] [3,3]) [6,7], xn (.store 3 (xt 2) (xt 8))])
 (.seq (.region [xo 5 (.assign (.const (.bool true))) []])
 (.ret)))
theorem k41_ok : Tryd.f41.body.map (strip (tab0.ann 41)) = some k41 := by kernel_rfl
def k50 : XC :=
  .seq (.region [xo 4 (.box 27 (xt 0)) [], xo 6 (.assign (.const (.bool false))) []])
 (.seq (.seq (.region [xo 11 (.load 60 (xt 2)) [], xo 12 (.load 27 (xt 4)) [], xo 13 (.move (xt 1)) [], xo 14 (.call { callee := (.value (xt 11)), args := #[(xt 12), (xt 13)], argTypes := #[27, 3] }) [11,12,13], xo 15 (.unOp .not 4 (xt 14)) []])
 (.cond 15 (.seq (.region [xo 6 (.assign (.const (.bool false))) []])
 (.ret)) (.skip)))
 (.seq (.seq (.region [xo 16 (.fieldAddr 27 (xt 4) 3) [], xo 17 (.load 23 (xt 16)) [16], xo 18 (xb .len [17] [23]) [], xo 19 (.move (.const (.int .i64 0))) []])
 (.block 0 (.loop (.seq (.region [xo 20 (.binOp .lss 3 (xt 19) (xt 18) 3) []])
 (.seq (.cond 20 (.skip) (.exit 0))
 (.seq (.block 1 (.seq (.region [xo 21 (.indexAddr 23 (xt 17) (xt 19)) [], xo 22 (.load 27 (xt 21)) [21], xo 8 (.alloc 27) [], xn (.store 27 (xt 8) (xt 22))])
 (.seq (.region [xo 23 (.load 60 (xt 3)) [], xo 24 (.load 27 (xt 8)) [], xo 25 (.move (xt 1)) [], xo 26 (.binOp .add 3 (xt 25) (.const (.int .i64 1)) 3) [25], xo 27 (.call { callee := (.value (xt 23)), args := #[(xt 24), (xt 26)], argTypes := #[27, 3] }) [23,24,26], xo 28 (.unOp .not 4 (xt 27)) []])
 (.cond 28 (.seq (.region [xo 6 (.assign (.const (.bool false))) []])
 (.ret)) (.skip)))))
 (.region [xo 29 (.binOp .add 3 (xt 19) (.const (.int .i64 1)) 3) [], xo 19 (.move (xt 29)) []])))))))
 (.seq (.seq (.region [xo 30 (.fieldAddr 27 (xt 4) 4) [], xo 31 (.load 24 (xt 30)) [30], xo 32 (xb .len [31] [24]) [], xo 33 (.move (.const (.int .i64 0))) []])
 (.block 2 (.loop (.seq (.region [xo 34 (.binOp .lss 3 (xt 33) (xt 32) 3) []])
 (.seq (.cond 34 (.skip) (.exit 2))
 (.seq (.block 3 (.seq (.region [xo 35 (.indexAddr 24 (xt 31) (xt 33)) [], xo 36 (.load 36 (xt 35)) [35], xo 10 (.alloc 36) [], xn (.store 36 (xt 10) (xt 36))])
 (.seq (.region [xo 37 (.load 60 (xt 3)) [], xo 38 (.fieldAddr 36 (xt 10) 1) [], xo 39 (.load 27 (xt 38)) [38], xo 40 (.move (xt 1)) [], xo 41 (.binOp .add 3 (xt 40) (.const (.int .i64 1)) 3) [40], xo 42 (.call { callee := (.value (xt 37)), args := #[(xt 39), (xt 41)], argTypes := #[27, 3] }) [37,39,41], xo 43 (.unOp .not 4 (xt 42)) []])
 (.cond 43 (.seq (.region [xo 6 (.assign (.const (.bool false))) []])
 (.ret)) (.skip)))))
 (.region [xo 44 (.binOp .add 3 (xt 33) (.const (.int .i64 1)) 3) [], xo 33 (.move (xt 44)) []])))))))
 (.seq (.region [xo 6 (.assign (.const (.bool true))) []])
 (.ret)))))
theorem k50_ok : Tryd.f50.body.map (strip (tab0.ann 50)) = some k50 := by kernel_rfl
def k51 : XC :=
  .seq (.region [xo 2 (.assign (.const (.bool false))) []])
 (.seq (.regionG [xo 3 (.move (xt 0)) [], xo 4 (.binOp .neq 9 (xt 3) (.const (.string { data := #[] })) 9) [3], xo 5 (.move (xt 4)) [4], xg 6 (.move (xt 0)) 5 true [], xg 7 (xb .len [6] [9]) 5 true [6], xg 8 (.binOp .leq 3 (xt 7) (.const (.int .i64 4096)) 3) 5 true [7], xo 9 (.pick (xt 5) (xt 8) (.const (.bool false))) [5,8], xo 2 (.assign (xt 9)) []])
 (.ret))
theorem k51_ok : Tryd.f51.body.map (strip (tab0.ann 51)) = some k51 := by kernel_rfl
def k52 : XC :=
  .seq (.region [xo 1 (.box 27 (xt 0)) [], xo 2 (.assign (.const (.bool false))) []])
 (.seq (.seq (.regionG [xo 5 (.fieldAddr 27 (xt 1) 1) [], xo 6 (.load 2 (xt 5)) [5], xo 7 (.binOp .neq 2 (xt 6) (.const (.int .i64 0)) 2) [6], xo 8 (.move (xt 7)) [7], xg 9 (.fieldAddr 27 (xt 1) 5) 8 false [], xg 10 (.load 25 (xt 9)) 8 false [9], xg 11 (.binOp .leq 25 (xt 10) (.const (.int .u8 0)) 25) 8 false [10], xo 12 (.pick (xt 8) (.const (.bool true)) (xt 11)) [8,11], xo 13 (.move (xt 12)) [12], xg 14 (.fieldAddr 27 (xt 1) 5) 13 false [], xg 15 (.load 25 (xt 14)) 13 false [14], xg 16 (.binOp .geq 25 (xt 15) (.const (.int .u8 9)) 25) 13 false [15], xo 17 (.pick (xt 13) (.const (.bool true)) (xt 16)) [13,16], xo 18 (.move (xt 17)) [17], xg 19 (.fieldAddr 27 (xt 1) 6) 18 false [], xg 20 (.load 9 (xt 19)) 18 false [19], xg 21 (xb .len [20] [9]) 18 false [20], xg 22 (.binOp .gtr 3 (xt 21) (.const (.int .i64 4096)) 3) 18 false [21], xo 23 (.pick (xt 18) (.const (.bool true)) (xt 22)) [18,22], xo 24 (.move (xt 23)) [23], xg 25 (.fieldAddr 27 (xt 1) 7) 24 false [], xg 26 (.load 4 (xt 25)) 24 false [25], xg 27 (.unOp .not 4 (xt 26)) 24 false [26], xg 28 (.move (xt 27)) 24 false [27], xg 29 (.fieldAddr 27 (xt 1) 6) 28 true [], xg 30 (.load 9 (xt 29)) 28 true [29], xg 31 (.binOp .neq 9 (xt 30) (.const (.string { data := #[] })) 9) 28 true [30], xg 32 (.pick (xt 28) (xt 31) (.const (.bool false))) 24 false [28,31], xo 33 (.pick (xt 24) (.const (.bool true)) (xt 32)) []])
 (.cond 33 (.seq (.region [xo 2 (.assign (.const (.bool false))) []])
 (.ret)) (.skip)))
 (.seq (.seq (.region [xo 35 (.fieldAddr 27 (xt 1) 5) [], xo 36 (.load 25 (xt 35)) [35], xo 37 (xc 84 [36] [25]) [36], xo 34 (.move (xt 37)) [37], xo 38 (.extract (xt 34) 0) [], xo 39 (.extract (xt 34) 1) [34], xo 3 (.assign (xt 38)) [38], xo 4 (.assign (xt 39)) []])
 (.seq (.regionG [xo 40 (.move (xt 4)) [], xo 41 (.move (xt 40)) [40], xg 42 (.fieldAddr 27 (xt 1) 4) 41 true [], xg 43 (.load 24 (xt 42)) 41 true [42], xg 44 (.move (xt 3)) 41 true [], xg 45 (.call { callee := (.value (.func 85)), args := #[(xt 43), (xt 44), (.func 86)], argTypes := #[24, 54, 108] }) 41 true [43,44], xg 46 (.unOp .not 4 (xt 45)) 41 true [45], xo 47 (.pick (xt 41) (xt 46) (.const (.bool false))) []])
 (.cond 47 (.seq (.region [xo 2 (.assign (.const (.bool false))) []])
 (.ret)) (.skip))))
 (.seq (.seq (.region [xo 48 (.fieldAddr 27 (xt 1) 5) [], xo 49 (.load 25 (xt 48)) []])
 (.block 0 (.seq (.seq (.region [xo 51 (.binOp .eql 25 (xt 49) (.const (.int .u8 4)) 25) [], xo 50 (.assign (xt 51)) []])
 (.cond 50 (.skip) (.seq (.region [xo 52 (.binOp .eql 25 (xt 49) (.const (.int .u8 7)) 25) [], xo 50 (.assign (xt 52)) []])
 (.cond 50 (.skip) (.region [xo 53 (.binOp .eql 25 (xt 49) (.const (.int .u8 8)) 25) [], xo 50 (.assign (xt 53)) []])))))
 (.cond 50 (.seq (.region [xo 54 (.fieldAddr 27 (xt 1) 2) [], xo 55 (.load 9 (xt 54)) [54], xo 56 (.binOp .eql 9 (xt 55) (.const (.string { data := #[] })) 9) [55], xo 2 (.assign (xt 56)) []])
 (.ret)) (.skip)))))
 (.seq (.region [xo 57 (.fieldAddr 27 (xt 1) 2) [], xo 58 (.load 9 (xt 57)) [57], xo 59 (xc 51 [58] [9]) [58], xo 2 (.assign (xt 59)) []])
 (.ret)))))
theorem k52_ok : Tryd.f52.body.map (strip (tab0.ann 52)) = some k52 := by kernel_rfl
def k53 : XC :=
  .seq (.region [xo 3 (.assign (.const (.bool false))) []])
 (.seq (.region [xo 4 (.move (xt 0)) [], xo 5 (.fieldAddr 27 (xt 1) 0) [], xo 6 (.load 22 (xt 5)) [5], xo 7 (xc 54 [4,6] [83,22]) [4,6], xo 3 (.assign (xt 7)) []])
 (.ret))
theorem k53_ok : Tryd.f53.body.map (strip (tab0.ann 53)) = some k53 := by kernel_rfl
def k54 : XC :=
  .seq (.region [xo 4 (.assign (.const (.bool false))) []])
 (.seq (.region [xo 5 (.move (xt 0)) [], xo 6 (.move (xt 1)) [], xo 7 (xc 87 [5,6] [83,22]) [5,6], xo 8 (.binOp .geq 3 (xt 7) (.const (.int .i64 0)) 3) [7], xo 4 (.assign (xt 8)) []])
 (.ret))
theorem k54_ok : Tryd.f54.body.map (strip (tab0.ann 54)) = some k54 := by kernel_rfl
def k55 : XC :=
  .seq (.region [xo 4 (.assign (.const (.int .i64 0))) [18], xo 5 (.assign (.const .nilIface)) []])
 (.seq (.region [xo 6 (.move (xt 0)) [], xo 7 (xc 88 [6] [62]) []])
 (.seq (.regionG [xo 8 (.move (xt 0)) [], xo 9 (.move (xt 0)) [], xo 10 (.nilCheck (xt 9)) [9], xo 11 (.fieldAddr 64 (xt 10) 1) [10], xo 12 (.load 38 (xt 11)) [11], xo 13 (.move (xt 1)) [], xo 14 (xb .append [12,13] [38,9]) [12,13], xo 15 (.nilCheck (xt 8)) [8], xo 16 (.fieldAddr 64 (xt 15) 1) [15], xn (.store 38 (xt 16) (xt 14))])
 (.seq (.region [xo 17 (.move (xt 1)) [], xo 18 (xb .len [17] [9]) [17], xo 4 (.assign (xt 18)) [18], xo 5 (.assign (.const .nilIface)) []])
 (.ret))))
theorem k55_ok : Tryd.f55.body.map (strip (tab0.ann 55)) = some k55 := by kernel_rfl
def k57 : XC :=
  .seq (.region [xo 6 (.move (xt 0)) [], xo 7 (.nilCheck (xt 6)) [6], xo 8 (.fieldAddr 66 (xt 7) 0) [7], xo 9 (.call { callee := (.value (.func 60)), args := #[(xt 8), (.const (.int .u8 34))], argTypes := #[64, 5] }) []])
 (.seq (.seq (.region [xo 10 (.move (xt 1)) [], xo 11 (xb .len [10] [9]) [10], xo 12 (.move (.const (.int .i64 0))) []])
 (.block 0 (.loop (.seq (.region [xo 13 (.binOp .lss 3 (xt 12) (xt 11) 3) []])
 (.seq (.cond 13 (.skip) (.exit 0))
 (.seq (.block 1 (.seq (.region [xo 14 (.move (xt 12)) [], xo 4 (.assign (xt 14)) []])
 (.seq (.region [xo 15 (.move (xt 1)) [], xo 16 (.move (xt 4)) [], xo 17 (.index 9 (xt 15) (xt 16)) [15,16], xo 5 (.assign (xt 17)) []])
 (.seq (.region [xo 18 (.move (xt 5)) []])
 (.block 2 (.seq (.seq (.region [xo 25 (.binOp .eql 5 (xt 18) (.const (.int .u8 34)) 5) [], xo 24 (.assign (xt 25)) []])
 (.cond 24 (.skip) (.region [xo 26 (.binOp .eql 5 (xt 18) (.const (.int .u8 92)) 5) [], xo 24 (.assign (xt 26)) []])))
 (.cond 24 (.region [xo 27 (.move (xt 0)) [], xo 28 (.nilCheck (xt 27)) [27], xo 29 (.fieldAddr 66 (xt 28) 0) [28], xo 30 (.move (xt 5)) [], xo 31 (.convert 5 21 (xt 30)) [30], xo 32 (.convert 21 9 (xt 31)) [31], xo 33 (.binOp .add 9 (.const (.string { data := #[92] })) (xt 32) 9) [32], xo 34 (xc 55 [29,33] [64,9]) []]) (.seq (.region [xo 36 (.binOp .eql 5 (xt 18) (.const (.int .u8 10)) 5) [], xo 35 (.assign (xt 36)) []])
 (.cond 35 (.region [xo 37 (.move (xt 0)) [], xo 38 (.nilCheck (xt 37)) [37], xo 39 (.fieldAddr 66 (xt 38) 0) [38], xo 40 (.call { callee := (.value (.func 55)), args := #[(xt 39), (.const (.string { data := #[92, 110] }))], argTypes := #[64, 9] }) []]) (.region [xo 19 (.move (xt 0)) [], xo 20 (.nilCheck (xt 19)) [19], xo 21 (.fieldAddr 66 (xt 20) 0) [20], xo 22 (.move (xt 5)) [], xo 23 (xc 60 [21,22] [64,5]) []]))))))))))
 (.region [xo 41 (.binOp .add 3 (xt 12) (.const (.int .i64 1)) 3) [], xo 12 (.move (xt 41)) []])))))))
 (.region [xo 42 (.move (xt 0)) [], xo 43 (.nilCheck (xt 42)) [42], xo 44 (.fieldAddr 66 (xt 43) 0) [43], xo 45 (.call { callee := (.value (.func 60)), args := #[(xt 44), (.const (.int .u8 34))], argTypes := #[64, 5] }) []]))
theorem k57_ok : Tryd.f57.body.map (strip (tab0.ann 57)) = some k57 := by kernel_rfl
def k58 : XC :=
  .seq (.region [xo 6 (.move (xt 0)) [], xo 7 (.nilCheck (xt 6)) [6], xo 8 (.fieldAddr 66 (xt 7) 0) [7], xo 9 (.call { callee := (.value (.func 60)), args := #[(xt 8), (.const (.int .u8 91))], argTypes := #[64, 5] }) []])
 (.seq (.seq (.region [xo 10 (.move (xt 1)) [], xo 11 (xb .len [10] [23]) [], xo 12 (.move (.const (.int .i64 0))) []])
 (.block 0 (.loop (.seq (.region [xo 13 (.binOp .lss 3 (xt 12) (xt 11) 3) []])
 (.seq (.cond 13 (.skip) (.exit 0))
 (.seq (.block 1 (.seq (.region [xo 14 (.move (xt 12)) [], xo 15 (.indexAddr 23 (xt 10) (xt 12)) [], xo 16 (.load 27 (xt 15)) [15], xo 5 (.alloc 27) [], xo 4 (.assign (xt 14)) [14], xn (.store 27 (xt 5) (xt 16))])
 (.seq (.seq (.region [xo 17 (.move (xt 4)) [], xo 18 (.binOp .gtr 3 (xt 17) (.const (.int .i64 0)) 3) []])
 (.cond 18 (.region [xo 19 (.move (xt 0)) [], xo 20 (.nilCheck (xt 19)) [19], xo 21 (.fieldAddr 66 (xt 20) 0) [20], xo 22 (.call { callee := (.value (.func 60)), args := #[(xt 21), (.const (.int .u8 32))], argTypes := #[64, 5] }) []]) (.skip)))
 (.region [xo 23 (.move (xt 0)) [], xo 24 (.load 27 (xt 5)) [], xo 25 (xc 36 [23,24] [61,27]) []]))))
 (.region [xo 26 (.binOp .add 3 (xt 12) (.const (.int .i64 1)) 3) [], xo 12 (.move (xt 26)) []])))))))
 (.region [xo 27 (.move (xt 0)) [], xo 28 (.nilCheck (xt 27)) [27], xo 29 (.fieldAddr 66 (xt 28) 0) [28], xo 30 (.call { callee := (.value (.func 60)), args := #[(xt 29), (.const (.int .u8 93))], argTypes := #[64, 5] }) []]))
theorem k58_ok : Tryd.f58.body.map (strip (tab0.ann 58)) = some k58 := by kernel_rfl
def k59 : XC :=
  .seq (.region [xo 6 (.move (xt 0)) [], xo 7 (.nilCheck (xt 6)) [6], xo 8 (.fieldAddr 66 (xt 7) 0) [7], xo 9 (.call { callee := (.value (.func 60)), args := #[(xt 8), (.const (.int .u8 123))], argTypes := #[64, 5] }) []])
 (.seq (.seq (.region [xo 10 (.move (xt 1)) [], xo 11 (xb .len [10] [24]) [], xo 12 (.move (.const (.int .i64 0))) []])
 (.block 0 (.loop (.seq (.region [xo 13 (.binOp .lss 3 (xt 12) (xt 11) 3) []])
 (.seq (.cond 13 (.skip) (.exit 0))
 (.seq (.block 1 (.seq (.region [xo 14 (.move (xt 12)) [], xo 15 (.indexAddr 24 (xt 10) (xt 12)) [], xo 16 (.load 36 (xt 15)) [15], xo 5 (.alloc 36) [], xo 4 (.assign (xt 14)) [14], xn (.store 36 (xt 5) (xt 16))])
 (.seq (.seq (.region [xo 17 (.move (xt 4)) [], xo 18 (.binOp .gtr 3 (xt 17) (.const (.int .i64 0)) 3) []])
 (.cond 18 (.region [xo 19 (.move (xt 0)) [], xo 20 (.nilCheck (xt 19)) [19], xo 21 (.fieldAddr 66 (xt 20) 0) [20], xo 22 (.call { callee := (.value (.func 60)), args := #[(xt 21), (.const (.int .u8 32))], argTypes := #[64, 5] }) []]) (.skip)))
 (.seq (.region [xo 23 (.move (xt 0)) [], xo 24 (.fieldAddr 36 (xt 5) 0) [], xo 25 (.load 9 (xt 24)) [24], xo 26 (xc 57 [23,25] [61,9]) []])
 (.seq (.region [xo 27 (.move (xt 0)) [], xo 28 (.nilCheck (xt 27)) [27], xo 29 (.fieldAddr 66 (xt 28) 0) [28], xo 30 (.call { callee := (.value (.func 60)), args := #[(xt 29), (.const (.int .u8 32))], argTypes := #[64, 5] }) []])
 (.region [xo 31 (.move (xt 0)) [], xo 32 (.fieldAddr 36 (xt 5) 1) [], xo 33 (.load 27 (xt 32)) [32], xo 34 (xc 36 [31,33] [61,27]) []]))))))
 (.region [xo 35 (.binOp .add 3 (xt 12) (.const (.int .i64 1)) 3) [], xo 12 (.move (xt 35)) []])))))))
 (.region [xo 36 (.move (xt 0)) [], xo 37 (.nilCheck (xt 36)) [36], xo 38 (.fieldAddr 66 (xt 37) 0) [37], xo 39 (.call { callee := (.value (.func 60)), args := #[(xt 38), (.const (.int .u8 125))], argTypes := #[64, 5] }) []]))
theorem k59_ok : Tryd.f59.body.map (strip (tab0.ann 59)) = some k59 := by kernel_rfl
def k60 : XC :=
  .seq (.region [xo 4 (.assign (.const .nilIface)) []])
 (.seq (.region [xo 5 (.move (xt 0)) [], xo 6 (xc 88 [5] [62]) []])
 (.seq (.regionG [xo 7 (.move (xt 0)) [], xo 8 (.move (xt 0)) [], xo 9 (.nilCheck (xt 8)) [8], xo 10 (.fieldAddr 64 (xt 9) 1) [9], xo 11 (.load 38 (xt 10)) [10], xo 12 (.move (xt 1)) [], xo 13 (.buildSlice 38 1 #[(0, (xt 12))]) [12], xo 14 (xb .append [11,13] [38,38]) [11,13], xo 15 (.nilCheck (xt 7)) [7], xo 16 (.fieldAddr 64 (xt 15) 1) [15], xn (.store 38 (xt 16) (xt 14))])
 (.seq (.region [xo 4 (.assign (.const .nilIface)) []])
 (.ret))))
theorem k60_ok : Tryd.f60.body.map (strip (tab0.ann 60)) = some k60 := by kernel_rfl
def k62 : XC :=
  .seq (.region [xo 6 (.assign (.const (.bool false))) []])
 (.seq (.seq (.region [xo 10 (.move (xt 0)) [], xo 11 (xb .len [10] [24]) [10], xo 12 (.move (xt 1)) [], xo 13 (xb .len [12] [24]) [12], xo 14 (.binOp .neq 3 (xt 11) (xt 13) 3) []])
 (.cond 14 (.seq (.region [xo 6 (.assign (.const (.bool false))) []])
 (.ret)) (.skip)))
 (.seq (.seq (.region [xo 15 (.move (xt 0)) [], xo 16 (xb .len [15] [24]) [], xo 17 (.move (.const (.int .i64 0))) []])
 (.block 0 (.loop (.seq (.region [xo 18 (.binOp .lss 3 (xt 17) (xt 16) 3) []])
 (.seq (.cond 18 (.skip) (.exit 0))
 (.seq (.block 1 (.seq (.region [xo 19 (.move (xt 17)) [], xo 20 (.indexAddr 24 (xt 15) (xt 17)) [], xo 21 (.load 36 (xt 20)) [20], xo 8 (.alloc 36) [], xo 7 (.assign (xt 19)) [19], xn (.store 36 (xt 8) (xt 21))])
 (.seq (.region [xo 22 (.move (xt 1)) [], xo 23 (.move (xt 7)) [], xo 24 (.indexAddr 24 (xt 22) (xt 23)) [22,23], xo 25 (.load 36 (xt 24)) [24], xo 9 (.alloc 36) [], xn (.store 36 (xt 9) (xt 25))])
 (.seq (.region [xo 26 (.move (xt 2)) [], xo 27 (.load 36 (xt 8)) [], xo 28 (.load 36 (xt 9)) [], xo 29 (.call { callee := (.value (xt 26)), args := #[(xt 27), (xt 28)], argTypes := #[36, 36] }) [26,27,28], xo 30 (.unOp .not 4 (xt 29)) []])
 (.cond 30 (.seq (.region [xo 6 (.assign (.const (.bool false))) []])
 (.ret)) (.skip))))))
 (.region [xo 31 (.binOp .add 3 (xt 17) (.const (.int .i64 1)) 3) [], xo 17 (.move (xt 31)) []])))))))
 (.seq (.region [xo 6 (.assign (.const (.bool true))) []])
 (.ret))))
theorem k62_ok : Tryd.f62.body.map (strip (tab0.ann 62)) = some k62 := by kernel_rfl
def k63 : XC :=
  .seq (.region [xo 2 (.box 36 (xt 0)) [], xo 3 (.box 36 (xt 1)) [], xo 4 (.assign (.const (.bool false))) []])
 (.seq (.regionG [xo 5 (.fieldAddr 36 (xt 2) 0) [], xo 6 (.load 9 (xt 5)) [5], xo 7 (.fieldAddr 36 (xt 3) 0) [], xo 8 (.load 9 (xt 7)) [7], xo 9 (.binOp .eql 9 (xt 6) (xt 8) 9) [6,8], xo 10 (.move (xt 9)) [9], xg 11 (.fieldAddr 36 (xt 2) 1) 10 true [], xg 12 (.load 27 (xt 11)) 10 true [11], xg 13 (.fieldAddr 36 (xt 3) 1) 10 true [], xg 14 (.load 27 (xt 13)) 10 true [13], xg 15 (xc 17 [12,14] [27,27]) 10 true [12,14], xo 16 (.pick (xt 10) (xt 15) (.const (.bool false))) [10,15], xo 4 (.assign (xt 16)) []])
 (.ret))
theorem k63_ok : Tryd.f63.body.map (strip (tab0.ann 63)) = some k63 := by kernel_rfl
def k84 : XC :=
  .seq (.region [xo 2 (.assign (.const (.slice none 0 0))) [13], xo 3 (.assign (.const (.bool false))) []])
 (.seq (.seq (.region [xo 4 (.move (xt 0)) []])
 (.block 0 (.seq (.region [xo 6 (.binOp .eql 25 (xt 4) (.const (.int .u8 6)) 25) [], xo 5 (.assign (xt 6)) []])
 (.cond 5 (.seq (.region [xo 7 (.buildSlice 54 1 #[(0, (.const (.string { data := #[118, 97, 108, 117, 101] })))]) [], xo 2 (.assign (xt 7)) [13], xo 3 (.assign (.const (.bool true))) []])
 (.ret)) (.seq (.region [xo 9 (.binOp .eql 25 (xt 4) (.const (.int .u8 7)) 25) [], xo 8 (.assign (xt 9)) []])
 (.cond 8 (.seq (.region [xo 10 (.buildSlice 54 2 #[(0, (.const (.string { data := #[97, 103, 97, 105, 110] }))), (1, (.const (.string { data := #[101, 108, 115, 101] })))]) [], xo 2 (.assign (xt 10)) [13], xo 3 (.assign (.const (.bool true))) []])
 (.ret)) (.seq (.region [xo 12 (.binOp .eql 25 (xt 4) (.const (.int .u8 8)) 25) [], xo 11 (.assign (xt 12)) []])
 (.cond 11 (.seq (.region [xo 13 (.buildSlice 54 1 #[(0, (.const (.string { data := #[101, 108, 115, 101] })))]) [], xo 2 (.assign (xt 13)) [13], xo 3 (.assign (.const (.bool true))) []])
 (.ret)) (.seq (.seq (.region [xo 15 (.binOp .eql 25 (xt 4) (.const (.int .u8 4)) 25) [], xo 14 (.assign (xt 15)) []])
 (.cond 14 (.skip) (.region [xo 16 (.binOp .eql 25 (xt 4) (.const (.int .u8 5)) 25) [], xo 14 (.assign (xt 16)) []])))
 (.cond 14 (.seq (.region [xo 2 (.assign (.const (.slice none 0 0))) [13], xo 3 (.assign (.const (.bool true))) []])
 (.ret)) (.skip)))))))))))
 (.seq (.region [xo 2 (.assign (.const (.slice none 0 0))) [13], xo 3 (.assign (.const (.bool false))) []])
 (.ret)))
theorem k84_ok : Tryd.f84.body.map (strip (tab0.ann 84)) = some k84 := by kernel_rfl
def k85 : XC :=
  .seq (.region [xo 6 (.assign (.const (.bool false))) []])
 (.seq (.seq (.region [xo 10 (.move (xt 0)) [], xo 11 (xb .len [10] [24]) [10], xo 12 (.move (xt 1)) [], xo 13 (xb .len [12] [54]) [12], xo 14 (.binOp .neq 3 (xt 11) (xt 13) 3) []])
 (.cond 14 (.seq (.region [xo 6 (.assign (.const (.bool false))) []])
 (.ret)) (.skip)))
 (.seq (.seq (.region [xo 15 (.move (xt 0)) [], xo 16 (xb .len [15] [24]) [], xo 17 (.move (.const (.int .i64 0))) []])
 (.block 0 (.loop (.seq (.region [xo 18 (.binOp .lss 3 (xt 17) (xt 16) 3) []])
 (.seq (.cond 18 (.skip) (.exit 0))
 (.seq (.block 1 (.seq (.region [xo 19 (.move (xt 17)) [], xo 20 (.indexAddr 24 (xt 15) (xt 17)) [], xo 21 (.load 36 (xt 20)) [20], xo 8 (.alloc 36) [], xo 7 (.assign (xt 19)) [19], xn (.store 36 (xt 8) (xt 21))])
 (.seq (.region [xo 22 (.move (xt 1)) [], xo 23 (.move (xt 7)) [], xo 24 (.indexAddr 54 (xt 22) (xt 23)) [22,23], xo 25 (.load 9 (xt 24)) [24], xo 9 (.assign (xt 25)) []])
 (.seq (.region [xo 26 (.move (xt 2)) [], xo 27 (.load 36 (xt 8)) [], xo 28 (.move (xt 9)) [], xo 29 (.call { callee := (.value (xt 26)), args := #[(xt 27), (xt 28)], argTypes := #[36, 9] }) [26,27,28], xo 30 (.unOp .not 4 (xt 29)) []])
 (.cond 30 (.seq (.region [xo 6 (.assign (.const (.bool false))) []])
 (.ret)) (.skip))))))
 (.region [xo 31 (.binOp .add 3 (xt 17) (.const (.int .i64 1)) 3) [], xo 17 (.move (xt 31)) []])))))))
 (.seq (.region [xo 6 (.assign (.const (.bool true))) []])
 (.ret))))
theorem k85_ok : Tryd.f85.body.map (strip (tab0.ann 85)) = some k85 := by kernel_rfl
def k86 : XC :=
  .seq (.region [xo 2 (.box 36 (xt 0)) [], xo 4 (.assign (.const (.bool false))) []])
 (.seq (.region [xo 5 (.fieldAddr 36 (xt 2) 0) [], xo 6 (.load 9 (xt 5)) [5], xo 7 (.move (xt 1)) [], xo 8 (.binOp .eql 9 (xt 6) (xt 7) 9) [6,7], xo 4 (.assign (xt 8)) []])
 (.ret))
theorem k86_ok : Tryd.f86.body.map (strip (tab0.ann 86)) = some k86 := by kernel_rfl
def k87 : XC :=
  .seq (.region [xo 4 (.assign (.const (.int .i64 0))) []])
 (.seq (.seq (.region [xo 6 (.move (xt 0)) [], xo 7 (xb .len [6] [83]) [6], xo 8 (.move (.const (.int .i64 0))) []])
 (.block 0 (.loop (.seq (.region [xo 9 (.binOp .lss 3 (xt 8) (xt 7) 3) []])
 (.seq (.cond 9 (.skip) (.exit 0))
 (.seq (.block 1 (.seq (.region [xo 10 (.move (xt 8)) [], xo 5 (.assign (xt 10)) []])
 (.seq (.region [xo 11 (.move (xt 1)) [], xo 12 (.move (xt 0)) [], xo 13 (.move (xt 5)) [], xo 14 (.indexAddr 83 (xt 12) (xt 13)) [12,13], xo 15 (.load 22 (xt 14)) [14], xo 16 (.binOp .eql 22 (xt 11) (xt 15) 22) []])
 (.cond 16 (.seq (.region [xo 17 (.move (xt 5)) [], xo 4 (.assign (xt 17)) []])
 (.ret)) (.skip)))))
 (.region [xo 18 (.binOp .add 3 (xt 8) (.const (.int .i64 1)) 3) [], xo 8 (.move (xt 18)) []])))))))
 (.seq (.region [xo 4 (.assign (.const (.int .i64 (-1)))) []])
 (.ret)))
theorem k87_ok : Tryd.f87.body.map (strip (tab0.ann 87)) = some k87 := by kernel_rfl
noncomputable def S0 : X.Sys := { fn := fnOf [(12, Tryd.f12), (15, Tryd.f15), (16, Tryd.f16), (17, Tryd.f17), (19, Tryd.f19), (20, Tryd.f20), (33, Tryd.f33), (34, Tryd.f34), (35, Tryd.f35), (36, Tryd.f36), (38, Tryd.f38), (39, Tryd.f39), (40, Tryd.f40), (41, Tryd.f41), (50, Tryd.f50), (51, Tryd.f51), (52, Tryd.f52), (53, Tryd.f53), (54, Tryd.f54), (55, Tryd.f55), (57, Tryd.f57), (58, Tryd.f58), (59, Tryd.f59), (60, Tryd.f60), (62, Tryd.f62), (63, Tryd.f63), (84, Tryd.f84), (85, Tryd.f85), (86, Tryd.f86), (87, Tryd.f87)], tab := tab0, foreign := pickOf [(37, stringF 5), (56, itoaF), (61, fixF Tryd.wordsP), (88, copyF [66])] }
theorem sys0_ok : SysOK Tryd.prog S0 where
  tab := tab0_is_ok
  mixed := by kernel_rfl
  fn := fnOf_spec (by
    intro p hp
    simp only [List.mem_cons, List.not_mem_nil, or_false] at hp
    rcases hp with rfl | rfl | rfl | rfl | rfl | rfl | rfl | rfl | rfl | rfl | rfl | rfl | rfl | rfl | rfl | rfl | rfl | rfl | rfl | rfl | rfl | rfl | rfl | rfl | rfl | rfl | rfl | rfl | rfl | rfl
    · exact ⟨Tryd.func12, by kernel_rfl⟩
    · exact ⟨Tryd.func15, by kernel_rfl⟩
    · exact ⟨Tryd.func16, by kernel_rfl⟩
    · exact ⟨Tryd.func17, by kernel_rfl⟩
    · exact ⟨Tryd.func19, by kernel_rfl⟩
    · exact ⟨Tryd.func20, by kernel_rfl⟩
    · exact ⟨Tryd.func33, by kernel_rfl⟩
    · exact ⟨Tryd.func34, by kernel_rfl⟩
    · exact ⟨Tryd.func35, by kernel_rfl⟩
    · exact ⟨Tryd.func36, by kernel_rfl⟩
    · exact ⟨Tryd.func38, by kernel_rfl⟩
    · exact ⟨Tryd.func39, by kernel_rfl⟩
    · exact ⟨Tryd.func40, by kernel_rfl⟩
    · exact ⟨Tryd.func41, by kernel_rfl⟩
    · exact ⟨Tryd.func50, by kernel_rfl⟩
    · exact ⟨Tryd.func51, by kernel_rfl⟩
    · exact ⟨Tryd.func52, by kernel_rfl⟩
    · exact ⟨Tryd.func53, by kernel_rfl⟩
    · exact ⟨Tryd.func54, by kernel_rfl⟩
    · exact ⟨Tryd.func55, by kernel_rfl⟩
    · exact ⟨Tryd.func57, by kernel_rfl⟩
    · exact ⟨Tryd.func58, by kernel_rfl⟩
    · exact ⟨Tryd.func59, by kernel_rfl⟩
    · exact ⟨Tryd.func60, by kernel_rfl⟩
    · exact ⟨Tryd.func62, by kernel_rfl⟩
    · exact ⟨Tryd.func63, by kernel_rfl⟩
    · exact ⟨Tryd.func84, by kernel_rfl⟩
    · exact ⟨Tryd.func85, by kernel_rfl⟩
    · exact ⟨Tryd.func86, by kernel_rfl⟩
    · exact ⟨Tryd.func87, by kernel_rfl⟩)
  sites := sites_spec (fun _ => rfl) (by
    intro p hp
    simp only [List.mem_cons, List.not_mem_nil, or_false] at hp
    rcases hp with rfl | rfl | rfl | rfl | rfl | rfl | rfl | rfl | rfl | rfl | rfl | rfl | rfl | rfl | rfl | rfl | rfl | rfl | rfl | rfl | rfl | rfl | rfl | rfl | rfl | rfl | rfl | rfl | rfl | rfl
    · exact .inl (by kernel_rfl)
    · exact .inl (by kernel_rfl)
    · exact .inl (by kernel_rfl)
    · exact .inl (by kernel_rfl)
    · exact .inl (by kernel_rfl)
    · exact .inl (by kernel_rfl)
    · exact .inl (by kernel_rfl)
    · exact .inl (by kernel_rfl)
    · exact .inl (by kernel_rfl)
    · exact .inl (by kernel_rfl)
    · exact .inl (by kernel_rfl)
    · exact .inl (by kernel_rfl)
    · exact .inl (by kernel_rfl)
    · exact .inl (by kernel_rfl)
    · exact .inl (by kernel_rfl)
    · exact .inl (by kernel_rfl)
    · exact .inl (by kernel_rfl)
    · exact .inl (by kernel_rfl)
    · exact .inl (by kernel_rfl)
    · exact .inl (by kernel_rfl)
    · exact .inl (by kernel_rfl)
    · exact .inl (by kernel_rfl)
    · exact .inl (by kernel_rfl)
    · exact .inl (by kernel_rfl)
    · exact .inl (by kernel_rfl)
    · exact .inl (by kernel_rfl)
    · exact .inl (by kernel_rfl)
    · exact .inl (by kernel_rfl)
    · exact .inl (by kernel_rfl)
    · exact .inl (by kernel_rfl))
  site := fun g q h => site_spec (F := siteF) (L := siteL) (by
    intro p hp
    cases hp) g q h
  foreign := pickOf_spec (by
    intro p hp
    simp only [List.mem_cons, List.not_mem_nil, or_false] at hp
    rcases hp with rfl | rfl | rfl | rfl
    · exact string_foreign ⟨_, Tryd.func37, by decide +kernel, by kernel_rfl⟩ (fun b g cap cur l w h1 h2 h3 h4 h5 h6 h7 => string_row Tryd.lays169 rfl Tryd.isAgg5 Tryd.underlying5 Tryd.sizeOf5 Tryd.zeroValue5 (by kernel_rfl) b g cap cur l w h1 h2 h3 h4 h5 h6 h7)
    · exact itoa_foreign (g := 0) (by kernel_rfl) (List.mem_singleton.2 rfl) ⟨_, Tryd.func56, by decide +kernel, by kernel_rfl⟩ Tryd.strconv_FormatInt_10
    · exact fix_foreign ⟨_, Tryd.func61, by decide +kernel, by kernel_rfl⟩ (fun m w => Tryd.words_rel m w) Tryd.words_call
    · exact copy_foreign ⟨_, Tryd.func88, by decide +kernel, by kernel_rfl⟩ (fun T hT b w h1 h2 h3 => by obtain rfl := List.mem_singleton.1 (mem_iff hT); exact Tryd.copy_fresh 66 (by kernel_rfl) b w h1 h2 h3) Tryd.copy_used)
noncomputable def XFL : List (Nat × (XC × List ResultVar)) := [(12, (k12, [.tmp 0])), (15, (k15, [.tmp 2])), (16, (k16, [.tmp 2])), (17, (k17, [.tmp 4])), (19, (k19, [.cell 2 3])), (20, (k20, [.cell 2 3])), (33, (k33, [])), (34, (k34, [.tmp 6])), (35, (k35, [.tmp 2])), (36, (k36, [])), (38, (k38, [.tmp 6])), (39, (k39, [.tmp 4])), (40, (k40, [.tmp 5])), (41, (k41, [.tmp 5])), (50, (k50, [.tmp 6])), (51, (k51, [.tmp 2])), (52, (k52, [.tmp 2])), (53, (k53, [.tmp 3])), (54, (k54, [.tmp 4])), (55, (k55, [.tmp 4, .tmp 5])), (57, (k57, [])), (58, (k58, [])), (59, (k59, [])), (60, (k60, [.tmp 4])), (62, (k62, [.tmp 6])), (63, (k63, [.tmp 4])), (84, (k84, [.tmp 2, .tmp 3])), (85, (k85, [.tmp 6])), (86, (k86, [.tmp 4])), (87, (k87, [.tmp 4]))]
theorem XFL_ok : XFok S0 (pickOf XFL) := xf_ok (by
    intro p hp
    simp only [XFL, List.mem_cons, List.not_mem_nil, or_false] at hp
    rcases hp with rfl | rfl | rfl | rfl | rfl | rfl | rfl | rfl | rfl | rfl | rfl | rfl | rfl | rfl | rfl | rfl | rfl | rfl | rfl | rfl | rfl | rfl | rfl | rfl | rfl | rfl | rfl | rfl | rfl | rfl
    · exact ⟨Tryd.f12, by kernel_rfl, k12_ok, by kernel_rfl⟩
    · exact ⟨Tryd.f15, by kernel_rfl, k15_ok, by kernel_rfl⟩
    · exact ⟨Tryd.f16, by kernel_rfl, k16_ok, by kernel_rfl⟩
    · exact ⟨Tryd.f17, by kernel_rfl, k17_ok, by kernel_rfl⟩
    · exact ⟨Tryd.f19, by kernel_rfl, k19_ok, by kernel_rfl⟩
    · exact ⟨Tryd.f20, by kernel_rfl, k20_ok, by kernel_rfl⟩
    · exact ⟨Tryd.f33, by kernel_rfl, k33_ok, by kernel_rfl⟩
    · exact ⟨Tryd.f34, by kernel_rfl, k34_ok, by kernel_rfl⟩
    · exact ⟨Tryd.f35, by kernel_rfl, k35_ok, by kernel_rfl⟩
    · exact ⟨Tryd.f36, by kernel_rfl, k36_ok, by kernel_rfl⟩
    · exact ⟨Tryd.f38, by kernel_rfl, k38_ok, by kernel_rfl⟩
    · exact ⟨Tryd.f39, by kernel_rfl, k39_ok, by kernel_rfl⟩
    · exact ⟨Tryd.f40, by kernel_rfl, k40_ok, by kernel_rfl⟩
    · exact ⟨Tryd.f41, by kernel_rfl, k41_ok, by kernel_rfl⟩
    · exact ⟨Tryd.f50, by kernel_rfl, k50_ok, by kernel_rfl⟩
    · exact ⟨Tryd.f51, by kernel_rfl, k51_ok, by kernel_rfl⟩
    · exact ⟨Tryd.f52, by kernel_rfl, k52_ok, by kernel_rfl⟩
    · exact ⟨Tryd.f53, by kernel_rfl, k53_ok, by kernel_rfl⟩
    · exact ⟨Tryd.f54, by kernel_rfl, k54_ok, by kernel_rfl⟩
    · exact ⟨Tryd.f55, by kernel_rfl, k55_ok, by kernel_rfl⟩
    · exact ⟨Tryd.f57, by kernel_rfl, k57_ok, by kernel_rfl⟩
    · exact ⟨Tryd.f58, by kernel_rfl, k58_ok, by kernel_rfl⟩
    · exact ⟨Tryd.f59, by kernel_rfl, k59_ok, by kernel_rfl⟩
    · exact ⟨Tryd.f60, by kernel_rfl, k60_ok, by kernel_rfl⟩
    · exact ⟨Tryd.f62, by kernel_rfl, k62_ok, by kernel_rfl⟩
    · exact ⟨Tryd.f63, by kernel_rfl, k63_ok, by kernel_rfl⟩
    · exact ⟨Tryd.f84, by kernel_rfl, k84_ok, by kernel_rfl⟩
    · exact ⟨Tryd.f85, by kernel_rfl, k85_ok, by kernel_rfl⟩
    · exact ⟨Tryd.f86, by kernel_rfl, k86_ok, by kernel_rfl⟩
    · exact ⟨Tryd.f87, by kernel_rfl, k87_ok, by kernel_rfl⟩)
noncomputable def XSL : List (Nat × (Nat × List Nat × XC × XC)) := []
theorem XSL_ok : XSok S0 (pickOf XSL) := xs_ok (by
    intro p hp
    cases hp)
theorem closed12 : callN S0 (pickOf XFL) (pickOf XSL) 5000 100 12 [] [] = some (.d (.bool true), []) := by kernel_rfl
end Go.Proofs.YtdmpjlpkmokllaaDoor
