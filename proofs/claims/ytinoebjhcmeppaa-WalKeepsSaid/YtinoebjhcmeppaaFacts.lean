/- Closed facts on the types and functions of the program, each by the kernel: printed by a program of the prover's own (facts.py). -/
import Derived.Test.YtinoebjhcmeppaaOps
import Derived.Test.YtinoebjhcmeppaaProg
namespace Go.Proofs.Ytinoebjhcmeppaa
open E
theorem mixed : Try.prog.follows .mixedOrders = true := by kernel_rfl
theorem e1_22 : elem1 Try.prog 22 = some (37, .slice none 0 0, 24) := by kernel_rfl
theorem e1_23 : elem1 Try.prog 23 = some (3, .int .i64 0, 8) := by kernel_rfl
theorem e1_37 : elem1 Try.prog 37 = some (5, .int .u8 0, 1) := by kernel_rfl
theorem el22 : elemOfT Try.prog 22 = some (37, 1) := by kernel_rfl
theorem el23 : elemOfT Try.prog 23 = some (3, 1) := by kernel_rfl
theorem el37 : elemOfT Try.prog 37 = some (5, 1) := by kernel_rfl
theorem el45 : elemOfT Try.prog 45 = some (79, 64) := by kernel_rfl
theorem el58 : elemOfT Try.prog 58 = some (69, 129) := by kernel_rfl
theorem ar67 : arrayOfT Try.prog 67 = some (64, 5, 1) := by kernel_rfl
theorem ar79 : arrayOfT Try.prog 79 = some (64, 5, 1) := by kernel_rfl
theorem ar93 : arrayOfT Try.prog 93 = some (32, 5, 1) := by kernel_rfl
theorem ar104 : arrayOfT Try.prog 104 = some (8, 103, 1) := by kernel_rfl
theorem ar112 : arrayOfT Try.prog 112 = some (64, 103, 1) := by kernel_rfl
theorem fo_48_0 : fieldOff Try.prog 48 0 = some 0 := by kernel_rfl
theorem fo_48_1 : fieldOff Try.prog 48 1 = some 1 := by kernel_rfl
theorem fo_50_0 : fieldOff Try.prog 50 0 = some 0 := by kernel_rfl
theorem fo_50_1 : fieldOff Try.prog 50 1 = some 1 := by kernel_rfl
theorem fo_50_2 : fieldOff Try.prog 50 2 = some 2 := by kernel_rfl
theorem fo_60_0 : fieldOff Try.prog 60 0 = some 0 := by kernel_rfl
theorem fo_62_0 : fieldOff Try.prog 62 0 = some 0 := by kernel_rfl
theorem fo_62_1 : fieldOff Try.prog 62 1 = some 1 := by kernel_rfl
theorem fo_62_2 : fieldOff Try.prog 62 2 = some 2 := by kernel_rfl
theorem fo_69_0 : fieldOff Try.prog 69 0 = some 0 := by kernel_rfl
theorem fo_69_1 : fieldOff Try.prog 69 1 = some 64 := by kernel_rfl
theorem fo_69_2 : fieldOff Try.prog 69 2 = some 128 := by kernel_rfl
theorem fo_71_0 : fieldOff Try.prog 71 0 = some 0 := by kernel_rfl
theorem fo_102_0 : fieldOff Try.prog 102 0 = some 0 := by kernel_rfl
theorem fo_102_1 : fieldOff Try.prog 102 1 = some 1 := by kernel_rfl
theorem fo_116_0 : fieldOff Try.prog 116 0 = some 0 := by kernel_rfl
theorem fo_116_1 : fieldOff Try.prog 116 1 = some 8 := by kernel_rfl
theorem fo_116_2 : fieldOff Try.prog 116 2 = some 72 := by kernel_rfl
theorem kd3 : kindOf Try.prog 3 = some .i64 := by kernel_rfl
theorem kd5 : kindOf Try.prog 5 = some .u8 := by kernel_rfl
theorem kd36 : kindOf Try.prog 36 = some .u64 := by kernel_rfl
theorem kd73 : kindOf Try.prog 73 = some .u64 := by kernel_rfl
theorem kd103 : kindOf Try.prog 103 = some .u32 := by kernel_rfl
theorem sc3 : scal Try.prog 3 = true := by kernel_rfl
theorem sc4 : scal Try.prog 4 = true := by kernel_rfl
theorem sc5 : scal Try.prog 5 = true := by kernel_rfl
theorem sc22 : scal Try.prog 22 = true := by kernel_rfl
theorem sc23 : scal Try.prog 23 = true := by kernel_rfl
theorem sc24 : scal Try.prog 24 = true := by kernel_rfl
theorem sc28 : scal Try.prog 28 = true := by kernel_rfl
theorem sc31 : scal Try.prog 31 = true := by kernel_rfl
theorem sc37 : scal Try.prog 37 = true := by kernel_rfl
theorem sc45 : scal Try.prog 45 = true := by kernel_rfl
theorem sc46 : scal Try.prog 46 = true := by kernel_rfl
theorem sc58 : scal Try.prog 58 = true := by kernel_rfl
theorem ag67 : aggn Try.prog 67 = some 64 := by kernel_rfl
theorem sc73 : scal Try.prog 73 = true := by kernel_rfl
theorem ag79 : aggn Try.prog 79 = some 64 := by kernel_rfl
theorem ag93 : aggn Try.prog 93 = some 32 := by kernel_rfl
theorem sc103 : scal Try.prog 103 = true := by kernel_rfl
theorem ag104 : aggn Try.prog 104 = some 8 := by kernel_rfl
theorem ag116 : aggn Try.prog 116 = some 73 := by kernel_rfl
theorem ok5 : fnOk Try.prog 5 = true := by kernel_rfl
theorem ok6 : fnOk Try.prog 6 = true := by kernel_rfl
theorem ok7 : fnOk Try.prog 7 = true := by kernel_rfl
theorem ok8 : fnOk Try.prog 8 = true := by kernel_rfl
theorem ok9 : fnOk Try.prog 9 = true := by kernel_rfl
theorem ok10 : fnOk Try.prog 10 = true := by kernel_rfl
theorem ok11 : fnOk Try.prog 11 = true := by kernel_rfl
theorem ok12 : fnOk Try.prog 12 = true := by kernel_rfl
theorem ok13 : fnOk Try.prog 13 = true := by kernel_rfl
theorem ok14 : fnOk Try.prog 14 = true := by kernel_rfl
theorem ok15 : fnOk Try.prog 15 = true := by kernel_rfl
theorem ok16 : fnOk Try.prog 16 = true := by kernel_rfl
theorem ok17 : fnOk Try.prog 17 = true := by kernel_rfl
theorem ok18 : fnOk Try.prog 18 = true := by kernel_rfl
theorem ok19 : fnOk Try.prog 19 = true := by kernel_rfl
theorem ok20 : fnOk Try.prog 20 = true := by kernel_rfl
theorem ok21 : fnOk Try.prog 21 = true := by kernel_rfl
theorem ok22 : fnOk Try.prog 22 = true := by kernel_rfl
theorem ok23 : fnOk Try.prog 23 = true := by kernel_rfl
theorem ok24 : fnOk Try.prog 24 = true := by kernel_rfl
theorem ok25 : fnOk Try.prog 25 = true := by kernel_rfl
theorem ok26 : fnOk Try.prog 26 = true := by kernel_rfl
theorem ok27 : fnOk Try.prog 27 = true := by kernel_rfl
theorem ok28 : fnOk Try.prog 28 = true := by kernel_rfl
theorem ok29 : fnOk Try.prog 29 = true := by kernel_rfl
theorem ok30 : fnOk Try.prog 30 = true := by kernel_rfl
theorem ok31 : fnOk Try.prog 31 = true := by kernel_rfl
theorem ok32 : fnOk Try.prog 32 = true := by kernel_rfl
theorem ok33 : fnOk Try.prog 33 = true := by kernel_rfl
theorem ok34 : fnOk Try.prog 34 = true := by kernel_rfl
theorem ok35 : fnOk Try.prog 35 = true := by kernel_rfl
theorem ok36 : fnOk Try.prog 36 = true := by kernel_rfl
theorem ok37 : fnOk Try.prog 37 = true := by kernel_rfl
theorem ok38 : fnOk Try.prog 38 = true := by kernel_rfl
theorem ok39 : fnOk Try.prog 39 = true := by kernel_rfl
theorem ok40 : fnOk Try.prog 40 = true := by kernel_rfl
theorem ok41 : fnOk Try.prog 41 = true := by kernel_rfl
theorem ok42 : fnOk Try.prog 42 = true := by kernel_rfl
theorem ok43 : fnOk Try.prog 43 = true := by kernel_rfl
theorem ok44 : fnOk Try.prog 44 = true := by kernel_rfl
theorem ok45 : fnOk Try.prog 45 = true := by kernel_rfl
theorem ok46 : fnOk Try.prog 46 = true := by kernel_rfl
theorem ok47 : fnOk Try.prog 47 = true := by kernel_rfl
theorem ok48 : fnOk Try.prog 48 = true := by kernel_rfl
theorem ok49 : fnOk Try.prog 49 = true := by kernel_rfl
theorem ok50 : fnOk Try.prog 50 = true := by kernel_rfl
theorem ok51 : fnOk Try.prog 51 = true := by kernel_rfl
theorem ok52 : fnOk Try.prog 52 = true := by kernel_rfl
theorem ok53 : fnOk Try.prog 53 = true := by kernel_rfl
theorem ok54 : fnOk Try.prog 54 = true := by kernel_rfl
theorem ok55 : fnOk Try.prog 55 = true := by kernel_rfl
theorem ok56 : fnOk Try.prog 56 = true := by kernel_rfl
theorem ok57 : fnOk Try.prog 57 = true := by kernel_rfl
theorem ok58 : fnOk Try.prog 58 = true := by kernel_rfl
theorem ok59 : fnOk Try.prog 59 = true := by kernel_rfl
theorem ok60 : fnOk Try.prog 60 = true := by kernel_rfl
theorem ok61 : fnOk Try.prog 61 = true := by kernel_rfl
theorem ok62 : fnOk Try.prog 62 = true := by kernel_rfl
theorem ok63 : fnOk Try.prog 63 = true := by kernel_rfl
theorem ok64 : fnOk Try.prog 64 = true := by kernel_rfl
theorem ok65 : fnOk Try.prog 65 = true := by kernel_rfl
theorem ok66 : fnOk Try.prog 66 = true := by kernel_rfl
theorem ok67 : fnOk Try.prog 67 = true := by kernel_rfl
theorem ok68 : fnOk Try.prog 68 = true := by kernel_rfl
theorem ok80 : fnOk Try.prog 80 = true := by kernel_rfl
theorem ok81 : fnOk Try.prog 81 = true := by kernel_rfl
theorem pt24 : Try.prog.underlying 24 = some (.pointer (Try.prog.pointee 24)) := by kernel_rfl
theorem pt28 : Try.prog.underlying 28 = some (.pointer (Try.prog.pointee 28)) := by kernel_rfl
theorem pt85 : Try.prog.underlying 85 = some (.pointer (Try.prog.pointee 85)) := by kernel_rfl
theorem pt97 : Try.prog.underlying 97 = some (.pointer (Try.prog.pointee 97)) := by kernel_rfl
theorem pt106 : Try.prog.underlying 106 = some (.pointer (Try.prog.pointee 106)) := by kernel_rfl
theorem sz3 : cellsT Try.prog 3 = some 1 := by kernel_rfl
theorem sz4 : cellsT Try.prog 4 = some 1 := by kernel_rfl
theorem sz5 : cellsT Try.prog 5 = some 1 := by kernel_rfl
theorem sz22 : cellsT Try.prog 22 = some 1 := by kernel_rfl
theorem sz23 : cellsT Try.prog 23 = some 1 := by kernel_rfl
theorem sz28 : cellsT Try.prog 28 = some 1 := by kernel_rfl
theorem sz37 : cellsT Try.prog 37 = some 1 := by kernel_rfl
theorem sz67 : cellsT Try.prog 67 = some 64 := by kernel_rfl
theorem sz73 : cellsT Try.prog 73 = some 1 := by kernel_rfl
theorem sz79 : cellsT Try.prog 79 = some 64 := by kernel_rfl
theorem sz93 : cellsT Try.prog 93 = some 32 := by kernel_rfl
theorem sz103 : cellsT Try.prog 103 = some 1 := by kernel_rfl
theorem sz104 : cellsT Try.prog 104 = some 8 := by kernel_rfl
theorem sz112 : cellsT Try.prog 112 = some 64 := by kernel_rfl
theorem sz116 : cellsT Try.prog 116 = some 73 := by kernel_rfl
theorem zero22 : (Try.prog.info? 22).map (·.zero) = some (some (.slice none 0 0)) := by kernel_rfl
theorem zero28 : (Try.prog.info? 28).map (·.zero) = some (some (.pointer none)) := by kernel_rfl
theorem zero67 : (Try.prog.info? 67).map (·.zero) = some (some (.agg (List.replicate 64 (.int .u8 0 : Value)).toArray)) := by kernel_rfl
theorem zero71 : (Try.prog.info? 71).map (·.zero) = some (some (.agg #[.slice none 0 0])) := by kernel_rfl
theorem zero79 : (Try.prog.info? 79).map (·.zero) = some (some (.agg (List.replicate 64 (.int .u8 0 : Value)).toArray)) := by kernel_rfl
theorem zero93 : (Try.prog.info? 93).map (·.zero) = some (some (.agg (List.replicate 32 (.int .u8 0 : Value)).toArray)) := by kernel_rfl
theorem zero104 : (Try.prog.info? 104).map (·.zero) = some (some (.agg #[.int .u32 0, .int .u32 0, .int .u32 0, .int .u32 0, .int .u32 0, .int .u32 0, .int .u32 0, .int .u32 0])) := by kernel_rfl
theorem zero112 : (Try.prog.info? 112).map (·.zero) = some (some (.agg (List.replicate 64 (.int .u32 0 : Value)).toArray)) := by kernel_rfl
theorem zero116 : (Try.prog.info? 116).map (·.zero) = some (some (.agg #[.int .u32 0, .int .u32 0, .int .u32 0, .int .u32 0, .int .u32 0, .int .u32 0, .int .u32 0, .int .u32 0, .int .u8 0, .int .u8 0, .int .u8 0, .int .u8 0, .int .u8 0, .int .u8 0, .int .u8 0, .int .u8 0, .int .u8 0, .int .u8 0, .int .u8 0, .int .u8 0, .int .u8 0, .int .u8 0, .int .u8 0, .int .u8 0, .int .u8 0, .int .u8 0, .int .u8 0, .int .u8 0, .int .u8 0, .int .u8 0, .int .u8 0, .int .u8 0, .int .u8 0, .int .u8 0, .int .u8 0, .int .u8 0, .int .u8 0, .int .u8 0, .int .u8 0, .int .u8 0, .int .u8 0, .int .u8 0, .int .u8 0, .int .u8 0, .int .u8 0, .int .u8 0, .int .u8 0, .int .u8 0, .int .u8 0, .int .u8 0, .int .u8 0, .int .u8 0, .int .u8 0, .int .u8 0, .int .u8 0, .int .u8 0, .int .u8 0, .int .u8 0, .int .u8 0, .int .u8 0, .int .u8 0, .int .u8 0, .int .u8 0, .int .u8 0, .int .u8 0, .int .u8 0, .int .u8 0, .int .u8 0, .int .u8 0, .int .u8 0, .int .u8 0, .int .u8 0, .int .u64 0])) := by kernel_rfl
end Go.Proofs.Ytinoebjhcmeppaa
