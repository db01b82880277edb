/- Own work, a part of the proof (TyYtcefflgbnhppbaa). Conditions: none. -/
import Derived.Test.YtcefflgbnhppbaaFw21
import Derived.Test.YtcefflgbnhppbaaProg
set_option linter.unusedVariables false
namespace Go.Gh
open Go.Proofs
@[go_sem] theorem ty1 : tk Try.prog 1 = .fn := by kernel_rfl
@[go_sem] theorem tz1 : tsz Try.prog 1 = some 1 := by kernel_rfl
@[go_sem] theorem tb1 : tby Try.prog 1 = some 8 := by kernel_rfl
@[go_sem] theorem to1 : tzero Try.prog 1 = some AV.nilfn := by kernel_rfl
@[go_sem] theorem ty2 : tk Try.prog 2 = .int .i64 := by kernel_rfl
@[go_sem] theorem tz2 : tsz Try.prog 2 = some 1 := by kernel_rfl
@[go_sem] theorem tb2 : tby Try.prog 2 = some 8 := by kernel_rfl
@[go_sem] theorem to2 : tzero Try.prog 2 = some (AV.int .i64 (0)) := by kernel_rfl
@[go_sem] theorem ty3 : tk Try.prog 3 = .int .i64 := by kernel_rfl
@[go_sem] theorem tz3 : tsz Try.prog 3 = some 1 := by kernel_rfl
@[go_sem] theorem tb3 : tby Try.prog 3 = some 8 := by kernel_rfl
@[go_sem] theorem to3 : tzero Try.prog 3 = some (AV.int .i64 (0)) := by kernel_rfl
@[go_sem] theorem ty4 : tk Try.prog 4 = .bool := by kernel_rfl
@[go_sem] theorem tz4 : tsz Try.prog 4 = some 1 := by kernel_rfl
@[go_sem] theorem tb4 : tby Try.prog 4 = some 1 := by kernel_rfl
@[go_sem] theorem to4 : tzero Try.prog 4 = some (AV.bool false) := by kernel_rfl
@[go_sem] theorem ty5 : tk Try.prog 5 = .int .u8 := by kernel_rfl
@[go_sem] theorem tz5 : tsz Try.prog 5 = some 1 := by kernel_rfl
@[go_sem] theorem tb5 : tby Try.prog 5 = some 1 := by kernel_rfl
@[go_sem] theorem to5 : tzero Try.prog 5 = some (AV.int .u8 (0)) := by kernel_rfl
@[go_sem] theorem ty6 : tk Try.prog 6 = .int .u8 := by kernel_rfl
@[go_sem] theorem tz6 : tsz Try.prog 6 = some 1 := by kernel_rfl
@[go_sem] theorem tb6 : tby Try.prog 6 = some 1 := by kernel_rfl
@[go_sem] theorem to6 : tzero Try.prog 6 = some (AV.int .u8 (0)) := by kernel_rfl
@[go_sem] theorem ty7 : tk Try.prog 7 = .st [(0, 2), (1, 3), (2, 4), (3, 6)] := by kernel_rfl
@[go_sem] theorem tz7 : tsz Try.prog 7 = some 4 := by kernel_rfl
@[go_sem] theorem tb7 : tby Try.prog 7 = some 24 := by kernel_rfl
@[go_sem] theorem to7 : tzero Try.prog 7 = some (AV.agg [AV.int .i64 (0), AV.int .i64 (0), AV.bool false, AV.int .u8 (0)]) := by kernel_rfl
@[go_sem] theorem ty8 : tk Try.prog 8 = .st [(0, 2), (1, 3), (2, 4), (3, 6)] := by kernel_rfl
@[go_sem] theorem tz8 : tsz Try.prog 8 = some 4 := by kernel_rfl
@[go_sem] theorem tb8 : tby Try.prog 8 = some 24 := by kernel_rfl
@[go_sem] theorem to8 : tzero Try.prog 8 = some (AV.agg [AV.int .i64 (0), AV.int .i64 (0), AV.bool false, AV.int .u8 (0)]) := by kernel_rfl
@[go_sem] theorem ty9 : tk Try.prog 9 = .str := by kernel_rfl
@[go_sem] theorem tz9 : tsz Try.prog 9 = some 1 := by kernel_rfl
@[go_sem] theorem tb9 : tby Try.prog 9 = some 16 := by kernel_rfl
@[go_sem] theorem to9 : tzero Try.prog 9 = some (AV.str []) := by kernel_rfl
@[go_sem] theorem ty10 : tk Try.prog 10 = .str := by kernel_rfl
@[go_sem] theorem tz10 : tsz Try.prog 10 = some 1 := by kernel_rfl
@[go_sem] theorem tb10 : tby Try.prog 10 = some 16 := by kernel_rfl
@[go_sem] theorem to10 : tzero Try.prog 10 = some (AV.str []) := by kernel_rfl
@[go_sem] theorem ty11 : tk Try.prog 11 = .str := by kernel_rfl
@[go_sem] theorem tz11 : tsz Try.prog 11 = some 1 := by kernel_rfl
@[go_sem] theorem tb11 : tby Try.prog 11 = some 16 := by kernel_rfl
@[go_sem] theorem to11 : tzero Try.prog 11 = some (AV.str []) := by kernel_rfl
@[go_sem] theorem ty12 : tk Try.prog 12 = .int .u64 := by kernel_rfl
@[go_sem] theorem tz12 : tsz Try.prog 12 = some 1 := by kernel_rfl
@[go_sem] theorem tb12 : tby Try.prog 12 = some 8 := by kernel_rfl
@[go_sem] theorem to12 : tzero Try.prog 12 = some (AV.int .u64 (0)) := by kernel_rfl
@[go_sem] theorem ty13 : tk Try.prog 13 = .st [(0, 9), (1, 12)] := by kernel_rfl
@[go_sem] theorem tz13 : tsz Try.prog 13 = some 2 := by kernel_rfl
@[go_sem] theorem tb13 : tby Try.prog 13 = some 24 := by kernel_rfl
@[go_sem] theorem to13 : tzero Try.prog 13 = some (AV.agg [AV.str [], AV.int .u64 (0)]) := by kernel_rfl
@[go_sem] theorem ty14 : tk Try.prog 14 = .st [(0, 9), (1, 12)] := by kernel_rfl
@[go_sem] theorem tz14 : tsz Try.prog 14 = some 2 := by kernel_rfl
@[go_sem] theorem tb14 : tby Try.prog 14 = some 24 := by kernel_rfl
@[go_sem] theorem to14 : tzero Try.prog 14 = some (AV.agg [AV.str [], AV.int .u64 (0)]) := by kernel_rfl
@[go_sem] theorem ty15 : tk Try.prog 15 = .ptr 67 := by kernel_rfl
@[go_sem] theorem tz15 : tsz Try.prog 15 = some 1 := by kernel_rfl
@[go_sem] theorem tb15 : tby Try.prog 15 = some 8 := by kernel_rfl
@[go_sem] theorem to15 : tzero Try.prog 15 = some AV.nilptr := by kernel_rfl
@[go_sem] theorem ty16 : tk Try.prog 16 = .ptr 70 := by kernel_rfl
@[go_sem] theorem tz16 : tsz Try.prog 16 = some 1 := by kernel_rfl
@[go_sem] theorem tb16 : tby Try.prog 16 = some 8 := by kernel_rfl
@[go_sem] theorem to16 : tzero Try.prog 16 = some AV.nilptr := by kernel_rfl
@[go_sem] theorem ty17 : tk Try.prog 17 = .ptr 79 := by kernel_rfl
@[go_sem] theorem tz17 : tsz Try.prog 17 = some 1 := by kernel_rfl
@[go_sem] theorem tb17 : tby Try.prog 17 = some 8 := by kernel_rfl
@[go_sem] theorem to17 : tzero Try.prog 17 = some AV.nilptr := by kernel_rfl
@[go_sem] theorem ty18 : tk Try.prog 18 = .st [(0, 17)] := by kernel_rfl
@[go_sem] theorem tz18 : tsz Try.prog 18 = some 1 := by kernel_rfl
@[go_sem] theorem tb18 : tby Try.prog 18 = some 8 := by kernel_rfl
@[go_sem] theorem to18 : tzero Try.prog 18 = some (AV.agg [AV.nilptr]) := by kernel_rfl
@[go_sem] theorem ty19 : tk Try.prog 19 = .st [(0, 17)] := by kernel_rfl
@[go_sem] theorem tz19 : tsz Try.prog 19 = some 1 := by kernel_rfl
@[go_sem] theorem tb19 : tby Try.prog 19 = some 8 := by kernel_rfl
@[go_sem] theorem to19 : tzero Try.prog 19 = some (AV.agg [AV.nilptr]) := by kernel_rfl
@[go_sem] theorem ty20 : tk Try.prog 20 = .ifc := by kernel_rfl
@[go_sem] theorem tz20 : tsz Try.prog 20 = some 1 := by kernel_rfl
@[go_sem] theorem tb20 : tby Try.prog 20 = some 16 := by kernel_rfl
@[go_sem] theorem to20 : tzero Try.prog 20 = some AV.nilifc := by kernel_rfl
@[go_sem] theorem ty21 : tk Try.prog 21 = .int .i32 := by kernel_rfl
@[go_sem] theorem tz21 : tsz Try.prog 21 = some 1 := by kernel_rfl
@[go_sem] theorem tb21 : tby Try.prog 21 = some 4 := by kernel_rfl
@[go_sem] theorem to21 : tzero Try.prog 21 = some (AV.int .i32 (0)) := by kernel_rfl
@[go_sem] theorem ty22 : tk Try.prog 22 = .sl 32 := by kernel_rfl
@[go_sem] theorem tz22 : tsz Try.prog 22 = some 1 := by kernel_rfl
@[go_sem] theorem tb22 : tby Try.prog 22 = some 24 := by kernel_rfl
@[go_sem] theorem to22 : tzero Try.prog 22 = some AV.nilsl := by kernel_rfl
@[go_sem] theorem ty23 : tk Try.prog 23 = .fn := by kernel_rfl
@[go_sem] theorem tz23 : tsz Try.prog 23 = some 1 := by kernel_rfl
@[go_sem] theorem tb23 : tby Try.prog 23 = some 8 := by kernel_rfl
@[go_sem] theorem to23 : tzero Try.prog 23 = some AV.nilfn := by kernel_rfl
@[go_sem] theorem ty24 : tk Try.prog 24 = .sl 28 := by kernel_rfl
@[go_sem] theorem tz24 : tsz Try.prog 24 = some 1 := by kernel_rfl
@[go_sem] theorem tb24 : tby Try.prog 24 = some 24 := by kernel_rfl
@[go_sem] theorem to24 : tzero Try.prog 24 = some AV.nilsl := by kernel_rfl
@[go_sem] theorem ty25 : tk Try.prog 25 = .int .i64 := by kernel_rfl
@[go_sem] theorem tz25 : tsz Try.prog 25 = some 1 := by kernel_rfl
@[go_sem] theorem tb25 : tby Try.prog 25 = some 8 := by kernel_rfl
@[go_sem] theorem to25 : tzero Try.prog 25 = some (AV.int .i64 (0)) := by kernel_rfl
@[go_sem] theorem ty27 : tk Try.prog 27 = .fn := by kernel_rfl
@[go_sem] theorem tz27 : tsz Try.prog 27 = some 1 := by kernel_rfl
@[go_sem] theorem tb27 : tby Try.prog 27 = some 8 := by kernel_rfl
@[go_sem] theorem to27 : tzero Try.prog 27 = some AV.nilfn := by kernel_rfl
@[go_sem] theorem ty28 : tk Try.prog 28 = .sl 3 := by kernel_rfl
@[go_sem] theorem tz28 : tsz Try.prog 28 = some 1 := by kernel_rfl
@[go_sem] theorem tb28 : tby Try.prog 28 = some 24 := by kernel_rfl
@[go_sem] theorem to28 : tzero Try.prog 28 = some AV.nilsl := by kernel_rfl
@[go_sem] theorem ty30 : tk Try.prog 30 = .fn := by kernel_rfl
@[go_sem] theorem tz30 : tsz Try.prog 30 = some 1 := by kernel_rfl
@[go_sem] theorem tb30 : tby Try.prog 30 = some 8 := by kernel_rfl
@[go_sem] theorem to30 : tzero Try.prog 30 = some AV.nilfn := by kernel_rfl
@[go_sem] theorem ty31 : tk Try.prog 31 = .fn := by kernel_rfl
@[go_sem] theorem tz31 : tsz Try.prog 31 = some 1 := by kernel_rfl
@[go_sem] theorem tb31 : tby Try.prog 31 = some 8 := by kernel_rfl
@[go_sem] theorem to31 : tzero Try.prog 31 = some AV.nilfn := by kernel_rfl
@[go_sem] theorem ty32 : tk Try.prog 32 = .arr 2 3 := by kernel_rfl
@[go_sem] theorem tz32 : tsz Try.prog 32 = some 2 := by kernel_rfl
@[go_sem] theorem tb32 : tby Try.prog 32 = some 16 := by kernel_rfl
@[go_sem] theorem to32 : tzero Try.prog 32 = some (AV.agg [AV.int .i64 (0), AV.int .i64 (0)]) := by kernel_rfl
@[go_sem] theorem ty33 : tk Try.prog 33 = .fn := by kernel_rfl
@[go_sem] theorem tz33 : tsz Try.prog 33 = some 1 := by kernel_rfl
@[go_sem] theorem tb33 : tby Try.prog 33 = some 8 := by kernel_rfl
@[go_sem] theorem to33 : tzero Try.prog 33 = some AV.nilfn := by kernel_rfl
@[go_sem] theorem ty34 : tk Try.prog 34 = .fn := by kernel_rfl
@[go_sem] theorem tz34 : tsz Try.prog 34 = some 1 := by kernel_rfl
@[go_sem] theorem tb34 : tby Try.prog 34 = some 8 := by kernel_rfl
@[go_sem] theorem to34 : tzero Try.prog 34 = some AV.nilfn := by kernel_rfl
@[go_sem] theorem ty35 : tk Try.prog 35 = .fn := by kernel_rfl
@[go_sem] theorem tz35 : tsz Try.prog 35 = some 1 := by kernel_rfl
@[go_sem] theorem tb35 : tby Try.prog 35 = some 8 := by kernel_rfl
@[go_sem] theorem to35 : tzero Try.prog 35 = some AV.nilfn := by kernel_rfl
@[go_sem] theorem ty36 : tk Try.prog 36 = .fn := by kernel_rfl
@[go_sem] theorem tz36 : tsz Try.prog 36 = some 1 := by kernel_rfl
@[go_sem] theorem tb36 : tby Try.prog 36 = some 8 := by kernel_rfl
@[go_sem] theorem to36 : tzero Try.prog 36 = some AV.nilfn := by kernel_rfl
@[go_sem] theorem ty37 : tk Try.prog 37 = .fn := by kernel_rfl
@[go_sem] theorem tz37 : tsz Try.prog 37 = some 1 := by kernel_rfl
@[go_sem] theorem tb37 : tby Try.prog 37 = some 8 := by kernel_rfl
@[go_sem] theorem to37 : tzero Try.prog 37 = some AV.nilfn := by kernel_rfl
@[go_sem] theorem ty38 : tk Try.prog 38 = .fn := by kernel_rfl
@[go_sem] theorem tz38 : tsz Try.prog 38 = some 1 := by kernel_rfl
@[go_sem] theorem tb38 : tby Try.prog 38 = some 8 := by kernel_rfl
@[go_sem] theorem to38 : tzero Try.prog 38 = some AV.nilfn := by kernel_rfl
@[go_sem] theorem ty39 : tk Try.prog 39 = .fn := by kernel_rfl
@[go_sem] theorem tz39 : tsz Try.prog 39 = some 1 := by kernel_rfl
@[go_sem] theorem tb39 : tby Try.prog 39 = some 8 := by kernel_rfl
@[go_sem] theorem to39 : tzero Try.prog 39 = some AV.nilfn := by kernel_rfl
@[go_sem] theorem ty40 : tk Try.prog 40 = .fn := by kernel_rfl
@[go_sem] theorem tz40 : tsz Try.prog 40 = some 1 := by kernel_rfl
@[go_sem] theorem tb40 : tby Try.prog 40 = some 8 := by kernel_rfl
@[go_sem] theorem to40 : tzero Try.prog 40 = some AV.nilfn := by kernel_rfl
@[go_sem] theorem ty41 : tk Try.prog 41 = .fn := by kernel_rfl
@[go_sem] theorem tz41 : tsz Try.prog 41 = some 1 := by kernel_rfl
@[go_sem] theorem tb41 : tby Try.prog 41 = some 8 := by kernel_rfl
@[go_sem] theorem to41 : tzero Try.prog 41 = some AV.nilfn := by kernel_rfl
@[go_sem] theorem ty42 : tk Try.prog 42 = .fn := by kernel_rfl
@[go_sem] theorem tz42 : tsz Try.prog 42 = some 1 := by kernel_rfl
@[go_sem] theorem tb42 : tby Try.prog 42 = some 8 := by kernel_rfl
@[go_sem] theorem to42 : tzero Try.prog 42 = some AV.nilfn := by kernel_rfl
@[go_sem] theorem ty44 : tk Try.prog 44 = .fn := by kernel_rfl
@[go_sem] theorem tz44 : tsz Try.prog 44 = some 1 := by kernel_rfl
@[go_sem] theorem tb44 : tby Try.prog 44 = some 8 := by kernel_rfl
@[go_sem] theorem to44 : tzero Try.prog 44 = some AV.nilfn := by kernel_rfl
@[go_sem] theorem ty45 : tk Try.prog 45 = .fn := by kernel_rfl
@[go_sem] theorem tz45 : tsz Try.prog 45 = some 1 := by kernel_rfl
@[go_sem] theorem tb45 : tby Try.prog 45 = some 8 := by kernel_rfl
@[go_sem] theorem to45 : tzero Try.prog 45 = some AV.nilfn := by kernel_rfl
@[go_sem] theorem ty46 : tk Try.prog 46 = .fn := by kernel_rfl
@[go_sem] theorem tz46 : tsz Try.prog 46 = some 1 := by kernel_rfl
@[go_sem] theorem tb46 : tby Try.prog 46 = some 8 := by kernel_rfl
@[go_sem] theorem to46 : tzero Try.prog 46 = some AV.nilfn := by kernel_rfl
@[go_sem] theorem ty47 : tk Try.prog 47 = .fn := by kernel_rfl
@[go_sem] theorem tz47 : tsz Try.prog 47 = some 1 := by kernel_rfl
@[go_sem] theorem tb47 : tby Try.prog 47 = some 8 := by kernel_rfl
@[go_sem] theorem to47 : tzero Try.prog 47 = some AV.nilfn := by kernel_rfl
@[go_sem] theorem ty48 : tk Try.prog 48 = .fn := by kernel_rfl
@[go_sem] theorem tz48 : tsz Try.prog 48 = some 1 := by kernel_rfl
@[go_sem] theorem tb48 : tby Try.prog 48 = some 8 := by kernel_rfl
@[go_sem] theorem to48 : tzero Try.prog 48 = some AV.nilfn := by kernel_rfl
@[go_sem] theorem ty49 : tk Try.prog 49 = .sl 25 := by kernel_rfl
@[go_sem] theorem tz49 : tsz Try.prog 49 = some 1 := by kernel_rfl
@[go_sem] theorem tb49 : tby Try.prog 49 = some 24 := by kernel_rfl
@[go_sem] theorem to49 : tzero Try.prog 49 = some AV.nilsl := by kernel_rfl
@[go_sem] theorem ty50 : tk Try.prog 50 = .fn := by kernel_rfl
@[go_sem] theorem tz50 : tsz Try.prog 50 = some 1 := by kernel_rfl
@[go_sem] theorem tb50 : tby Try.prog 50 = some 8 := by kernel_rfl
@[go_sem] theorem to50 : tzero Try.prog 50 = some AV.nilfn := by kernel_rfl
@[go_sem] theorem ty51 : tk Try.prog 51 = .fn := by kernel_rfl
@[go_sem] theorem tz51 : tsz Try.prog 51 = some 1 := by kernel_rfl
@[go_sem] theorem tb51 : tby Try.prog 51 = some 8 := by kernel_rfl
@[go_sem] theorem to51 : tzero Try.prog 51 = some AV.nilfn := by kernel_rfl
@[go_sem] theorem ty52 : tk Try.prog 52 = .fn := by kernel_rfl
@[go_sem] theorem tz52 : tsz Try.prog 52 = some 1 := by kernel_rfl
@[go_sem] theorem tb52 : tby Try.prog 52 = some 8 := by kernel_rfl
@[go_sem] theorem to52 : tzero Try.prog 52 = some AV.nilfn := by kernel_rfl
@[go_sem] theorem ty53 : tk Try.prog 53 = .fn := by kernel_rfl
@[go_sem] theorem tz53 : tsz Try.prog 53 = some 1 := by kernel_rfl
@[go_sem] theorem tb53 : tby Try.prog 53 = some 8 := by kernel_rfl
@[go_sem] theorem to53 : tzero Try.prog 53 = some AV.nilfn := by kernel_rfl
@[go_sem] theorem ty54 : tk Try.prog 54 = .arr 2 32 := by kernel_rfl
@[go_sem] theorem tz54 : tsz Try.prog 54 = some 4 := by kernel_rfl
@[go_sem] theorem tb54 : tby Try.prog 54 = some 32 := by kernel_rfl
@[go_sem] theorem to54 : tzero Try.prog 54 = some (AV.agg [AV.int .i64 (0), AV.int .i64 (0), AV.int .i64 (0), AV.int .i64 (0)]) := by kernel_rfl
@[go_sem] theorem ty55 : tk Try.prog 55 = .fn := by kernel_rfl
@[go_sem] theorem tz55 : tsz Try.prog 55 = some 1 := by kernel_rfl
@[go_sem] theorem tb55 : tby Try.prog 55 = some 8 := by kernel_rfl
@[go_sem] theorem to55 : tzero Try.prog 55 = some AV.nilfn := by kernel_rfl
@[go_sem] theorem ty56 : tk Try.prog 56 = .int .u64 := by kernel_rfl
@[go_sem] theorem tz56 : tsz Try.prog 56 = some 1 := by kernel_rfl
@[go_sem] theorem tb56 : tby Try.prog 56 = some 8 := by kernel_rfl
@[go_sem] theorem to56 : tzero Try.prog 56 = some (AV.int .u64 (0)) := by kernel_rfl
@[go_sem] theorem ty58 : tk Try.prog 58 = .fn := by kernel_rfl
@[go_sem] theorem tz58 : tsz Try.prog 58 = some 1 := by kernel_rfl
@[go_sem] theorem tb58 : tby Try.prog 58 = some 8 := by kernel_rfl
@[go_sem] theorem to58 : tzero Try.prog 58 = some AV.nilfn := by kernel_rfl
@[go_sem] theorem ty59 : tk Try.prog 59 = .int .u32 := by kernel_rfl
@[go_sem] theorem tz59 : tsz Try.prog 59 = some 1 := by kernel_rfl
@[go_sem] theorem tb59 : tby Try.prog 59 = some 4 := by kernel_rfl
@[go_sem] theorem to59 : tzero Try.prog 59 = some (AV.int .u32 (0)) := by kernel_rfl
@[go_sem] theorem ty61 : tk Try.prog 61 = .fn := by kernel_rfl
@[go_sem] theorem tz61 : tsz Try.prog 61 = some 1 := by kernel_rfl
@[go_sem] theorem tb61 : tby Try.prog 61 = some 8 := by kernel_rfl
@[go_sem] theorem to61 : tzero Try.prog 61 = some AV.nilfn := by kernel_rfl
@[go_sem] theorem ty62 : tk Try.prog 62 = .int .u64 := by kernel_rfl
@[go_sem] theorem tz62 : tsz Try.prog 62 = some 1 := by kernel_rfl
@[go_sem] theorem tb62 : tby Try.prog 62 = some 8 := by kernel_rfl
@[go_sem] theorem to62 : tzero Try.prog 62 = some (AV.int .u64 (0)) := by kernel_rfl
@[go_sem] theorem ty64 : tk Try.prog 64 = .fn := by kernel_rfl
@[go_sem] theorem tz64 : tsz Try.prog 64 = some 1 := by kernel_rfl
@[go_sem] theorem tb64 : tby Try.prog 64 = some 8 := by kernel_rfl
@[go_sem] theorem to64 : tzero Try.prog 64 = some AV.nilfn := by kernel_rfl
@[go_sem] theorem ty65 : tk Try.prog 65 = .fn := by kernel_rfl
@[go_sem] theorem tz65 : tsz Try.prog 65 = some 1 := by kernel_rfl
@[go_sem] theorem tb65 : tby Try.prog 65 = some 8 := by kernel_rfl
@[go_sem] theorem to65 : tzero Try.prog 65 = some AV.nilfn := by kernel_rfl
@[go_sem] theorem ty66 : tk Try.prog 66 = .st [(0, 17), (1, 17), (2, 17), (3, 9)] := by kernel_rfl
@[go_sem] theorem tz66 : tsz Try.prog 66 = some 4 := by kernel_rfl
@[go_sem] theorem tb66 : tby Try.prog 66 = some 40 := by kernel_rfl
@[go_sem] theorem to66 : tzero Try.prog 66 = some (AV.agg [AV.nilptr, AV.nilptr, AV.nilptr, AV.str []]) := by kernel_rfl
@[go_sem] theorem ty67 : tk Try.prog 67 = .st [(0, 17), (1, 17), (2, 17), (3, 9)] := by kernel_rfl
@[go_sem] theorem tz67 : tsz Try.prog 67 = some 4 := by kernel_rfl
@[go_sem] theorem tb67 : tby Try.prog 67 = some 40 := by kernel_rfl
@[go_sem] theorem to67 : tzero Try.prog 67 = some (AV.agg [AV.nilptr, AV.nilptr, AV.nilptr, AV.str []]) := by kernel_rfl
@[go_sem] theorem ty68 : tk Try.prog 68 = .arr 0 16 := by kernel_rfl
@[go_sem] theorem tz68 : tsz Try.prog 68 = some 0 := by kernel_rfl
@[go_sem] theorem tb68 : tby Try.prog 68 = some 0 := by kernel_rfl
@[go_sem] theorem to68 : tzero Try.prog 68 = some (AV.agg []) := by kernel_rfl
@[go_sem] theorem ty69 : tk Try.prog 69 = .st [(0, 68)] := by kernel_rfl
@[go_sem] theorem tz69 : tsz Try.prog 69 = some 0 := by kernel_rfl
@[go_sem] theorem tb69 : tby Try.prog 69 = some 0 := by kernel_rfl
@[go_sem] theorem to69 : tzero Try.prog 69 = some (AV.agg []) := by kernel_rfl
@[go_sem] theorem ty70 : tk Try.prog 70 = .st [(0, 68)] := by kernel_rfl
@[go_sem] theorem tz70 : tsz Try.prog 70 = some 0 := by kernel_rfl
@[go_sem] theorem tb70 : tby Try.prog 70 = some 0 := by kernel_rfl
@[go_sem] theorem to70 : tzero Try.prog 70 = some (AV.agg []) := by kernel_rfl
@[go_sem] theorem ty71 : tk Try.prog 71 = .fn := by kernel_rfl
@[go_sem] theorem tz71 : tsz Try.prog 71 = some 1 := by kernel_rfl
@[go_sem] theorem tb71 : tby Try.prog 71 = some 8 := by kernel_rfl
@[go_sem] theorem to71 : tzero Try.prog 71 = some AV.nilfn := by kernel_rfl
@[go_sem] theorem ty72 : tk Try.prog 72 = .int .u8 := by kernel_rfl
@[go_sem] theorem tz72 : tsz Try.prog 72 = some 1 := by kernel_rfl
@[go_sem] theorem tb72 : tby Try.prog 72 = some 1 := by kernel_rfl
@[go_sem] theorem to72 : tzero Try.prog 72 = some (AV.int .u8 (0)) := by kernel_rfl
@[go_sem] theorem ty73 : tk Try.prog 73 = .int .u8 := by kernel_rfl
@[go_sem] theorem tz73 : tsz Try.prog 73 = some 1 := by kernel_rfl
@[go_sem] theorem tb73 : tby Try.prog 73 = some 1 := by kernel_rfl
@[go_sem] theorem to73 : tzero Try.prog 73 = some (AV.int .u8 (0)) := by kernel_rfl
@[go_sem] theorem ty74 : tk Try.prog 74 = .fn := by kernel_rfl
@[go_sem] theorem tz74 : tsz Try.prog 74 = some 1 := by kernel_rfl
@[go_sem] theorem tb74 : tby Try.prog 74 = some 8 := by kernel_rfl
@[go_sem] theorem to74 : tzero Try.prog 74 = some AV.nilfn := by kernel_rfl
@[go_sem] theorem ty75 : tk Try.prog 75 = .ptr 5 := by kernel_rfl
@[go_sem] theorem tz75 : tsz Try.prog 75 = some 1 := by kernel_rfl
@[go_sem] theorem tb75 : tby Try.prog 75 = some 8 := by kernel_rfl
@[go_sem] theorem to75 : tzero Try.prog 75 = some AV.nilptr := by kernel_rfl
@[go_sem] theorem ty76 : tk Try.prog 76 = .int .i32 := by kernel_rfl
@[go_sem] theorem tz76 : tsz Try.prog 76 = some 1 := by kernel_rfl
@[go_sem] theorem tb76 : tby Try.prog 76 = some 4 := by kernel_rfl
@[go_sem] theorem to76 : tzero Try.prog 76 = some (AV.int .i32 (0)) := by kernel_rfl
@[go_sem] theorem ty77 : tk Try.prog 77 = .int .i32 := by kernel_rfl
@[go_sem] theorem tz77 : tsz Try.prog 77 = some 1 := by kernel_rfl
@[go_sem] theorem tb77 : tby Try.prog 77 = some 4 := by kernel_rfl
@[go_sem] theorem to77 : tzero Try.prog 77 = some (AV.int .i32 (0)) := by kernel_rfl
@[go_sem] theorem ty78 : tk Try.prog 78 = .st [(0, 12), (1, 12), (2, 59), (3, 72), (4, 5), (5, 5), (6, 73), (7, 74), (8, 75), (9, 76), (10, 77)] := by kernel_rfl
@[go_sem] theorem tz78 : tsz Try.prog 78 = some 11 := by kernel_rfl
@[go_sem] theorem tb78 : tby Try.prog 78 = some 48 := by kernel_rfl
@[go_sem] theorem to78 : tzero Try.prog 78 = some (AV.agg [AV.int .u64 (0), AV.int .u64 (0), AV.int .u32 (0), AV.int .u8 (0), AV.int .u8 (0), AV.int .u8 (0), AV.int .u8 (0), AV.nilfn, AV.nilptr, AV.int .i32 (0), AV.int .i32 (0)]) := by kernel_rfl
@[go_sem] theorem ty79 : tk Try.prog 79 = .st [(0, 12), (1, 12), (2, 59), (3, 72), (4, 5), (5, 5), (6, 73), (7, 74), (8, 75), (9, 76), (10, 77)] := by kernel_rfl
@[go_sem] theorem tz79 : tsz Try.prog 79 = some 11 := by kernel_rfl
@[go_sem] theorem tb79 : tby Try.prog 79 = some 48 := by kernel_rfl
@[go_sem] theorem to79 : tzero Try.prog 79 = some (AV.agg [AV.int .u64 (0), AV.int .u64 (0), AV.int .u32 (0), AV.int .u8 (0), AV.int .u8 (0), AV.int .u8 (0), AV.int .u8 (0), AV.nilfn, AV.nilptr, AV.int .i32 (0), AV.int .i32 (0)]) := by kernel_rfl
theorem mixed : Try.prog.follows .mixedOrders = true := by kernel_rfl
end Go.Gh
