/- Own work, a part of the proof (TyYtdaoopdmcpnikaa). Conditions: none. -/
import Derived.Test.YtdaoopdmcpnikaaFw21
import Derived.Test.YtdaoopdmcpnikaaProg
set_option linter.unusedVariables false
namespace Go.Gh
open Go.Proofs
@[go_sem] theorem ty1 : tk Try.prog 1 = .fn := by kernel_rfl
@[go_sem] theorem tz1 : tsz Try.prog 1 = some 1 := by kernel_rfl
@[go_sem] theorem tb1 : tby Try.prog 1 = some 8 := by kernel_rfl
@[go_sem] theorem to1 : tzero Try.prog 1 = some AV.nilfn := by kernel_rfl
@[go_sem] theorem ty2 : tk Try.prog 2 = .int .i64 := by kernel_rfl
@[go_sem] theorem tz2 : tsz Try.prog 2 = some 1 := by kernel_rfl
@[go_sem] theorem tb2 : tby Try.prog 2 = some 8 := by kernel_rfl
@[go_sem] theorem to2 : tzero Try.prog 2 = some (AV.int .i64 (0)) := by kernel_rfl
@[go_sem] theorem ty3 : tk Try.prog 3 = .int .i64 := by kernel_rfl
@[go_sem] theorem tz3 : tsz Try.prog 3 = some 1 := by kernel_rfl
@[go_sem] theorem tb3 : tby Try.prog 3 = some 8 := by kernel_rfl
@[go_sem] theorem to3 : tzero Try.prog 3 = some (AV.int .i64 (0)) := by kernel_rfl
@[go_sem] theorem ty4 : tk Try.prog 4 = .bool := by kernel_rfl
@[go_sem] theorem tz4 : tsz Try.prog 4 = some 1 := by kernel_rfl
@[go_sem] theorem tb4 : tby Try.prog 4 = some 1 := by kernel_rfl
@[go_sem] theorem to4 : tzero Try.prog 4 = some (AV.bool false) := by kernel_rfl
@[go_sem] theorem ty5 : tk Try.prog 5 = .int .u8 := by kernel_rfl
@[go_sem] theorem tz5 : tsz Try.prog 5 = some 1 := by kernel_rfl
@[go_sem] theorem tb5 : tby Try.prog 5 = some 1 := by kernel_rfl
@[go_sem] theorem to5 : tzero Try.prog 5 = some (AV.int .u8 (0)) := by kernel_rfl
@[go_sem] theorem ty6 : tk Try.prog 6 = .int .u8 := by kernel_rfl
@[go_sem] theorem tz6 : tsz Try.prog 6 = some 1 := by kernel_rfl
@[go_sem] theorem tb6 : tby Try.prog 6 = some 1 := by kernel_rfl
@[go_sem] theorem to6 : tzero Try.prog 6 = some (AV.int .u8 (0)) := by kernel_rfl
@[go_sem] theorem ty7 : tk Try.prog 7 = .st [(0, 2), (1, 3), (2, 4), (3, 6)] := by kernel_rfl
@[go_sem] theorem tz7 : tsz Try.prog 7 = some 4 := by kernel_rfl
@[go_sem] theorem tb7 : tby Try.prog 7 = some 24 := by kernel_rfl
@[go_sem] theorem to7 : tzero Try.prog 7 = some (AV.agg [AV.int .i64 (0), AV.int .i64 (0), AV.bool false, AV.int .u8 (0)]) := by kernel_rfl
@[go_sem] theorem ty8 : tk Try.prog 8 = .st [(0, 2), (1, 3), (2, 4), (3, 6)] := by kernel_rfl
@[go_sem] theorem tz8 : tsz Try.prog 8 = some 4 := by kernel_rfl
@[go_sem] theorem tb8 : tby Try.prog 8 = some 24 := by kernel_rfl
@[go_sem] theorem to8 : tzero Try.prog 8 = some (AV.agg [AV.int .i64 (0), AV.int .i64 (0), AV.bool false, AV.int .u8 (0)]) := by kernel_rfl
@[go_sem] theorem ty9 : tk Try.prog 9 = .str := by kernel_rfl
@[go_sem] theorem tz9 : tsz Try.prog 9 = some 1 := by kernel_rfl
@[go_sem] theorem tb9 : tby Try.prog 9 = some 16 := by kernel_rfl
@[go_sem] theorem to9 : tzero Try.prog 9 = some (AV.str []) := by kernel_rfl
@[go_sem] theorem ty10 : tk Try.prog 10 = .str := by kernel_rfl
@[go_sem] theorem tz10 : tsz Try.prog 10 = some 1 := by kernel_rfl
@[go_sem] theorem tb10 : tby Try.prog 10 = some 16 := by kernel_rfl
@[go_sem] theorem to10 : tzero Try.prog 10 = some (AV.str []) := by kernel_rfl
@[go_sem] theorem ty11 : tk Try.prog 11 = .str := by kernel_rfl
@[go_sem] theorem tz11 : tsz Try.prog 11 = some 1 := by kernel_rfl
@[go_sem] theorem tb11 : tby Try.prog 11 = some 16 := by kernel_rfl
@[go_sem] theorem to11 : tzero Try.prog 11 = some (AV.str []) := by kernel_rfl
@[go_sem] theorem ty12 : tk Try.prog 12 = .int .u64 := by kernel_rfl
@[go_sem] theorem tz12 : tsz Try.prog 12 = some 1 := by kernel_rfl
@[go_sem] theorem tb12 : tby Try.prog 12 = some 8 := by kernel_rfl
@[go_sem] theorem to12 : tzero Try.prog 12 = some (AV.int .u64 (0)) := by kernel_rfl
@[go_sem] theorem ty13 : tk Try.prog 13 = .st [(0, 9), (1, 12)] := by kernel_rfl
@[go_sem] theorem tz13 : tsz Try.prog 13 = some 2 := by kernel_rfl
@[go_sem] theorem tb13 : tby Try.prog 13 = some 24 := by kernel_rfl
@[go_sem] theorem to13 : tzero Try.prog 13 = some (AV.agg [AV.str [], AV.int .u64 (0)]) := by kernel_rfl
@[go_sem] theorem ty14 : tk Try.prog 14 = .st [(0, 9), (1, 12)] := by kernel_rfl
@[go_sem] theorem tz14 : tsz Try.prog 14 = some 2 := by kernel_rfl
@[go_sem] theorem tb14 : tby Try.prog 14 = some 24 := by kernel_rfl
@[go_sem] theorem to14 : tzero Try.prog 14 = some (AV.agg [AV.str [], AV.int .u64 (0)]) := by kernel_rfl
@[go_sem] theorem ty15 : tk Try.prog 15 = .ptr 171 := by kernel_rfl
@[go_sem] theorem tz15 : tsz Try.prog 15 = some 1 := by kernel_rfl
@[go_sem] theorem tb15 : tby Try.prog 15 = some 8 := by kernel_rfl
@[go_sem] theorem to15 : tzero Try.prog 15 = some AV.nilptr := by kernel_rfl
@[go_sem] theorem ty16 : tk Try.prog 16 = .ptr 174 := by kernel_rfl
@[go_sem] theorem tz16 : tsz Try.prog 16 = some 1 := by kernel_rfl
@[go_sem] theorem tb16 : tby Try.prog 16 = some 8 := by kernel_rfl
@[go_sem] theorem to16 : tzero Try.prog 16 = some AV.nilptr := by kernel_rfl
@[go_sem] theorem ty17 : tk Try.prog 17 = .ptr 182 := by kernel_rfl
@[go_sem] theorem tz17 : tsz Try.prog 17 = some 1 := by kernel_rfl
@[go_sem] theorem tb17 : tby Try.prog 17 = some 8 := by kernel_rfl
@[go_sem] theorem to17 : tzero Try.prog 17 = some AV.nilptr := by kernel_rfl
@[go_sem] theorem ty18 : tk Try.prog 18 = .st [(0, 17)] := by kernel_rfl
@[go_sem] theorem tz18 : tsz Try.prog 18 = some 1 := by kernel_rfl
@[go_sem] theorem tb18 : tby Try.prog 18 = some 8 := by kernel_rfl
@[go_sem] theorem to18 : tzero Try.prog 18 = some (AV.agg [AV.nilptr]) := by kernel_rfl
@[go_sem] theorem ty19 : tk Try.prog 19 = .st [(0, 17)] := by kernel_rfl
@[go_sem] theorem tz19 : tsz Try.prog 19 = some 1 := by kernel_rfl
@[go_sem] theorem tb19 : tby Try.prog 19 = some 8 := by kernel_rfl
@[go_sem] theorem to19 : tzero Try.prog 19 = some (AV.agg [AV.nilptr]) := by kernel_rfl
@[go_sem] theorem ty20 : tk Try.prog 20 = .ifc := by kernel_rfl
@[go_sem] theorem tz20 : tsz Try.prog 20 = some 1 := by kernel_rfl
@[go_sem] theorem tb20 : tby Try.prog 20 = some 16 := by kernel_rfl
@[go_sem] theorem to20 : tzero Try.prog 20 = some AV.nilifc := by kernel_rfl
@[go_sem] theorem ty21 : tk Try.prog 21 = .int .i32 := by kernel_rfl
@[go_sem] theorem tz21 : tsz Try.prog 21 = some 1 := by kernel_rfl
@[go_sem] theorem tb21 : tby Try.prog 21 = some 4 := by kernel_rfl
@[go_sem] theorem to21 : tzero Try.prog 21 = some (AV.int .i32 (0)) := by kernel_rfl
@[go_sem] theorem ty22 : tk Try.prog 22 = .sl 9 := by kernel_rfl
@[go_sem] theorem tz22 : tsz Try.prog 22 = some 1 := by kernel_rfl
@[go_sem] theorem tb22 : tby Try.prog 22 = some 24 := by kernel_rfl
@[go_sem] theorem to22 : tzero Try.prog 22 = some AV.nilsl := by kernel_rfl
@[go_sem] theorem ty23 : tk Try.prog 23 = .sl 99 := by kernel_rfl
@[go_sem] theorem tz23 : tsz Try.prog 23 = some 1 := by kernel_rfl
@[go_sem] theorem tb23 : tby Try.prog 23 = some 24 := by kernel_rfl
@[go_sem] theorem to23 : tzero Try.prog 23 = some AV.nilsl := by kernel_rfl
@[go_sem] theorem ty24 : tk Try.prog 24 = .sl 82 := by kernel_rfl
@[go_sem] theorem tz24 : tsz Try.prog 24 = some 1 := by kernel_rfl
@[go_sem] theorem tb24 : tby Try.prog 24 = some 24 := by kernel_rfl
@[go_sem] theorem to24 : tzero Try.prog 24 = some AV.nilsl := by kernel_rfl
@[go_sem] theorem ty25 : tk Try.prog 25 = .sl 101 := by kernel_rfl
@[go_sem] theorem tz25 : tsz Try.prog 25 = some 1 := by kernel_rfl
@[go_sem] theorem tb25 : tby Try.prog 25 = some 24 := by kernel_rfl
@[go_sem] theorem to25 : tzero Try.prog 25 = some AV.nilsl := by kernel_rfl
@[go_sem] theorem ty26 : tk Try.prog 26 = .sl 103 := by kernel_rfl
@[go_sem] theorem tz26 : tsz Try.prog 26 = some 1 := by kernel_rfl
@[go_sem] theorem tb26 : tby Try.prog 26 = some 24 := by kernel_rfl
@[go_sem] theorem to26 : tzero Try.prog 26 = some AV.nilsl := by kernel_rfl
@[go_sem] theorem ty27 : tk Try.prog 27 = .sl 107 := by kernel_rfl
@[go_sem] theorem tz27 : tsz Try.prog 27 = some 1 := by kernel_rfl
@[go_sem] theorem tb27 : tby Try.prog 27 = some 24 := by kernel_rfl
@[go_sem] theorem to27 : tzero Try.prog 27 = some AV.nilsl := by kernel_rfl
@[go_sem] theorem ty28 : tk Try.prog 28 = .st [(0, 22), (1, 23), (2, 24), (3, 25), (4, 26), (5, 27)] := by kernel_rfl
@[go_sem] theorem tz28 : tsz Try.prog 28 = some 6 := by kernel_rfl
@[go_sem] theorem tb28 : tby Try.prog 28 = some 144 := by kernel_rfl
@[go_sem] theorem to28 : tzero Try.prog 28 = some (AV.agg [AV.nilsl, AV.nilsl, AV.nilsl, AV.nilsl, AV.nilsl, AV.nilsl]) := by kernel_rfl
@[go_sem] theorem ty29 : tk Try.prog 29 = .st [(0, 22), (1, 23), (2, 24), (3, 25), (4, 26), (5, 27)] := by kernel_rfl
@[go_sem] theorem tz29 : tsz Try.prog 29 = some 6 := by kernel_rfl
@[go_sem] theorem tb29 : tby Try.prog 29 = some 144 := by kernel_rfl
@[go_sem] theorem to29 : tzero Try.prog 29 = some (AV.agg [AV.nilsl, AV.nilsl, AV.nilsl, AV.nilsl, AV.nilsl, AV.nilsl]) := by kernel_rfl
@[go_sem] theorem ty30 : tk Try.prog 30 = .fn := by kernel_rfl
@[go_sem] theorem tz30 : tsz Try.prog 30 = some 1 := by kernel_rfl
@[go_sem] theorem tb30 : tby Try.prog 30 = some 8 := by kernel_rfl
@[go_sem] theorem to30 : tzero Try.prog 30 = some AV.nilfn := by kernel_rfl
@[go_sem] theorem ty31 : tk Try.prog 31 = .sl 3 := by kernel_rfl
@[go_sem] theorem tz31 : tsz Try.prog 31 = some 1 := by kernel_rfl
@[go_sem] theorem tb31 : tby Try.prog 31 = some 24 := by kernel_rfl
@[go_sem] theorem to31 : tzero Try.prog 31 = some AV.nilsl := by kernel_rfl
@[go_sem] theorem ty32 : tk Try.prog 32 = .st [(0, 31), (1, 31)] := by kernel_rfl
@[go_sem] theorem tz32 : tsz Try.prog 32 = some 2 := by kernel_rfl
@[go_sem] theorem tb32 : tby Try.prog 32 = some 48 := by kernel_rfl
@[go_sem] theorem to32 : tzero Try.prog 32 = some (AV.agg [AV.nilsl, AV.nilsl]) := by kernel_rfl
@[go_sem] theorem ty33 : tk Try.prog 33 = .st [(0, 31), (1, 31)] := by kernel_rfl
@[go_sem] theorem tz33 : tsz Try.prog 33 = some 2 := by kernel_rfl
@[go_sem] theorem tb33 : tby Try.prog 33 = some 48 := by kernel_rfl
@[go_sem] theorem to33 : tzero Try.prog 33 = some (AV.agg [AV.nilsl, AV.nilsl]) := by kernel_rfl
@[go_sem] theorem ty34 : tk Try.prog 34 = .int .i64 := by kernel_rfl
@[go_sem] theorem tz34 : tsz Try.prog 34 = some 1 := by kernel_rfl
@[go_sem] theorem tb34 : tby Try.prog 34 = some 8 := by kernel_rfl
@[go_sem] theorem to34 : tzero Try.prog 34 = some (AV.int .i64 (0)) := by kernel_rfl
@[go_sem] theorem ty36 : tk Try.prog 36 = .fn := by kernel_rfl
@[go_sem] theorem tz36 : tsz Try.prog 36 = some 1 := by kernel_rfl
@[go_sem] theorem tb36 : tby Try.prog 36 = some 8 := by kernel_rfl
@[go_sem] theorem to36 : tzero Try.prog 36 = some AV.nilfn := by kernel_rfl
@[go_sem] theorem ty37 : tk Try.prog 37 = .fn := by kernel_rfl
@[go_sem] theorem tz37 : tsz Try.prog 37 = some 1 := by kernel_rfl
@[go_sem] theorem tb37 : tby Try.prog 37 = some 8 := by kernel_rfl
@[go_sem] theorem to37 : tzero Try.prog 37 = some AV.nilfn := by kernel_rfl
@[go_sem] theorem ty38 : tk Try.prog 38 = .sl 59 := by kernel_rfl
@[go_sem] theorem tz38 : tsz Try.prog 38 = some 1 := by kernel_rfl
@[go_sem] theorem tb38 : tby Try.prog 38 = some 24 := by kernel_rfl
@[go_sem] theorem to38 : tzero Try.prog 38 = some AV.nilsl := by kernel_rfl
@[go_sem] theorem ty39 : tk Try.prog 39 = .sl 59 := by kernel_rfl
@[go_sem] theorem tz39 : tsz Try.prog 39 = some 1 := by kernel_rfl
@[go_sem] theorem tb39 : tby Try.prog 39 = some 24 := by kernel_rfl
@[go_sem] theorem to39 : tzero Try.prog 39 = some AV.nilsl := by kernel_rfl
@[go_sem] theorem ty40 : tk Try.prog 40 = .ptr 78 := by kernel_rfl
@[go_sem] theorem tz40 : tsz Try.prog 40 = some 1 := by kernel_rfl
@[go_sem] theorem tb40 : tby Try.prog 40 = some 8 := by kernel_rfl
@[go_sem] theorem to40 : tzero Try.prog 40 = some AV.nilptr := by kernel_rfl
@[go_sem] theorem ty42 : tk Try.prog 42 = .fn := by kernel_rfl
@[go_sem] theorem tz42 : tsz Try.prog 42 = some 1 := by kernel_rfl
@[go_sem] theorem tb42 : tby Try.prog 42 = some 8 := by kernel_rfl
@[go_sem] theorem to42 : tzero Try.prog 42 = some AV.nilfn := by kernel_rfl
@[go_sem] theorem ty43 : tk Try.prog 43 = .fn := by kernel_rfl
@[go_sem] theorem tz43 : tsz Try.prog 43 = some 1 := by kernel_rfl
@[go_sem] theorem tb43 : tby Try.prog 43 = some 8 := by kernel_rfl
@[go_sem] theorem to43 : tzero Try.prog 43 = some AV.nilfn := by kernel_rfl
@[go_sem] theorem ty45 : tk Try.prog 45 = .fn := by kernel_rfl
@[go_sem] theorem tz45 : tsz Try.prog 45 = some 1 := by kernel_rfl
@[go_sem] theorem tb45 : tby Try.prog 45 = some 8 := by kernel_rfl
@[go_sem] theorem to45 : tzero Try.prog 45 = some AV.nilfn := by kernel_rfl
@[go_sem] theorem ty46 : tk Try.prog 46 = .sl 49 := by kernel_rfl
@[go_sem] theorem tz46 : tsz Try.prog 46 = some 1 := by kernel_rfl
@[go_sem] theorem tb46 : tby Try.prog 46 = some 24 := by kernel_rfl
@[go_sem] theorem to46 : tzero Try.prog 46 = some AV.nilsl := by kernel_rfl
@[go_sem] theorem ty47 : tk Try.prog 47 = .fn := by kernel_rfl
@[go_sem] theorem tz47 : tsz Try.prog 47 = some 1 := by kernel_rfl
@[go_sem] theorem tb47 : tby Try.prog 47 = some 8 := by kernel_rfl
@[go_sem] theorem to47 : tzero Try.prog 47 = some AV.nilfn := by kernel_rfl
@[go_sem] theorem ty48 : tk Try.prog 48 = .st [(0, 9), (1, 3)] := by kernel_rfl
@[go_sem] theorem tz48 : tsz Try.prog 48 = some 2 := by kernel_rfl
@[go_sem] theorem tb48 : tby Try.prog 48 = some 24 := by kernel_rfl
@[go_sem] theorem to48 : tzero Try.prog 48 = some (AV.agg [AV.str [], AV.int .i64 (0)]) := by kernel_rfl
@[go_sem] theorem ty49 : tk Try.prog 49 = .st [(0, 9), (1, 3)] := by kernel_rfl
@[go_sem] theorem tz49 : tsz Try.prog 49 = some 2 := by kernel_rfl
@[go_sem] theorem tb49 : tby Try.prog 49 = some 24 := by kernel_rfl
@[go_sem] theorem to49 : tzero Try.prog 49 = some (AV.agg [AV.str [], AV.int .i64 (0)]) := by kernel_rfl
@[go_sem] theorem ty50 : tk Try.prog 50 = .fn := by kernel_rfl
@[go_sem] theorem tz50 : tsz Try.prog 50 = some 1 := by kernel_rfl
@[go_sem] theorem tb50 : tby Try.prog 50 = some 8 := by kernel_rfl
@[go_sem] theorem to50 : tzero Try.prog 50 = some AV.nilfn := by kernel_rfl
@[go_sem] theorem ty51 : tk Try.prog 51 = .fn := by kernel_rfl
@[go_sem] theorem tz51 : tsz Try.prog 51 = some 1 := by kernel_rfl
@[go_sem] theorem tb51 : tby Try.prog 51 = some 8 := by kernel_rfl
@[go_sem] theorem to51 : tzero Try.prog 51 = some AV.nilfn := by kernel_rfl
@[go_sem] theorem ty52 : tk Try.prog 52 = .fn := by kernel_rfl
@[go_sem] theorem tz52 : tsz Try.prog 52 = some 1 := by kernel_rfl
@[go_sem] theorem tb52 : tby Try.prog 52 = some 8 := by kernel_rfl
@[go_sem] theorem to52 : tzero Try.prog 52 = some AV.nilfn := by kernel_rfl
@[go_sem] theorem ty53 : tk Try.prog 53 = .fn := by kernel_rfl
@[go_sem] theorem tz53 : tsz Try.prog 53 = some 1 := by kernel_rfl
@[go_sem] theorem tb53 : tby Try.prog 53 = some 8 := by kernel_rfl
@[go_sem] theorem to53 : tzero Try.prog 53 = some AV.nilfn := by kernel_rfl
@[go_sem] theorem ty54 : tk Try.prog 54 = .fn := by kernel_rfl
@[go_sem] theorem tz54 : tsz Try.prog 54 = some 1 := by kernel_rfl
@[go_sem] theorem tb54 : tby Try.prog 54 = some 8 := by kernel_rfl
@[go_sem] theorem to54 : tzero Try.prog 54 = some AV.nilfn := by kernel_rfl
@[go_sem] theorem ty55 : tk Try.prog 55 = .fn := by kernel_rfl
@[go_sem] theorem tz55 : tsz Try.prog 55 = some 1 := by kernel_rfl
@[go_sem] theorem tb55 : tby Try.prog 55 = some 8 := by kernel_rfl
@[go_sem] theorem to55 : tzero Try.prog 55 = some AV.nilfn := by kernel_rfl
@[go_sem] theorem ty56 : tk Try.prog 56 = .fn := by kernel_rfl
@[go_sem] theorem tz56 : tsz Try.prog 56 = some 1 := by kernel_rfl
@[go_sem] theorem tb56 : tby Try.prog 56 = some 8 := by kernel_rfl
@[go_sem] theorem to56 : tzero Try.prog 56 = some AV.nilfn := by kernel_rfl
@[go_sem] theorem ty57 : tk Try.prog 57 = .fn := by kernel_rfl
@[go_sem] theorem tz57 : tsz Try.prog 57 = some 1 := by kernel_rfl
@[go_sem] theorem tb57 : tby Try.prog 57 = some 8 := by kernel_rfl
@[go_sem] theorem to57 : tzero Try.prog 57 = some AV.nilfn := by kernel_rfl
@[go_sem] theorem ty58 : tk Try.prog 58 = .fn := by kernel_rfl
@[go_sem] theorem tz58 : tsz Try.prog 58 = some 1 := by kernel_rfl
@[go_sem] theorem tb58 : tby Try.prog 58 = some 8 := by kernel_rfl
@[go_sem] theorem to58 : tzero Try.prog 58 = some AV.nilfn := by kernel_rfl
@[go_sem] theorem ty59 : tk Try.prog 59 = .str := by kernel_rfl
@[go_sem] theorem tz59 : tsz Try.prog 59 = some 1 := by kernel_rfl
@[go_sem] theorem tb59 : tby Try.prog 59 = some 16 := by kernel_rfl
@[go_sem] theorem to59 : tzero Try.prog 59 = some (AV.str []) := by kernel_rfl
@[go_sem] theorem ty60 : tk Try.prog 60 = .fn := by kernel_rfl
@[go_sem] theorem tz60 : tsz Try.prog 60 = some 1 := by kernel_rfl
@[go_sem] theorem tb60 : tby Try.prog 60 = some 8 := by kernel_rfl
@[go_sem] theorem to60 : tzero Try.prog 60 = some AV.nilfn := by kernel_rfl
@[go_sem] theorem ty61 : tk Try.prog 61 = .fn := by kernel_rfl
@[go_sem] theorem tz61 : tsz Try.prog 61 = some 1 := by kernel_rfl
@[go_sem] theorem tb61 : tby Try.prog 61 = some 8 := by kernel_rfl
@[go_sem] theorem to61 : tzero Try.prog 61 = some AV.nilfn := by kernel_rfl
@[go_sem] theorem ty62 : tk Try.prog 62 = .fn := by kernel_rfl
@[go_sem] theorem tz62 : tsz Try.prog 62 = some 1 := by kernel_rfl
@[go_sem] theorem tb62 : tby Try.prog 62 = some 8 := by kernel_rfl
@[go_sem] theorem to62 : tzero Try.prog 62 = some AV.nilfn := by kernel_rfl
@[go_sem] theorem ty63 : tk Try.prog 63 = .sl 4 := by kernel_rfl
@[go_sem] theorem tz63 : tsz Try.prog 63 = some 1 := by kernel_rfl
@[go_sem] theorem tb63 : tby Try.prog 63 = some 24 := by kernel_rfl
@[go_sem] theorem to63 : tzero Try.prog 63 = some AV.nilsl := by kernel_rfl
@[go_sem] theorem ty65 : tk Try.prog 65 = .fn := by kernel_rfl
@[go_sem] theorem tz65 : tsz Try.prog 65 = some 1 := by kernel_rfl
@[go_sem] theorem tb65 : tby Try.prog 65 = some 8 := by kernel_rfl
@[go_sem] theorem to65 : tzero Try.prog 65 = some AV.nilfn := by kernel_rfl
@[go_sem] theorem ty66 : tk Try.prog 66 = .ptr 109 := by kernel_rfl
@[go_sem] theorem tz66 : tsz Try.prog 66 = some 1 := by kernel_rfl
@[go_sem] theorem tb66 : tby Try.prog 66 = some 8 := by kernel_rfl
@[go_sem] theorem to66 : tzero Try.prog 66 = some AV.nilptr := by kernel_rfl
@[go_sem] theorem ty68 : tk Try.prog 68 = .fn := by kernel_rfl
@[go_sem] theorem tz68 : tsz Try.prog 68 = some 1 := by kernel_rfl
@[go_sem] theorem tb68 : tby Try.prog 68 = some 8 := by kernel_rfl
@[go_sem] theorem to68 : tzero Try.prog 68 = some AV.nilfn := by kernel_rfl
@[go_sem] theorem ty70 : tk Try.prog 70 = .fn := by kernel_rfl
@[go_sem] theorem tz70 : tsz Try.prog 70 = some 1 := by kernel_rfl
@[go_sem] theorem tb70 : tby Try.prog 70 = some 8 := by kernel_rfl
@[go_sem] theorem to70 : tzero Try.prog 70 = some AV.nilfn := by kernel_rfl
@[go_sem] theorem ty71 : tk Try.prog 71 = .fn := by kernel_rfl
@[go_sem] theorem tz71 : tsz Try.prog 71 = some 1 := by kernel_rfl
@[go_sem] theorem tb71 : tby Try.prog 71 = some 8 := by kernel_rfl
@[go_sem] theorem to71 : tzero Try.prog 71 = some AV.nilfn := by kernel_rfl
@[go_sem] theorem ty72 : tk Try.prog 72 = .fn := by kernel_rfl
@[go_sem] theorem tz72 : tsz Try.prog 72 = some 1 := by kernel_rfl
@[go_sem] theorem tb72 : tby Try.prog 72 = some 8 := by kernel_rfl
@[go_sem] theorem to72 : tzero Try.prog 72 = some AV.nilfn := by kernel_rfl
@[go_sem] theorem ty73 : tk Try.prog 73 = .fn := by kernel_rfl
@[go_sem] theorem tz73 : tsz Try.prog 73 = some 1 := by kernel_rfl
@[go_sem] theorem tb73 : tby Try.prog 73 = some 8 := by kernel_rfl
@[go_sem] theorem to73 : tzero Try.prog 73 = some AV.nilfn := by kernel_rfl
@[go_sem] theorem ty74 : tk Try.prog 74 = .fn := by kernel_rfl
@[go_sem] theorem tz74 : tsz Try.prog 74 = some 1 := by kernel_rfl
@[go_sem] theorem tb74 : tby Try.prog 74 = some 8 := by kernel_rfl
@[go_sem] theorem to74 : tzero Try.prog 74 = some AV.nilfn := by kernel_rfl
@[go_sem] theorem ty75 : tk Try.prog 75 = .fn := by kernel_rfl
@[go_sem] theorem tz75 : tsz Try.prog 75 = some 1 := by kernel_rfl
@[go_sem] theorem tb75 : tby Try.prog 75 = some 8 := by kernel_rfl
@[go_sem] theorem to75 : tzero Try.prog 75 = some AV.nilfn := by kernel_rfl
@[go_sem] theorem ty76 : tk Try.prog 76 = .fn := by kernel_rfl
@[go_sem] theorem tz76 : tsz Try.prog 76 = some 1 := by kernel_rfl
@[go_sem] theorem tb76 : tby Try.prog 76 = some 8 := by kernel_rfl
@[go_sem] theorem to76 : tzero Try.prog 76 = some AV.nilfn := by kernel_rfl
@[go_sem] theorem ty77 : tk Try.prog 77 = .st [(0, 24), (1, 31), (2, 63), (3, 63), (4, 3)] := by kernel_rfl
@[go_sem] theorem tz77 : tsz Try.prog 77 = some 5 := by kernel_rfl
@[go_sem] theorem tb77 : tby Try.prog 77 = some 104 := by kernel_rfl
@[go_sem] theorem to77 : tzero Try.prog 77 = some (AV.agg [AV.nilsl, AV.nilsl, AV.nilsl, AV.nilsl, AV.int .i64 (0)]) := by kernel_rfl
@[go_sem] theorem ty78 : tk Try.prog 78 = .st [(0, 24), (1, 31), (2, 63), (3, 63), (4, 3)] := by kernel_rfl
@[go_sem] theorem tz78 : tsz Try.prog 78 = some 5 := by kernel_rfl
@[go_sem] theorem tb78 : tby Try.prog 78 = some 104 := by kernel_rfl
@[go_sem] theorem to78 : tzero Try.prog 78 = some (AV.agg [AV.nilsl, AV.nilsl, AV.nilsl, AV.nilsl, AV.int .i64 (0)]) := by kernel_rfl
@[go_sem] theorem ty79 : tk Try.prog 79 = .int .u64 := by kernel_rfl
@[go_sem] theorem tz79 : tsz Try.prog 79 = some 1 := by kernel_rfl
@[go_sem] theorem tb79 : tby Try.prog 79 = some 8 := by kernel_rfl
@[go_sem] theorem to79 : tzero Try.prog 79 = some (AV.int .u64 (0)) := by kernel_rfl
@[go_sem] theorem ty80 : tk Try.prog 80 = .fn := by kernel_rfl
@[go_sem] theorem tz80 : tsz Try.prog 80 = some 1 := by kernel_rfl
@[go_sem] theorem tb80 : tby Try.prog 80 = some 8 := by kernel_rfl
@[go_sem] theorem to80 : tzero Try.prog 80 = some AV.nilfn := by kernel_rfl
@[go_sem] theorem ty81 : tk Try.prog 81 = .st [(0, 9), (1, 9), (2, 9), (3, 3), (4, 3), (5, 3), (6, 3), (7, 3), (8, 3)] := by kernel_rfl
@[go_sem] theorem tz81 : tsz Try.prog 81 = some 9 := by kernel_rfl
@[go_sem] theorem tb81 : tby Try.prog 81 = some 96 := by kernel_rfl
@[go_sem] theorem to81 : tzero Try.prog 81 = some (AV.agg [AV.str [], AV.str [], AV.str [], AV.int .i64 (0), AV.int .i64 (0), AV.int .i64 (0), AV.int .i64 (0), AV.int .i64 (0), AV.int .i64 (0)]) := by kernel_rfl
@[go_sem] theorem ty82 : tk Try.prog 82 = .st [(0, 9), (1, 9), (2, 9), (3, 3), (4, 3), (5, 3), (6, 3), (7, 3), (8, 3)] := by kernel_rfl
@[go_sem] theorem tz82 : tsz Try.prog 82 = some 9 := by kernel_rfl
@[go_sem] theorem tb82 : tby Try.prog 82 = some 96 := by kernel_rfl
@[go_sem] theorem to82 : tzero Try.prog 82 = some (AV.agg [AV.str [], AV.str [], AV.str [], AV.int .i64 (0), AV.int .i64 (0), AV.int .i64 (0), AV.int .i64 (0), AV.int .i64 (0), AV.int .i64 (0)]) := by kernel_rfl
@[go_sem] theorem ty83 : tk Try.prog 83 = .sl 141 := by kernel_rfl
@[go_sem] theorem tz83 : tsz Try.prog 83 = some 1 := by kernel_rfl
@[go_sem] theorem tb83 : tby Try.prog 83 = some 24 := by kernel_rfl
@[go_sem] theorem to83 : tzero Try.prog 83 = some AV.nilsl := by kernel_rfl
@[go_sem] theorem ty84 : tk Try.prog 84 = .sl 141 := by kernel_rfl
@[go_sem] theorem tz84 : tsz Try.prog 84 = some 1 := by kernel_rfl
@[go_sem] theorem tb84 : tby Try.prog 84 = some 24 := by kernel_rfl
@[go_sem] theorem to84 : tzero Try.prog 84 = some AV.nilsl := by kernel_rfl
@[go_sem] theorem ty85 : tk Try.prog 85 = .st [(0, 4), (1, 84), (2, 84)] := by kernel_rfl
@[go_sem] theorem tz85 : tsz Try.prog 85 = some 3 := by kernel_rfl
@[go_sem] theorem tb85 : tby Try.prog 85 = some 56 := by kernel_rfl
@[go_sem] theorem to85 : tzero Try.prog 85 = some (AV.agg [AV.bool false, AV.nilsl, AV.nilsl]) := by kernel_rfl
@[go_sem] theorem ty86 : tk Try.prog 86 = .st [(0, 4), (1, 84), (2, 84)] := by kernel_rfl
@[go_sem] theorem tz86 : tsz Try.prog 86 = some 3 := by kernel_rfl
@[go_sem] theorem tb86 : tby Try.prog 86 = some 56 := by kernel_rfl
@[go_sem] theorem to86 : tzero Try.prog 86 = some (AV.agg [AV.bool false, AV.nilsl, AV.nilsl]) := by kernel_rfl
@[go_sem] theorem ty87 : tk Try.prog 87 = .fn := by kernel_rfl
@[go_sem] theorem tz87 : tsz Try.prog 87 = some 1 := by kernel_rfl
@[go_sem] theorem tb87 : tby Try.prog 87 = some 8 := by kernel_rfl
@[go_sem] theorem to87 : tzero Try.prog 87 = some AV.nilfn := by kernel_rfl
@[go_sem] theorem ty88 : tk Try.prog 88 = .fn := by kernel_rfl
@[go_sem] theorem tz88 : tsz Try.prog 88 = some 1 := by kernel_rfl
@[go_sem] theorem tb88 : tby Try.prog 88 = some 8 := by kernel_rfl
@[go_sem] theorem to88 : tzero Try.prog 88 = some AV.nilfn := by kernel_rfl
@[go_sem] theorem ty89 : tk Try.prog 89 = .fn := by kernel_rfl
@[go_sem] theorem tz89 : tsz Try.prog 89 = some 1 := by kernel_rfl
@[go_sem] theorem tb89 : tby Try.prog 89 = some 8 := by kernel_rfl
@[go_sem] theorem to89 : tzero Try.prog 89 = some AV.nilfn := by kernel_rfl
@[go_sem] theorem ty90 : tk Try.prog 90 = .fn := by kernel_rfl
@[go_sem] theorem tz90 : tsz Try.prog 90 = some 1 := by kernel_rfl
@[go_sem] theorem tb90 : tby Try.prog 90 = some 8 := by kernel_rfl
@[go_sem] theorem to90 : tzero Try.prog 90 = some AV.nilfn := by kernel_rfl
@[go_sem] theorem ty91 : tk Try.prog 91 = .sl 34 := by kernel_rfl
@[go_sem] theorem tz91 : tsz Try.prog 91 = some 1 := by kernel_rfl
@[go_sem] theorem tb91 : tby Try.prog 91 = some 24 := by kernel_rfl
@[go_sem] theorem to91 : tzero Try.prog 91 = some AV.nilsl := by kernel_rfl
@[go_sem] theorem ty92 : tk Try.prog 92 = .fn := by kernel_rfl
@[go_sem] theorem tz92 : tsz Try.prog 92 = some 1 := by kernel_rfl
@[go_sem] theorem tb92 : tby Try.prog 92 = some 8 := by kernel_rfl
@[go_sem] theorem to92 : tzero Try.prog 92 = some AV.nilfn := by kernel_rfl
@[go_sem] theorem ty93 : tk Try.prog 93 = .fn := by kernel_rfl
@[go_sem] theorem tz93 : tsz Try.prog 93 = some 1 := by kernel_rfl
@[go_sem] theorem tb93 : tby Try.prog 93 = some 8 := by kernel_rfl
@[go_sem] theorem to93 : tzero Try.prog 93 = some AV.nilfn := by kernel_rfl
@[go_sem] theorem ty94 : tk Try.prog 94 = .fn := by kernel_rfl
@[go_sem] theorem tz94 : tsz Try.prog 94 = some 1 := by kernel_rfl
@[go_sem] theorem tb94 : tby Try.prog 94 = some 8 := by kernel_rfl
@[go_sem] theorem to94 : tzero Try.prog 94 = some AV.nilfn := by kernel_rfl
@[go_sem] theorem ty96 : tk Try.prog 96 = .fn := by kernel_rfl
@[go_sem] theorem tz96 : tsz Try.prog 96 = some 1 := by kernel_rfl
@[go_sem] theorem tb96 : tby Try.prog 96 = some 8 := by kernel_rfl
@[go_sem] theorem to96 : tzero Try.prog 96 = some AV.nilfn := by kernel_rfl
@[go_sem] theorem ty97 : tk Try.prog 97 = .fn := by kernel_rfl
@[go_sem] theorem tz97 : tsz Try.prog 97 = some 1 := by kernel_rfl
@[go_sem] theorem tb97 : tby Try.prog 97 = some 8 := by kernel_rfl
@[go_sem] theorem to97 : tzero Try.prog 97 = some AV.nilfn := by kernel_rfl
@[go_sem] theorem ty98 : tk Try.prog 98 = .st [(0, 9), (1, 9), (2, 9), (3, 4), (4, 4)] := by kernel_rfl
@[go_sem] theorem tz98 : tsz Try.prog 98 = some 5 := by kernel_rfl
@[go_sem] theorem tb98 : tby Try.prog 98 = some 56 := by kernel_rfl
@[go_sem] theorem to98 : tzero Try.prog 98 = some (AV.agg [AV.str [], AV.str [], AV.str [], AV.bool false, AV.bool false]) := by kernel_rfl
@[go_sem] theorem ty99 : tk Try.prog 99 = .st [(0, 9), (1, 9), (2, 9), (3, 4), (4, 4)] := by kernel_rfl
@[go_sem] theorem tz99 : tsz Try.prog 99 = some 5 := by kernel_rfl
@[go_sem] theorem tb99 : tby Try.prog 99 = some 56 := by kernel_rfl
@[go_sem] theorem to99 : tzero Try.prog 99 = some (AV.agg [AV.str [], AV.str [], AV.str [], AV.bool false, AV.bool false]) := by kernel_rfl
@[go_sem] theorem ty100 : tk Try.prog 100 = .st [(0, 9), (1, 9), (2, 3), (3, 3), (4, 3)] := by kernel_rfl
@[go_sem] theorem tz100 : tsz Try.prog 100 = some 5 := by kernel_rfl
@[go_sem] theorem tb100 : tby Try.prog 100 = some 56 := by kernel_rfl
@[go_sem] theorem to100 : tzero Try.prog 100 = some (AV.agg [AV.str [], AV.str [], AV.int .i64 (0), AV.int .i64 (0), AV.int .i64 (0)]) := by kernel_rfl
@[go_sem] theorem ty101 : tk Try.prog 101 = .st [(0, 9), (1, 9), (2, 3), (3, 3), (4, 3)] := by kernel_rfl
@[go_sem] theorem tz101 : tsz Try.prog 101 = some 5 := by kernel_rfl
@[go_sem] theorem tb101 : tby Try.prog 101 = some 56 := by kernel_rfl
@[go_sem] theorem to101 : tzero Try.prog 101 = some (AV.agg [AV.str [], AV.str [], AV.int .i64 (0), AV.int .i64 (0), AV.int .i64 (0)]) := by kernel_rfl
@[go_sem] theorem ty102 : tk Try.prog 102 = .st [(0, 9), (1, 9), (2, 3)] := by kernel_rfl
@[go_sem] theorem tz102 : tsz Try.prog 102 = some 3 := by kernel_rfl
@[go_sem] theorem tb102 : tby Try.prog 102 = some 40 := by kernel_rfl
@[go_sem] theorem to102 : tzero Try.prog 102 = some (AV.agg [AV.str [], AV.str [], AV.int .i64 (0)]) := by kernel_rfl
@[go_sem] theorem ty103 : tk Try.prog 103 = .st [(0, 9), (1, 9), (2, 3)] := by kernel_rfl
@[go_sem] theorem tz103 : tsz Try.prog 103 = some 3 := by kernel_rfl
@[go_sem] theorem tb103 : tby Try.prog 103 = some 40 := by kernel_rfl
@[go_sem] theorem to103 : tzero Try.prog 103 = some (AV.agg [AV.str [], AV.str [], AV.int .i64 (0)]) := by kernel_rfl
@[go_sem] theorem ty104 : tk Try.prog 104 = .fn := by kernel_rfl
@[go_sem] theorem tz104 : tsz Try.prog 104 = some 1 := by kernel_rfl
@[go_sem] theorem tb104 : tby Try.prog 104 = some 8 := by kernel_rfl
@[go_sem] theorem to104 : tzero Try.prog 104 = some AV.nilfn := by kernel_rfl
@[go_sem] theorem ty105 : tk Try.prog 105 = .fn := by kernel_rfl
@[go_sem] theorem tz105 : tsz Try.prog 105 = some 1 := by kernel_rfl
@[go_sem] theorem tb105 : tby Try.prog 105 = some 8 := by kernel_rfl
@[go_sem] theorem to105 : tzero Try.prog 105 = some AV.nilfn := by kernel_rfl
@[go_sem] theorem ty106 : tk Try.prog 106 = .st [(0, 9), (1, 9), (2, 3), (3, 3), (4, 3)] := by kernel_rfl
@[go_sem] theorem tz106 : tsz Try.prog 106 = some 5 := by kernel_rfl
@[go_sem] theorem tb106 : tby Try.prog 106 = some 56 := by kernel_rfl
@[go_sem] theorem to106 : tzero Try.prog 106 = some (AV.agg [AV.str [], AV.str [], AV.int .i64 (0), AV.int .i64 (0), AV.int .i64 (0)]) := by kernel_rfl
@[go_sem] theorem ty107 : tk Try.prog 107 = .st [(0, 9), (1, 9), (2, 3), (3, 3), (4, 3)] := by kernel_rfl
@[go_sem] theorem tz107 : tsz Try.prog 107 = some 5 := by kernel_rfl
@[go_sem] theorem tb107 : tby Try.prog 107 = some 56 := by kernel_rfl
@[go_sem] theorem to107 : tzero Try.prog 107 = some (AV.agg [AV.str [], AV.str [], AV.int .i64 (0), AV.int .i64 (0), AV.int .i64 (0)]) := by kernel_rfl
@[go_sem] theorem ty108 : tk Try.prog 108 = .st [(0, 29), (6, 33)] := by kernel_rfl
@[go_sem] theorem tz108 : tsz Try.prog 108 = some 8 := by kernel_rfl
@[go_sem] theorem tb108 : tby Try.prog 108 = some 192 := by kernel_rfl
@[go_sem] theorem to108 : tzero Try.prog 108 = some (AV.agg [AV.nilsl, AV.nilsl, AV.nilsl, AV.nilsl, AV.nilsl, AV.nilsl, AV.nilsl, AV.nilsl]) := by kernel_rfl
@[go_sem] theorem ty109 : tk Try.prog 109 = .st [(0, 29), (6, 33)] := by kernel_rfl
@[go_sem] theorem tz109 : tsz Try.prog 109 = some 8 := by kernel_rfl
@[go_sem] theorem tb109 : tby Try.prog 109 = some 192 := by kernel_rfl
@[go_sem] theorem to109 : tzero Try.prog 109 = some (AV.agg [AV.nilsl, AV.nilsl, AV.nilsl, AV.nilsl, AV.nilsl, AV.nilsl, AV.nilsl, AV.nilsl]) := by kernel_rfl
@[go_sem] theorem ty110 : tk Try.prog 110 = .fn := by kernel_rfl
@[go_sem] theorem tz110 : tsz Try.prog 110 = some 1 := by kernel_rfl
@[go_sem] theorem tb110 : tby Try.prog 110 = some 8 := by kernel_rfl
@[go_sem] theorem to110 : tzero Try.prog 110 = some AV.nilfn := by kernel_rfl
@[go_sem] theorem ty111 : tk Try.prog 111 = .fn := by kernel_rfl
@[go_sem] theorem tz111 : tsz Try.prog 111 = some 1 := by kernel_rfl
@[go_sem] theorem tb111 : tby Try.prog 111 = some 8 := by kernel_rfl
@[go_sem] theorem to111 : tzero Try.prog 111 = some AV.nilfn := by kernel_rfl
@[go_sem] theorem ty112 : tk Try.prog 112 = .ptr 99 := by kernel_rfl
@[go_sem] theorem tz112 : tsz Try.prog 112 = some 1 := by kernel_rfl
@[go_sem] theorem tb112 : tby Try.prog 112 = some 8 := by kernel_rfl
@[go_sem] theorem to112 : tzero Try.prog 112 = some AV.nilptr := by kernel_rfl
@[go_sem] theorem ty113 : tk Try.prog 113 = .fn := by kernel_rfl
@[go_sem] theorem tz113 : tsz Try.prog 113 = some 1 := by kernel_rfl
@[go_sem] theorem tb113 : tby Try.prog 113 = some 8 := by kernel_rfl
@[go_sem] theorem to113 : tzero Try.prog 113 = some AV.nilfn := by kernel_rfl
@[go_sem] theorem ty114 : tk Try.prog 114 = .st [(0, 22)] := by kernel_rfl
@[go_sem] theorem tz114 : tsz Try.prog 114 = some 1 := by kernel_rfl
@[go_sem] theorem tb114 : tby Try.prog 114 = some 24 := by kernel_rfl
@[go_sem] theorem to114 : tzero Try.prog 114 = some (AV.agg [AV.nilsl]) := by kernel_rfl
@[go_sem] theorem ty115 : tk Try.prog 115 = .st [(0, 22)] := by kernel_rfl
@[go_sem] theorem tz115 : tsz Try.prog 115 = some 1 := by kernel_rfl
@[go_sem] theorem tb115 : tby Try.prog 115 = some 24 := by kernel_rfl
@[go_sem] theorem to115 : tzero Try.prog 115 = some (AV.agg [AV.nilsl]) := by kernel_rfl
@[go_sem] theorem ty116 : tk Try.prog 116 = .fn := by kernel_rfl
@[go_sem] theorem tz116 : tsz Try.prog 116 = some 1 := by kernel_rfl
@[go_sem] theorem tb116 : tby Try.prog 116 = some 8 := by kernel_rfl
@[go_sem] theorem to116 : tzero Try.prog 116 = some AV.nilfn := by kernel_rfl
@[go_sem] theorem ty117 : tk Try.prog 117 = .fn := by kernel_rfl
@[go_sem] theorem tz117 : tsz Try.prog 117 = some 1 := by kernel_rfl
@[go_sem] theorem tb117 : tby Try.prog 117 = some 8 := by kernel_rfl
@[go_sem] theorem to117 : tzero Try.prog 117 = some AV.nilfn := by kernel_rfl
@[go_sem] theorem ty118 : tk Try.prog 118 = .ptr 115 := by kernel_rfl
@[go_sem] theorem tz118 : tsz Try.prog 118 = some 1 := by kernel_rfl
@[go_sem] theorem tb118 : tby Try.prog 118 = some 8 := by kernel_rfl
@[go_sem] theorem to118 : tzero Try.prog 118 = some AV.nilptr := by kernel_rfl
@[go_sem] theorem ty119 : tk Try.prog 119 = .fn := by kernel_rfl
@[go_sem] theorem tz119 : tsz Try.prog 119 = some 1 := by kernel_rfl
@[go_sem] theorem tb119 : tby Try.prog 119 = some 8 := by kernel_rfl
@[go_sem] theorem to119 : tzero Try.prog 119 = some AV.nilfn := by kernel_rfl
@[go_sem] theorem ty120 : tk Try.prog 120 = .fn := by kernel_rfl
@[go_sem] theorem tz120 : tsz Try.prog 120 = some 1 := by kernel_rfl
@[go_sem] theorem tb120 : tby Try.prog 120 = some 8 := by kernel_rfl
@[go_sem] theorem to120 : tzero Try.prog 120 = some AV.nilfn := by kernel_rfl
@[go_sem] theorem ty121 : tk Try.prog 121 = .fn := by kernel_rfl
@[go_sem] theorem tz121 : tsz Try.prog 121 = some 1 := by kernel_rfl
@[go_sem] theorem tb121 : tby Try.prog 121 = some 8 := by kernel_rfl
@[go_sem] theorem to121 : tzero Try.prog 121 = some AV.nilfn := by kernel_rfl
@[go_sem] theorem ty122 : tk Try.prog 122 = .fn := by kernel_rfl
@[go_sem] theorem tz122 : tsz Try.prog 122 = some 1 := by kernel_rfl
@[go_sem] theorem tb122 : tby Try.prog 122 = some 8 := by kernel_rfl
@[go_sem] theorem to122 : tzero Try.prog 122 = some AV.nilfn := by kernel_rfl
@[go_sem] theorem ty123 : tk Try.prog 123 = .sl 152 := by kernel_rfl
@[go_sem] theorem tz123 : tsz Try.prog 123 = some 1 := by kernel_rfl
@[go_sem] theorem tb123 : tby Try.prog 123 = some 24 := by kernel_rfl
@[go_sem] theorem to123 : tzero Try.prog 123 = some AV.nilsl := by kernel_rfl
@[go_sem] theorem ty124 : tk Try.prog 124 = .fn := by kernel_rfl
@[go_sem] theorem tz124 : tsz Try.prog 124 = some 1 := by kernel_rfl
@[go_sem] theorem tb124 : tby Try.prog 124 = some 8 := by kernel_rfl
@[go_sem] theorem to124 : tzero Try.prog 124 = some AV.nilfn := by kernel_rfl
@[go_sem] theorem ty125 : tk Try.prog 125 = .fn := by kernel_rfl
@[go_sem] theorem tz125 : tsz Try.prog 125 = some 1 := by kernel_rfl
@[go_sem] theorem tb125 : tby Try.prog 125 = some 8 := by kernel_rfl
@[go_sem] theorem to125 : tzero Try.prog 125 = some AV.nilfn := by kernel_rfl
@[go_sem] theorem ty126 : tk Try.prog 126 = .fn := by kernel_rfl
@[go_sem] theorem tz126 : tsz Try.prog 126 = some 1 := by kernel_rfl
@[go_sem] theorem tb126 : tby Try.prog 126 = some 8 := by kernel_rfl
@[go_sem] theorem to126 : tzero Try.prog 126 = some AV.nilfn := by kernel_rfl
@[go_sem] theorem ty127 : tk Try.prog 127 = .fn := by kernel_rfl
@[go_sem] theorem tz127 : tsz Try.prog 127 = some 1 := by kernel_rfl
@[go_sem] theorem tb127 : tby Try.prog 127 = some 8 := by kernel_rfl
@[go_sem] theorem to127 : tzero Try.prog 127 = some AV.nilfn := by kernel_rfl
@[go_sem] theorem ty128 : tk Try.prog 128 = .fn := by kernel_rfl
@[go_sem] theorem tz128 : tsz Try.prog 128 = some 1 := by kernel_rfl
@[go_sem] theorem tb128 : tby Try.prog 128 = some 8 := by kernel_rfl
@[go_sem] theorem to128 : tzero Try.prog 128 = some AV.nilfn := by kernel_rfl
@[go_sem] theorem ty129 : tk Try.prog 129 = .fn := by kernel_rfl
@[go_sem] theorem tz129 : tsz Try.prog 129 = some 1 := by kernel_rfl
@[go_sem] theorem tb129 : tby Try.prog 129 = some 8 := by kernel_rfl
@[go_sem] theorem to129 : tzero Try.prog 129 = some AV.nilfn := by kernel_rfl
@[go_sem] theorem ty130 : tk Try.prog 130 = .fn := by kernel_rfl
@[go_sem] theorem tz130 : tsz Try.prog 130 = some 1 := by kernel_rfl
@[go_sem] theorem tb130 : tby Try.prog 130 = some 8 := by kernel_rfl
@[go_sem] theorem to130 : tzero Try.prog 130 = some AV.nilfn := by kernel_rfl
@[go_sem] theorem ty131 : tk Try.prog 131 = .fn := by kernel_rfl
@[go_sem] theorem tz131 : tsz Try.prog 131 = some 1 := by kernel_rfl
@[go_sem] theorem tb131 : tby Try.prog 131 = some 8 := by kernel_rfl
@[go_sem] theorem to131 : tzero Try.prog 131 = some AV.nilfn := by kernel_rfl
@[go_sem] theorem ty132 : tk Try.prog 132 = .fn := by kernel_rfl
@[go_sem] theorem tz132 : tsz Try.prog 132 = some 1 := by kernel_rfl
@[go_sem] theorem tb132 : tby Try.prog 132 = some 8 := by kernel_rfl
@[go_sem] theorem to132 : tzero Try.prog 132 = some AV.nilfn := by kernel_rfl
@[go_sem] theorem ty134 : tk Try.prog 134 = .fn := by kernel_rfl
@[go_sem] theorem tz134 : tsz Try.prog 134 = some 1 := by kernel_rfl
@[go_sem] theorem tb134 : tby Try.prog 134 = some 8 := by kernel_rfl
@[go_sem] theorem to134 : tzero Try.prog 134 = some AV.nilfn := by kernel_rfl
@[go_sem] theorem ty136 : tk Try.prog 136 = .fn := by kernel_rfl
@[go_sem] theorem tz136 : tsz Try.prog 136 = some 1 := by kernel_rfl
@[go_sem] theorem tb136 : tby Try.prog 136 = some 8 := by kernel_rfl
@[go_sem] theorem to136 : tzero Try.prog 136 = some AV.nilfn := by kernel_rfl
@[go_sem] theorem ty137 : tk Try.prog 137 = .fn := by kernel_rfl
@[go_sem] theorem tz137 : tsz Try.prog 137 = some 1 := by kernel_rfl
@[go_sem] theorem tb137 : tby Try.prog 137 = some 8 := by kernel_rfl
@[go_sem] theorem to137 : tzero Try.prog 137 = some AV.nilfn := by kernel_rfl
@[go_sem] theorem ty138 : tk Try.prog 138 = .fn := by kernel_rfl
@[go_sem] theorem tz138 : tsz Try.prog 138 = some 1 := by kernel_rfl
@[go_sem] theorem tb138 : tby Try.prog 138 = some 8 := by kernel_rfl
@[go_sem] theorem to138 : tzero Try.prog 138 = some AV.nilfn := by kernel_rfl
@[go_sem] theorem ty139 : tk Try.prog 139 = .fn := by kernel_rfl
@[go_sem] theorem tz139 : tsz Try.prog 139 = some 1 := by kernel_rfl
@[go_sem] theorem tb139 : tby Try.prog 139 = some 8 := by kernel_rfl
@[go_sem] theorem to139 : tzero Try.prog 139 = some AV.nilfn := by kernel_rfl
@[go_sem] theorem ty140 : tk Try.prog 140 = .fn := by kernel_rfl
@[go_sem] theorem tz140 : tsz Try.prog 140 = some 1 := by kernel_rfl
@[go_sem] theorem tb140 : tby Try.prog 140 = some 8 := by kernel_rfl
@[go_sem] theorem to140 : tzero Try.prog 140 = some AV.nilfn := by kernel_rfl
@[go_sem] theorem ty141 : tk Try.prog 141 = .int .u32 := by kernel_rfl
@[go_sem] theorem tz141 : tsz Try.prog 141 = some 1 := by kernel_rfl
@[go_sem] theorem tb141 : tby Try.prog 141 = some 4 := by kernel_rfl
@[go_sem] theorem to141 : tzero Try.prog 141 = some (AV.int .u32 (0)) := by kernel_rfl
@[go_sem] theorem ty143 : tk Try.prog 143 = .fn := by kernel_rfl
@[go_sem] theorem tz143 : tsz Try.prog 143 = some 1 := by kernel_rfl
@[go_sem] theorem tb143 : tby Try.prog 143 = some 8 := by kernel_rfl
@[go_sem] theorem to143 : tzero Try.prog 143 = some AV.nilfn := by kernel_rfl
@[go_sem] theorem ty144 : tk Try.prog 144 = .int .u64 := by kernel_rfl
@[go_sem] theorem tz144 : tsz Try.prog 144 = some 1 := by kernel_rfl
@[go_sem] theorem tb144 : tby Try.prog 144 = some 8 := by kernel_rfl
@[go_sem] theorem to144 : tzero Try.prog 144 = some (AV.int .u64 (0)) := by kernel_rfl
@[go_sem] theorem ty146 : tk Try.prog 146 = .fn := by kernel_rfl
@[go_sem] theorem tz146 : tsz Try.prog 146 = some 1 := by kernel_rfl
@[go_sem] theorem tb146 : tby Try.prog 146 = some 8 := by kernel_rfl
@[go_sem] theorem to146 : tzero Try.prog 146 = some AV.nilfn := by kernel_rfl
@[go_sem] theorem ty147 : tk Try.prog 147 = .fn := by kernel_rfl
@[go_sem] theorem tz147 : tsz Try.prog 147 = some 1 := by kernel_rfl
@[go_sem] theorem tb147 : tby Try.prog 147 = some 8 := by kernel_rfl
@[go_sem] theorem to147 : tzero Try.prog 147 = some AV.nilfn := by kernel_rfl
@[go_sem] theorem ty148 : tk Try.prog 148 = .fn := by kernel_rfl
@[go_sem] theorem tz148 : tsz Try.prog 148 = some 1 := by kernel_rfl
@[go_sem] theorem tb148 : tby Try.prog 148 = some 8 := by kernel_rfl
@[go_sem] theorem to148 : tzero Try.prog 148 = some AV.nilfn := by kernel_rfl
@[go_sem] theorem ty149 : tk Try.prog 149 = .fn := by kernel_rfl
@[go_sem] theorem tz149 : tsz Try.prog 149 = some 1 := by kernel_rfl
@[go_sem] theorem tb149 : tby Try.prog 149 = some 8 := by kernel_rfl
@[go_sem] theorem to149 : tzero Try.prog 149 = some AV.nilfn := by kernel_rfl
@[go_sem] theorem ty150 : tk Try.prog 150 = .fn := by kernel_rfl
@[go_sem] theorem tz150 : tsz Try.prog 150 = some 1 := by kernel_rfl
@[go_sem] theorem tb150 : tby Try.prog 150 = some 8 := by kernel_rfl
@[go_sem] theorem to150 : tzero Try.prog 150 = some AV.nilfn := by kernel_rfl
@[go_sem] theorem ty151 : tk Try.prog 151 = .fn := by kernel_rfl
@[go_sem] theorem tz151 : tsz Try.prog 151 = some 1 := by kernel_rfl
@[go_sem] theorem tb151 : tby Try.prog 151 = some 8 := by kernel_rfl
@[go_sem] theorem to151 : tzero Try.prog 151 = some AV.nilfn := by kernel_rfl
@[go_sem] theorem ty152 : tk Try.prog 152 = .arr 2 3 := by kernel_rfl
@[go_sem] theorem tz152 : tsz Try.prog 152 = some 2 := by kernel_rfl
@[go_sem] theorem tb152 : tby Try.prog 152 = some 16 := by kernel_rfl
@[go_sem] theorem to152 : tzero Try.prog 152 = some (AV.agg [AV.int .i64 (0), AV.int .i64 (0)]) := by kernel_rfl
@[go_sem] theorem ty153 : tk Try.prog 153 = .fn := by kernel_rfl
@[go_sem] theorem tz153 : tsz Try.prog 153 = some 1 := by kernel_rfl
@[go_sem] theorem tb153 : tby Try.prog 153 = some 8 := by kernel_rfl
@[go_sem] theorem to153 : tzero Try.prog 153 = some AV.nilfn := by kernel_rfl
@[go_sem] theorem ty154 : tk Try.prog 154 = .sl 5 := by kernel_rfl
@[go_sem] theorem tz154 : tsz Try.prog 154 = some 1 := by kernel_rfl
@[go_sem] theorem tb154 : tby Try.prog 154 = some 24 := by kernel_rfl
@[go_sem] theorem to154 : tzero Try.prog 154 = some AV.nilsl := by kernel_rfl
@[go_sem] theorem ty155 : tk Try.prog 155 = .fn := by kernel_rfl
@[go_sem] theorem tz155 : tsz Try.prog 155 = some 1 := by kernel_rfl
@[go_sem] theorem tb155 : tby Try.prog 155 = some 8 := by kernel_rfl
@[go_sem] theorem to155 : tzero Try.prog 155 = some AV.nilfn := by kernel_rfl
@[go_sem] theorem ty156 : tk Try.prog 156 = .fn := by kernel_rfl
@[go_sem] theorem tz156 : tsz Try.prog 156 = some 1 := by kernel_rfl
@[go_sem] theorem tb156 : tby Try.prog 156 = some 8 := by kernel_rfl
@[go_sem] theorem to156 : tzero Try.prog 156 = some AV.nilfn := by kernel_rfl
@[go_sem] theorem ty157 : tk Try.prog 157 = .fn := by kernel_rfl
@[go_sem] theorem tz157 : tsz Try.prog 157 = some 1 := by kernel_rfl
@[go_sem] theorem tb157 : tby Try.prog 157 = some 8 := by kernel_rfl
@[go_sem] theorem to157 : tzero Try.prog 157 = some AV.nilfn := by kernel_rfl
@[go_sem] theorem ty158 : tk Try.prog 158 = .fn := by kernel_rfl
@[go_sem] theorem tz158 : tsz Try.prog 158 = some 1 := by kernel_rfl
@[go_sem] theorem tb158 : tby Try.prog 158 = some 8 := by kernel_rfl
@[go_sem] theorem to158 : tzero Try.prog 158 = some AV.nilfn := by kernel_rfl
@[go_sem] theorem ty159 : tk Try.prog 159 = .fn := by kernel_rfl
@[go_sem] theorem tz159 : tsz Try.prog 159 = some 1 := by kernel_rfl
@[go_sem] theorem tb159 : tby Try.prog 159 = some 8 := by kernel_rfl
@[go_sem] theorem to159 : tzero Try.prog 159 = some AV.nilfn := by kernel_rfl
@[go_sem] theorem ty160 : tk Try.prog 160 = .fn := by kernel_rfl
@[go_sem] theorem tz160 : tsz Try.prog 160 = some 1 := by kernel_rfl
@[go_sem] theorem tb160 : tby Try.prog 160 = some 8 := by kernel_rfl
@[go_sem] theorem to160 : tzero Try.prog 160 = some AV.nilfn := by kernel_rfl
@[go_sem] theorem ty162 : tk Try.prog 162 = .fn := by kernel_rfl
@[go_sem] theorem tz162 : tsz Try.prog 162 = some 1 := by kernel_rfl
@[go_sem] theorem tb162 : tby Try.prog 162 = some 8 := by kernel_rfl
@[go_sem] theorem to162 : tzero Try.prog 162 = some AV.nilfn := by kernel_rfl
@[go_sem] theorem ty163 : tk Try.prog 163 = .fn := by kernel_rfl
@[go_sem] theorem tz163 : tsz Try.prog 163 = some 1 := by kernel_rfl
@[go_sem] theorem tb163 : tby Try.prog 163 = some 8 := by kernel_rfl
@[go_sem] theorem to163 : tzero Try.prog 163 = some AV.nilfn := by kernel_rfl
@[go_sem] theorem ty164 : tk Try.prog 164 = .fn := by kernel_rfl
@[go_sem] theorem tz164 : tsz Try.prog 164 = some 1 := by kernel_rfl
@[go_sem] theorem tb164 : tby Try.prog 164 = some 8 := by kernel_rfl
@[go_sem] theorem to164 : tzero Try.prog 164 = some AV.nilfn := by kernel_rfl
@[go_sem] theorem ty165 : tk Try.prog 165 = .fn := by kernel_rfl
@[go_sem] theorem tz165 : tsz Try.prog 165 = some 1 := by kernel_rfl
@[go_sem] theorem tb165 : tby Try.prog 165 = some 8 := by kernel_rfl
@[go_sem] theorem to165 : tzero Try.prog 165 = some AV.nilfn := by kernel_rfl
@[go_sem] theorem ty166 : tk Try.prog 166 = .fn := by kernel_rfl
@[go_sem] theorem tz166 : tsz Try.prog 166 = some 1 := by kernel_rfl
@[go_sem] theorem tb166 : tby Try.prog 166 = some 8 := by kernel_rfl
@[go_sem] theorem to166 : tzero Try.prog 166 = some AV.nilfn := by kernel_rfl
@[go_sem] theorem ty167 : tk Try.prog 167 = .fn := by kernel_rfl
@[go_sem] theorem tz167 : tsz Try.prog 167 = some 1 := by kernel_rfl
@[go_sem] theorem tb167 : tby Try.prog 167 = some 8 := by kernel_rfl
@[go_sem] theorem to167 : tzero Try.prog 167 = some AV.nilfn := by kernel_rfl
@[go_sem] theorem ty168 : tk Try.prog 168 = .fn := by kernel_rfl
@[go_sem] theorem tz168 : tsz Try.prog 168 = some 1 := by kernel_rfl
@[go_sem] theorem tb168 : tby Try.prog 168 = some 8 := by kernel_rfl
@[go_sem] theorem to168 : tzero Try.prog 168 = some AV.nilfn := by kernel_rfl
@[go_sem] theorem ty169 : tk Try.prog 169 = .fn := by kernel_rfl
@[go_sem] theorem tz169 : tsz Try.prog 169 = some 1 := by kernel_rfl
@[go_sem] theorem tb169 : tby Try.prog 169 = some 8 := by kernel_rfl
@[go_sem] theorem to169 : tzero Try.prog 169 = some AV.nilfn := by kernel_rfl
@[go_sem] theorem ty170 : tk Try.prog 170 = .st [(0, 17), (1, 17), (2, 17), (3, 9)] := by kernel_rfl
@[go_sem] theorem tz170 : tsz Try.prog 170 = some 4 := by kernel_rfl
@[go_sem] theorem tb170 : tby Try.prog 170 = some 40 := by kernel_rfl
@[go_sem] theorem to170 : tzero Try.prog 170 = some (AV.agg [AV.nilptr, AV.nilptr, AV.nilptr, AV.str []]) := by kernel_rfl
@[go_sem] theorem ty171 : tk Try.prog 171 = .st [(0, 17), (1, 17), (2, 17), (3, 9)] := by kernel_rfl
@[go_sem] theorem tz171 : tsz Try.prog 171 = some 4 := by kernel_rfl
@[go_sem] theorem tb171 : tby Try.prog 171 = some 40 := by kernel_rfl
@[go_sem] theorem to171 : tzero Try.prog 171 = some (AV.agg [AV.nilptr, AV.nilptr, AV.nilptr, AV.str []]) := by kernel_rfl
@[go_sem] theorem ty172 : tk Try.prog 172 = .arr 0 16 := by kernel_rfl
@[go_sem] theorem tz172 : tsz Try.prog 172 = some 0 := by kernel_rfl
@[go_sem] theorem tb172 : tby Try.prog 172 = some 0 := by kernel_rfl
@[go_sem] theorem to172 : tzero Try.prog 172 = some (AV.agg []) := by kernel_rfl
@[go_sem] theorem ty173 : tk Try.prog 173 = .st [(0, 172)] := by kernel_rfl
@[go_sem] theorem tz173 : tsz Try.prog 173 = some 0 := by kernel_rfl
@[go_sem] theorem tb173 : tby Try.prog 173 = some 0 := by kernel_rfl
@[go_sem] theorem to173 : tzero Try.prog 173 = some (AV.agg []) := by kernel_rfl
@[go_sem] theorem ty174 : tk Try.prog 174 = .st [(0, 172)] := by kernel_rfl
@[go_sem] theorem tz174 : tsz Try.prog 174 = some 0 := by kernel_rfl
@[go_sem] theorem tb174 : tby Try.prog 174 = some 0 := by kernel_rfl
@[go_sem] theorem to174 : tzero Try.prog 174 = some (AV.agg []) := by kernel_rfl
@[go_sem] theorem ty175 : tk Try.prog 175 = .int .u8 := by kernel_rfl
@[go_sem] theorem tz175 : tsz Try.prog 175 = some 1 := by kernel_rfl
@[go_sem] theorem tb175 : tby Try.prog 175 = some 1 := by kernel_rfl
@[go_sem] theorem to175 : tzero Try.prog 175 = some (AV.int .u8 (0)) := by kernel_rfl
@[go_sem] theorem ty176 : tk Try.prog 176 = .int .u8 := by kernel_rfl
@[go_sem] theorem tz176 : tsz Try.prog 176 = some 1 := by kernel_rfl
@[go_sem] theorem tb176 : tby Try.prog 176 = some 1 := by kernel_rfl
@[go_sem] theorem to176 : tzero Try.prog 176 = some (AV.int .u8 (0)) := by kernel_rfl
@[go_sem] theorem ty177 : tk Try.prog 177 = .fn := by kernel_rfl
@[go_sem] theorem tz177 : tsz Try.prog 177 = some 1 := by kernel_rfl
@[go_sem] theorem tb177 : tby Try.prog 177 = some 8 := by kernel_rfl
@[go_sem] theorem to177 : tzero Try.prog 177 = some AV.nilfn := by kernel_rfl
@[go_sem] theorem ty178 : tk Try.prog 178 = .ptr 5 := by kernel_rfl
@[go_sem] theorem tz178 : tsz Try.prog 178 = some 1 := by kernel_rfl
@[go_sem] theorem tb178 : tby Try.prog 178 = some 8 := by kernel_rfl
@[go_sem] theorem to178 : tzero Try.prog 178 = some AV.nilptr := by kernel_rfl
@[go_sem] theorem ty179 : tk Try.prog 179 = .int .i32 := by kernel_rfl
@[go_sem] theorem tz179 : tsz Try.prog 179 = some 1 := by kernel_rfl
@[go_sem] theorem tb179 : tby Try.prog 179 = some 4 := by kernel_rfl
@[go_sem] theorem to179 : tzero Try.prog 179 = some (AV.int .i32 (0)) := by kernel_rfl
@[go_sem] theorem ty180 : tk Try.prog 180 = .int .i32 := by kernel_rfl
@[go_sem] theorem tz180 : tsz Try.prog 180 = some 1 := by kernel_rfl
@[go_sem] theorem tb180 : tby Try.prog 180 = some 4 := by kernel_rfl
@[go_sem] theorem to180 : tzero Try.prog 180 = some (AV.int .i32 (0)) := by kernel_rfl
@[go_sem] theorem ty181 : tk Try.prog 181 = .st [(0, 12), (1, 12), (2, 141), (3, 175), (4, 5), (5, 5), (6, 176), (7, 177), (8, 178), (9, 179), (10, 180)] := by kernel_rfl
@[go_sem] theorem tz181 : tsz Try.prog 181 = some 11 := by kernel_rfl
@[go_sem] theorem tb181 : tby Try.prog 181 = some 48 := by kernel_rfl
@[go_sem] theorem to181 : tzero Try.prog 181 = some (AV.agg [AV.int .u64 (0), AV.int .u64 (0), AV.int .u32 (0), AV.int .u8 (0), AV.int .u8 (0), AV.int .u8 (0), AV.int .u8 (0), AV.nilfn, AV.nilptr, AV.int .i32 (0), AV.int .i32 (0)]) := by kernel_rfl
@[go_sem] theorem ty182 : tk Try.prog 182 = .st [(0, 12), (1, 12), (2, 141), (3, 175), (4, 5), (5, 5), (6, 176), (7, 177), (8, 178), (9, 179), (10, 180)] := by kernel_rfl
@[go_sem] theorem tz182 : tsz Try.prog 182 = some 11 := by kernel_rfl
@[go_sem] theorem tb182 : tby Try.prog 182 = some 48 := by kernel_rfl
@[go_sem] theorem to182 : tzero Try.prog 182 = some (AV.agg [AV.int .u64 (0), AV.int .u64 (0), AV.int .u32 (0), AV.int .u8 (0), AV.int .u8 (0), AV.int .u8 (0), AV.int .u8 (0), AV.nilfn, AV.nilptr, AV.int .i32 (0), AV.int .i32 (0)]) := by kernel_rfl
theorem mixed : Try.prog.follows .mixedOrders = true := by kernel_rfl
end Go.Gh
