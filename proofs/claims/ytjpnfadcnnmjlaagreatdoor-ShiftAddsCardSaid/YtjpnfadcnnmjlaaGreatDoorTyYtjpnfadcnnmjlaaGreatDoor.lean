/- Own work, a part of the proof (TyYtjpnfadcnnmjlaaGreatDoor). Conditions: none. -/
import Derived.Test.YtjpnfadcnnmjlaaGreatDoorProg
import Derived.Test.YtjpnfadcnnmjlaaGreatDoorFw21
set_option linter.unusedVariables false
namespace Go.Gh
open Go.Proofs
@[go_sem] theorem ty1:tk Tryz.prog 1=.fn:=by kernel_rfl
@[go_sem] theorem tz1:tsz Tryz.prog 1=some 1:=by kernel_rfl
@[go_sem] theorem tb1:tby Tryz.prog 1=some 8:=by kernel_rfl
@[go_sem] theorem to1:tzero Tryz.prog 1=some AV.nilfn:=by kernel_rfl
@[go_sem] theorem ty2:tk Tryz.prog 2=.int .i64:=by kernel_rfl
@[go_sem] theorem tz2:tsz Tryz.prog 2=some 1:=by kernel_rfl
@[go_sem] theorem tb2:tby Tryz.prog 2=some 8:=by kernel_rfl
@[go_sem] theorem to2:tzero Tryz.prog 2=some (AV.int .i64 (0)):=by kernel_rfl
@[go_sem] theorem ty3:tk Tryz.prog 3=.int .i64:=by kernel_rfl
@[go_sem] theorem tz3:tsz Tryz.prog 3=some 1:=by kernel_rfl
@[go_sem] theorem tb3:tby Tryz.prog 3=some 8:=by kernel_rfl
@[go_sem] theorem to3:tzero Tryz.prog 3=some (AV.int .i64 (0)):=by kernel_rfl
@[go_sem] theorem ty4:tk Tryz.prog 4=.bool:=by kernel_rfl
@[go_sem] theorem tz4:tsz Tryz.prog 4=some 1:=by kernel_rfl
@[go_sem] theorem tb4:tby Tryz.prog 4=some 1:=by kernel_rfl
@[go_sem] theorem to4:tzero Tryz.prog 4=some (AV.bool false):=by kernel_rfl
@[go_sem] theorem ty5:tk Tryz.prog 5=.int .u8:=by kernel_rfl
@[go_sem] theorem tz5:tsz Tryz.prog 5=some 1:=by kernel_rfl
@[go_sem] theorem tb5:tby Tryz.prog 5=some 1:=by kernel_rfl
@[go_sem] theorem to5:tzero Tryz.prog 5=some (AV.int .u8 (0)):=by kernel_rfl
@[go_sem] theorem ty6:tk Tryz.prog 6=.int .u8:=by kernel_rfl
@[go_sem] theorem tz6:tsz Tryz.prog 6=some 1:=by kernel_rfl
@[go_sem] theorem tb6:tby Tryz.prog 6=some 1:=by kernel_rfl
@[go_sem] theorem to6:tzero Tryz.prog 6=some (AV.int .u8 (0)):=by kernel_rfl
@[go_sem] theorem ty7:tk Tryz.prog 7=.st [(0,2),(1,3),(2,4),(3,6)]:=by kernel_rfl
@[go_sem] theorem tz7:tsz Tryz.prog 7=some 4:=by kernel_rfl
@[go_sem] theorem tb7:tby Tryz.prog 7=some 24:=by kernel_rfl
@[go_sem] theorem to7:tzero Tryz.prog 7=some (AV.agg [AV.int .i64 (0),AV.int .i64 (0),AV.bool false,AV.int .u8 (0)]):=by kernel_rfl
@[go_sem] theorem ty8:tk Tryz.prog 8=.st [(0,2),(1,3),(2,4),(3,6)]:=by kernel_rfl
@[go_sem] theorem tz8:tsz Tryz.prog 8=some 4:=by kernel_rfl
@[go_sem] theorem tb8:tby Tryz.prog 8=some 24:=by kernel_rfl
@[go_sem] theorem to8:tzero Tryz.prog 8=some (AV.agg [AV.int .i64 (0),AV.int .i64 (0),AV.bool false,AV.int .u8 (0)]):=by kernel_rfl
@[go_sem] theorem ty9:tk Tryz.prog 9=.str:=by kernel_rfl
@[go_sem] theorem tz9:tsz Tryz.prog 9=some 1:=by kernel_rfl
@[go_sem] theorem tb9:tby Tryz.prog 9=some 16:=by kernel_rfl
@[go_sem] theorem to9:tzero Tryz.prog 9=some (AV.str []):=by kernel_rfl
@[go_sem] theorem ty10:tk Tryz.prog 10=.str:=by kernel_rfl
@[go_sem] theorem tz10:tsz Tryz.prog 10=some 1:=by kernel_rfl
@[go_sem] theorem tb10:tby Tryz.prog 10=some 16:=by kernel_rfl
@[go_sem] theorem to10:tzero Tryz.prog 10=some (AV.str []):=by kernel_rfl
@[go_sem] theorem ty11:tk Tryz.prog 11=.str:=by kernel_rfl
@[go_sem] theorem tz11:tsz Tryz.prog 11=some 1:=by kernel_rfl
@[go_sem] theorem tb11:tby Tryz.prog 11=some 16:=by kernel_rfl
@[go_sem] theorem to11:tzero Tryz.prog 11=some (AV.str []):=by kernel_rfl
@[go_sem] theorem ty12:tk Tryz.prog 12=.int .u64:=by kernel_rfl
@[go_sem] theorem tz12:tsz Tryz.prog 12=some 1:=by kernel_rfl
@[go_sem] theorem tb12:tby Tryz.prog 12=some 8:=by kernel_rfl
@[go_sem] theorem to12:tzero Tryz.prog 12=some (AV.int .u64 (0)):=by kernel_rfl
@[go_sem] theorem ty13:tk Tryz.prog 13=.st [(0,9),(1,12)]:=by kernel_rfl
@[go_sem] theorem tz13:tsz Tryz.prog 13=some 2:=by kernel_rfl
@[go_sem] theorem tb13:tby Tryz.prog 13=some 24:=by kernel_rfl
@[go_sem] theorem to13:tzero Tryz.prog 13=some (AV.agg [AV.str [],AV.int .u64 (0)]):=by kernel_rfl
@[go_sem] theorem ty14:tk Tryz.prog 14=.st [(0,9),(1,12)]:=by kernel_rfl
@[go_sem] theorem tz14:tsz Tryz.prog 14=some 2:=by kernel_rfl
@[go_sem] theorem tb14:tby Tryz.prog 14=some 24:=by kernel_rfl
@[go_sem] theorem to14:tzero Tryz.prog 14=some (AV.agg [AV.str [],AV.int .u64 (0)]):=by kernel_rfl
@[go_sem] theorem ty15:tk Tryz.prog 15=.ptr 256:=by kernel_rfl
@[go_sem] theorem tz15:tsz Tryz.prog 15=some 1:=by kernel_rfl
@[go_sem] theorem tb15:tby Tryz.prog 15=some 8:=by kernel_rfl
@[go_sem] theorem to15:tzero Tryz.prog 15=some AV.nilptr:=by kernel_rfl
@[go_sem] theorem ty16:tk Tryz.prog 16=.ptr 259:=by kernel_rfl
@[go_sem] theorem tz16:tsz Tryz.prog 16=some 1:=by kernel_rfl
@[go_sem] theorem tb16:tby Tryz.prog 16=some 8:=by kernel_rfl
@[go_sem] theorem to16:tzero Tryz.prog 16=some AV.nilptr:=by kernel_rfl
@[go_sem] theorem ty17:tk Tryz.prog 17=.ptr 267:=by kernel_rfl
@[go_sem] theorem tz17:tsz Tryz.prog 17=some 1:=by kernel_rfl
@[go_sem] theorem tb17:tby Tryz.prog 17=some 8:=by kernel_rfl
@[go_sem] theorem to17:tzero Tryz.prog 17=some AV.nilptr:=by kernel_rfl
@[go_sem] theorem ty18:tk Tryz.prog 18=.st [(0,17)]:=by kernel_rfl
@[go_sem] theorem tz18:tsz Tryz.prog 18=some 1:=by kernel_rfl
@[go_sem] theorem tb18:tby Tryz.prog 18=some 8:=by kernel_rfl
@[go_sem] theorem to18:tzero Tryz.prog 18=some (AV.agg [AV.nilptr]):=by kernel_rfl
@[go_sem] theorem ty19:tk Tryz.prog 19=.st [(0,17)]:=by kernel_rfl
@[go_sem] theorem tz19:tsz Tryz.prog 19=some 1:=by kernel_rfl
@[go_sem] theorem tb19:tby Tryz.prog 19=some 8:=by kernel_rfl
@[go_sem] theorem to19:tzero Tryz.prog 19=some (AV.agg [AV.nilptr]):=by kernel_rfl
@[go_sem] theorem ty20:tk Tryz.prog 20=.ifc:=by kernel_rfl
@[go_sem] theorem tz20:tsz Tryz.prog 20=some 1:=by kernel_rfl
@[go_sem] theorem tb20:tby Tryz.prog 20=some 16:=by kernel_rfl
@[go_sem] theorem to20:tzero Tryz.prog 20=some AV.nilifc:=by kernel_rfl
@[go_sem] theorem ty21:tk Tryz.prog 21=.int .i32:=by kernel_rfl
@[go_sem] theorem tz21:tsz Tryz.prog 21=some 1:=by kernel_rfl
@[go_sem] theorem tb21:tby Tryz.prog 21=some 4:=by kernel_rfl
@[go_sem] theorem to21:tzero Tryz.prog 21=some (AV.int .i32 (0)):=by kernel_rfl
@[go_sem] theorem ty22:tk Tryz.prog 22=.sl 9:=by kernel_rfl
@[go_sem] theorem tz22:tsz Tryz.prog 22=some 1:=by kernel_rfl
@[go_sem] theorem tb22:tby Tryz.prog 22=some 24:=by kernel_rfl
@[go_sem] theorem to22:tzero Tryz.prog 22=some AV.nilsl:=by kernel_rfl
@[go_sem] theorem ty23:tk Tryz.prog 23=.sl 102:=by kernel_rfl
@[go_sem] theorem tz23:tsz Tryz.prog 23=some 1:=by kernel_rfl
@[go_sem] theorem tb23:tby Tryz.prog 23=some 24:=by kernel_rfl
@[go_sem] theorem to23:tzero Tryz.prog 23=some AV.nilsl:=by kernel_rfl
@[go_sem] theorem ty24:tk Tryz.prog 24=.sl 40:=by kernel_rfl
@[go_sem] theorem tz24:tsz Tryz.prog 24=some 1:=by kernel_rfl
@[go_sem] theorem tb24:tby Tryz.prog 24=some 24:=by kernel_rfl
@[go_sem] theorem to24:tzero Tryz.prog 24=some AV.nilsl:=by kernel_rfl
@[go_sem] theorem ty25:tk Tryz.prog 25=.sl 106:=by kernel_rfl
@[go_sem] theorem tz25:tsz Tryz.prog 25=some 1:=by kernel_rfl
@[go_sem] theorem tb25:tby Tryz.prog 25=some 24:=by kernel_rfl
@[go_sem] theorem to25:tzero Tryz.prog 25=some AV.nilsl:=by kernel_rfl
@[go_sem] theorem ty26:tk Tryz.prog 26=.sl 109:=by kernel_rfl
@[go_sem] theorem tz26:tsz Tryz.prog 26=some 1:=by kernel_rfl
@[go_sem] theorem tb26:tby Tryz.prog 26=some 24:=by kernel_rfl
@[go_sem] theorem to26:tzero Tryz.prog 26=some AV.nilsl:=by kernel_rfl
@[go_sem] theorem ty27:tk Tryz.prog 27=.sl 112:=by kernel_rfl
@[go_sem] theorem tz27:tsz Tryz.prog 27=some 1:=by kernel_rfl
@[go_sem] theorem tb27:tby Tryz.prog 27=some 24:=by kernel_rfl
@[go_sem] theorem to27:tzero Tryz.prog 27=some AV.nilsl:=by kernel_rfl
@[go_sem] theorem ty28:tk Tryz.prog 28=.st [(0,22),(1,23),(2,24),(3,25),(4,26),(5,27)]:=by kernel_rfl
@[go_sem] theorem tz28:tsz Tryz.prog 28=some 6:=by kernel_rfl
@[go_sem] theorem tb28:tby Tryz.prog 28=some 144:=by kernel_rfl
@[go_sem] theorem to28:tzero Tryz.prog 28=some (AV.agg [AV.nilsl,AV.nilsl,AV.nilsl,AV.nilsl,AV.nilsl,AV.nilsl]):=by kernel_rfl
@[go_sem] theorem ty29:tk Tryz.prog 29=.st [(0,22),(1,23),(2,24),(3,25),(4,26),(5,27)]:=by kernel_rfl
@[go_sem] theorem tz29:tsz Tryz.prog 29=some 6:=by kernel_rfl
@[go_sem] theorem tb29:tby Tryz.prog 29=some 144:=by kernel_rfl
@[go_sem] theorem to29:tzero Tryz.prog 29=some (AV.agg [AV.nilsl,AV.nilsl,AV.nilsl,AV.nilsl,AV.nilsl,AV.nilsl]):=by kernel_rfl
@[go_sem] theorem ty30:tk Tryz.prog 30=.sl 3:=by kernel_rfl
@[go_sem] theorem tz30:tsz Tryz.prog 30=some 1:=by kernel_rfl
@[go_sem] theorem tb30:tby Tryz.prog 30=some 24:=by kernel_rfl
@[go_sem] theorem to30:tzero Tryz.prog 30=some AV.nilsl:=by kernel_rfl
@[go_sem] theorem ty31:tk Tryz.prog 31=.fn:=by kernel_rfl
@[go_sem] theorem tz31:tsz Tryz.prog 31=some 1:=by kernel_rfl
@[go_sem] theorem tb31:tby Tryz.prog 31=some 8:=by kernel_rfl
@[go_sem] theorem to31:tzero Tryz.prog 31=some AV.nilfn:=by kernel_rfl
@[go_sem] theorem ty32:tk Tryz.prog 32=.fn:=by kernel_rfl
@[go_sem] theorem tz32:tsz Tryz.prog 32=some 1:=by kernel_rfl
@[go_sem] theorem tb32:tby Tryz.prog 32=some 8:=by kernel_rfl
@[go_sem] theorem to32:tzero Tryz.prog 32=some AV.nilfn:=by kernel_rfl
@[go_sem] theorem ty33:tk Tryz.prog 33=.sl 43:=by kernel_rfl
@[go_sem] theorem tz33:tsz Tryz.prog 33=some 1:=by kernel_rfl
@[go_sem] theorem tb33:tby Tryz.prog 33=some 24:=by kernel_rfl
@[go_sem] theorem to33:tzero Tryz.prog 33=some AV.nilsl:=by kernel_rfl
@[go_sem] theorem ty34:tk Tryz.prog 34=.int .i64:=by kernel_rfl
@[go_sem] theorem tz34:tsz Tryz.prog 34=some 1:=by kernel_rfl
@[go_sem] theorem tb34:tby Tryz.prog 34=some 8:=by kernel_rfl
@[go_sem] theorem to34:tzero Tryz.prog 34=some (AV.int .i64 (0)):=by kernel_rfl
@[go_sem] theorem ty36:tk Tryz.prog 36=.fn:=by kernel_rfl
@[go_sem] theorem tz36:tsz Tryz.prog 36=some 1:=by kernel_rfl
@[go_sem] theorem tb36:tby Tryz.prog 36=some 8:=by kernel_rfl
@[go_sem] theorem to36:tzero Tryz.prog 36=some AV.nilfn:=by kernel_rfl
@[go_sem] theorem ty37:tk Tryz.prog 37=.fn:=by kernel_rfl
@[go_sem] theorem tz37:tsz Tryz.prog 37=some 1:=by kernel_rfl
@[go_sem] theorem tb37:tby Tryz.prog 37=some 8:=by kernel_rfl
@[go_sem] theorem to37:tzero Tryz.prog 37=some AV.nilfn:=by kernel_rfl
@[go_sem] theorem ty38:tk Tryz.prog 38=.ptr 40:=by kernel_rfl
@[go_sem] theorem tz38:tsz Tryz.prog 38=some 1:=by kernel_rfl
@[go_sem] theorem tb38:tby Tryz.prog 38=some 8:=by kernel_rfl
@[go_sem] theorem to38:tzero Tryz.prog 38=some AV.nilptr:=by kernel_rfl
@[go_sem] theorem ty39:tk Tryz.prog 39=.st [(0,9),(1,9),(2,9),(3,3),(4,3),(5,3),(6,3),(7,3),(8,3)]:=by kernel_rfl
@[go_sem] theorem tz39:tsz Tryz.prog 39=some 9:=by kernel_rfl
@[go_sem] theorem tb39:tby Tryz.prog 39=some 96:=by kernel_rfl
@[go_sem] theorem to39:tzero Tryz.prog 39=some (AV.agg [AV.str [],AV.str [],AV.str [],AV.int .i64 (0),AV.int .i64 (0),AV.int .i64 (0),AV.int .i64 (0),AV.int .i64 (0),AV.int .i64 (0)]):=by kernel_rfl
@[go_sem] theorem ty40:tk Tryz.prog 40=.st [(0,9),(1,9),(2,9),(3,3),(4,3),(5,3),(6,3),(7,3),(8,3)]:=by kernel_rfl
@[go_sem] theorem tz40:tsz Tryz.prog 40=some 9:=by kernel_rfl
@[go_sem] theorem tb40:tby Tryz.prog 40=some 96:=by kernel_rfl
@[go_sem] theorem to40:tzero Tryz.prog 40=some (AV.agg [AV.str [],AV.str [],AV.str [],AV.int .i64 (0),AV.int .i64 (0),AV.int .i64 (0),AV.int .i64 (0),AV.int .i64 (0),AV.int .i64 (0)]):=by kernel_rfl
@[go_sem] theorem ty41:tk Tryz.prog 41=.fn:=by kernel_rfl
@[go_sem] theorem tz41:tsz Tryz.prog 41=some 1:=by kernel_rfl
@[go_sem] theorem tb41:tby Tryz.prog 41=some 8:=by kernel_rfl
@[go_sem] theorem to41:tzero Tryz.prog 41=some AV.nilfn:=by kernel_rfl
@[go_sem] theorem ty42:tk Tryz.prog 42=.st [(0,3),(1,4),(2,30)]:=by kernel_rfl
@[go_sem] theorem tz42:tsz Tryz.prog 42=some 3:=by kernel_rfl
@[go_sem] theorem tb42:tby Tryz.prog 42=some 40:=by kernel_rfl
@[go_sem] theorem to42:tzero Tryz.prog 42=some (AV.agg [AV.int .i64 (0),AV.bool false,AV.nilsl]):=by kernel_rfl
@[go_sem] theorem ty43:tk Tryz.prog 43=.st [(0,3),(1,4),(2,30)]:=by kernel_rfl
@[go_sem] theorem tz43:tsz Tryz.prog 43=some 3:=by kernel_rfl
@[go_sem] theorem tb43:tby Tryz.prog 43=some 40:=by kernel_rfl
@[go_sem] theorem to43:tzero Tryz.prog 43=some (AV.agg [AV.int .i64 (0),AV.bool false,AV.nilsl]):=by kernel_rfl
@[go_sem] theorem ty44:tk Tryz.prog 44=.fn:=by kernel_rfl
@[go_sem] theorem tz44:tsz Tryz.prog 44=some 1:=by kernel_rfl
@[go_sem] theorem tb44:tby Tryz.prog 44=some 8:=by kernel_rfl
@[go_sem] theorem to44:tzero Tryz.prog 44=some AV.nilfn:=by kernel_rfl
@[go_sem] theorem ty45:tk Tryz.prog 45=.fn:=by kernel_rfl
@[go_sem] theorem tz45:tsz Tryz.prog 45=some 1:=by kernel_rfl
@[go_sem] theorem tb45:tby Tryz.prog 45=some 8:=by kernel_rfl
@[go_sem] theorem to45:tzero Tryz.prog 45=some AV.nilfn:=by kernel_rfl
@[go_sem] theorem ty46:tk Tryz.prog 46=.fn:=by kernel_rfl
@[go_sem] theorem tz46:tsz Tryz.prog 46=some 1:=by kernel_rfl
@[go_sem] theorem tb46:tby Tryz.prog 46=some 8:=by kernel_rfl
@[go_sem] theorem to46:tzero Tryz.prog 46=some AV.nilfn:=by kernel_rfl
@[go_sem] theorem ty47:tk Tryz.prog 47=.fn:=by kernel_rfl
@[go_sem] theorem tz47:tsz Tryz.prog 47=some 1:=by kernel_rfl
@[go_sem] theorem tb47:tby Tryz.prog 47=some 8:=by kernel_rfl
@[go_sem] theorem to47:tzero Tryz.prog 47=some AV.nilfn:=by kernel_rfl
@[go_sem] theorem ty48:tk Tryz.prog 48=.sl 53:=by kernel_rfl
@[go_sem] theorem tz48:tsz Tryz.prog 48=some 1:=by kernel_rfl
@[go_sem] theorem tb48:tby Tryz.prog 48=some 24:=by kernel_rfl
@[go_sem] theorem to48:tzero Tryz.prog 48=some AV.nilsl:=by kernel_rfl
@[go_sem] theorem ty49:tk Tryz.prog 49=.sl 53:=by kernel_rfl
@[go_sem] theorem tz49:tsz Tryz.prog 49=some 1:=by kernel_rfl
@[go_sem] theorem tb49:tby Tryz.prog 49=some 24:=by kernel_rfl
@[go_sem] theorem to49:tzero Tryz.prog 49=some AV.nilsl:=by kernel_rfl
@[go_sem] theorem ty51:tk Tryz.prog 51=.fn:=by kernel_rfl
@[go_sem] theorem tz51:tsz Tryz.prog 51=some 1:=by kernel_rfl
@[go_sem] theorem tb51:tby Tryz.prog 51=some 8:=by kernel_rfl
@[go_sem] theorem to51:tzero Tryz.prog 51=some AV.nilfn:=by kernel_rfl
@[go_sem] theorem ty52:tk Tryz.prog 52=.fn:=by kernel_rfl
@[go_sem] theorem tz52:tsz Tryz.prog 52=some 1:=by kernel_rfl
@[go_sem] theorem tb52:tby Tryz.prog 52=some 8:=by kernel_rfl
@[go_sem] theorem to52:tzero Tryz.prog 52=some AV.nilfn:=by kernel_rfl
@[go_sem] theorem ty53:tk Tryz.prog 53=.str:=by kernel_rfl
@[go_sem] theorem tz53:tsz Tryz.prog 53=some 1:=by kernel_rfl
@[go_sem] theorem tb53:tby Tryz.prog 53=some 16:=by kernel_rfl
@[go_sem] theorem to53:tzero Tryz.prog 53=some (AV.str []):=by kernel_rfl
@[go_sem] theorem ty55:tk Tryz.prog 55=.fn:=by kernel_rfl
@[go_sem] theorem tz55:tsz Tryz.prog 55=some 1:=by kernel_rfl
@[go_sem] theorem tb55:tby Tryz.prog 55=some 8:=by kernel_rfl
@[go_sem] theorem to55:tzero Tryz.prog 55=some AV.nilfn:=by kernel_rfl
@[go_sem] theorem ty57:tk Tryz.prog 57=.fn:=by kernel_rfl
@[go_sem] theorem tz57:tsz Tryz.prog 57=some 1:=by kernel_rfl
@[go_sem] theorem tb57:tby Tryz.prog 57=some 8:=by kernel_rfl
@[go_sem] theorem to57:tzero Tryz.prog 57=some AV.nilfn:=by kernel_rfl
@[go_sem] theorem ty62:tk Tryz.prog 62=.fn:=by kernel_rfl
@[go_sem] theorem tz62:tsz Tryz.prog 62=some 1:=by kernel_rfl
@[go_sem] theorem tb62:tby Tryz.prog 62=some 8:=by kernel_rfl
@[go_sem] theorem to62:tzero Tryz.prog 62=some AV.nilfn:=by kernel_rfl
@[go_sem] theorem ty64:tk Tryz.prog 64=.fn:=by kernel_rfl
@[go_sem] theorem tz64:tsz Tryz.prog 64=some 1:=by kernel_rfl
@[go_sem] theorem tb64:tby Tryz.prog 64=some 8:=by kernel_rfl
@[go_sem] theorem to64:tzero Tryz.prog 64=some AV.nilfn:=by kernel_rfl
@[go_sem] theorem ty65:tk Tryz.prog 65=.st [(0,49),(1,49)]:=by kernel_rfl
@[go_sem] theorem tz65:tsz Tryz.prog 65=some 2:=by kernel_rfl
@[go_sem] theorem tb65:tby Tryz.prog 65=some 48:=by kernel_rfl
@[go_sem] theorem to65:tzero Tryz.prog 65=some (AV.agg [AV.nilsl,AV.nilsl]):=by kernel_rfl
@[go_sem] theorem ty66:tk Tryz.prog 66=.st [(0,49),(1,49)]:=by kernel_rfl
@[go_sem] theorem tz66:tsz Tryz.prog 66=some 2:=by kernel_rfl
@[go_sem] theorem tb66:tby Tryz.prog 66=some 48:=by kernel_rfl
@[go_sem] theorem to66:tzero Tryz.prog 66=some (AV.agg [AV.nilsl,AV.nilsl]):=by kernel_rfl
@[go_sem] theorem ty68:tk Tryz.prog 68=.fn:=by kernel_rfl
@[go_sem] theorem tz68:tsz Tryz.prog 68=some 1:=by kernel_rfl
@[go_sem] theorem tb68:tby Tryz.prog 68=some 8:=by kernel_rfl
@[go_sem] theorem to68:tzero Tryz.prog 68=some AV.nilfn:=by kernel_rfl
@[go_sem] theorem ty69:tk Tryz.prog 69=.sl 49:=by kernel_rfl
@[go_sem] theorem tz69:tsz Tryz.prog 69=some 1:=by kernel_rfl
@[go_sem] theorem tb69:tby Tryz.prog 69=some 24:=by kernel_rfl
@[go_sem] theorem to69:tzero Tryz.prog 69=some AV.nilsl:=by kernel_rfl
@[go_sem] theorem ty70:tk Tryz.prog 70=.sl 49:=by kernel_rfl
@[go_sem] theorem tz70:tsz Tryz.prog 70=some 1:=by kernel_rfl
@[go_sem] theorem tb70:tby Tryz.prog 70=some 24:=by kernel_rfl
@[go_sem] theorem to70:tzero Tryz.prog 70=some AV.nilsl:=by kernel_rfl
@[go_sem] theorem ty72:tk Tryz.prog 72=.fn:=by kernel_rfl
@[go_sem] theorem tz72:tsz Tryz.prog 72=some 1:=by kernel_rfl
@[go_sem] theorem tb72:tby Tryz.prog 72=some 8:=by kernel_rfl
@[go_sem] theorem to72:tzero Tryz.prog 72=some AV.nilfn:=by kernel_rfl
@[go_sem] theorem ty73:tk Tryz.prog 73=.st [(0,30),(1,30)]:=by kernel_rfl
@[go_sem] theorem tz73:tsz Tryz.prog 73=some 2:=by kernel_rfl
@[go_sem] theorem tb73:tby Tryz.prog 73=some 48:=by kernel_rfl
@[go_sem] theorem to73:tzero Tryz.prog 73=some (AV.agg [AV.nilsl,AV.nilsl]):=by kernel_rfl
@[go_sem] theorem ty74:tk Tryz.prog 74=.st [(0,30),(1,30)]:=by kernel_rfl
@[go_sem] theorem tz74:tsz Tryz.prog 74=some 2:=by kernel_rfl
@[go_sem] theorem tb74:tby Tryz.prog 74=some 48:=by kernel_rfl
@[go_sem] theorem to74:tzero Tryz.prog 74=some (AV.agg [AV.nilsl,AV.nilsl]):=by kernel_rfl
@[go_sem] theorem ty76:tk Tryz.prog 76=.fn:=by kernel_rfl
@[go_sem] theorem tz76:tsz Tryz.prog 76=some 1:=by kernel_rfl
@[go_sem] theorem tb76:tby Tryz.prog 76=some 8:=by kernel_rfl
@[go_sem] theorem to76:tzero Tryz.prog 76=some AV.nilfn:=by kernel_rfl
@[go_sem] theorem ty77:tk Tryz.prog 77=.fn:=by kernel_rfl
@[go_sem] theorem tz77:tsz Tryz.prog 77=some 1:=by kernel_rfl
@[go_sem] theorem tb77:tby Tryz.prog 77=some 8:=by kernel_rfl
@[go_sem] theorem to77:tzero Tryz.prog 77=some AV.nilfn:=by kernel_rfl
@[go_sem] theorem ty78:tk Tryz.prog 78=.fn:=by kernel_rfl
@[go_sem] theorem tz78:tsz Tryz.prog 78=some 1:=by kernel_rfl
@[go_sem] theorem tb78:tby Tryz.prog 78=some 8:=by kernel_rfl
@[go_sem] theorem to78:tzero Tryz.prog 78=some AV.nilfn:=by kernel_rfl
@[go_sem] theorem ty79:tk Tryz.prog 79=.fn:=by kernel_rfl
@[go_sem] theorem tz79:tsz Tryz.prog 79=some 1:=by kernel_rfl
@[go_sem] theorem tb79:tby Tryz.prog 79=some 8:=by kernel_rfl
@[go_sem] theorem to79:tzero Tryz.prog 79=some AV.nilfn:=by kernel_rfl
@[go_sem] theorem ty80:tk Tryz.prog 80=.fn:=by kernel_rfl
@[go_sem] theorem tz80:tsz Tryz.prog 80=some 1:=by kernel_rfl
@[go_sem] theorem tb80:tby Tryz.prog 80=some 8:=by kernel_rfl
@[go_sem] theorem to80:tzero Tryz.prog 80=some AV.nilfn:=by kernel_rfl
@[go_sem] theorem ty81:tk Tryz.prog 81=.fn:=by kernel_rfl
@[go_sem] theorem tz81:tsz Tryz.prog 81=some 1:=by kernel_rfl
@[go_sem] theorem tb81:tby Tryz.prog 81=some 8:=by kernel_rfl
@[go_sem] theorem to81:tzero Tryz.prog 81=some AV.nilfn:=by kernel_rfl
@[go_sem] theorem ty82:tk Tryz.prog 82=.fn:=by kernel_rfl
@[go_sem] theorem tz82:tsz Tryz.prog 82=some 1:=by kernel_rfl
@[go_sem] theorem tb82:tby Tryz.prog 82=some 8:=by kernel_rfl
@[go_sem] theorem to82:tzero Tryz.prog 82=some AV.nilfn:=by kernel_rfl
@[go_sem] theorem ty84:tk Tryz.prog 84=.fn:=by kernel_rfl
@[go_sem] theorem tz84:tsz Tryz.prog 84=some 1:=by kernel_rfl
@[go_sem] theorem tb84:tby Tryz.prog 84=some 8:=by kernel_rfl
@[go_sem] theorem to84:tzero Tryz.prog 84=some AV.nilfn:=by kernel_rfl
@[go_sem] theorem ty85:tk Tryz.prog 85=.fn:=by kernel_rfl
@[go_sem] theorem tz85:tsz Tryz.prog 85=some 1:=by kernel_rfl
@[go_sem] theorem tb85:tby Tryz.prog 85=some 8:=by kernel_rfl
@[go_sem] theorem to85:tzero Tryz.prog 85=some AV.nilfn:=by kernel_rfl
@[go_sem] theorem ty86:tk Tryz.prog 86=.sl 170:=by kernel_rfl
@[go_sem] theorem tz86:tsz Tryz.prog 86=some 1:=by kernel_rfl
@[go_sem] theorem tb86:tby Tryz.prog 86=some 24:=by kernel_rfl
@[go_sem] theorem to86:tzero Tryz.prog 86=some AV.nilsl:=by kernel_rfl
@[go_sem] theorem ty87:tk Tryz.prog 87=.sl 141:=by kernel_rfl
@[go_sem] theorem tz87:tsz Tryz.prog 87=some 1:=by kernel_rfl
@[go_sem] theorem tb87:tby Tryz.prog 87=some 24:=by kernel_rfl
@[go_sem] theorem to87:tzero Tryz.prog 87=some AV.nilsl:=by kernel_rfl
@[go_sem] theorem ty88:tk Tryz.prog 88=.st [(0,74),(2,86),(3,87),(4,87),(5,30),(6,3)]:=by kernel_rfl
@[go_sem] theorem tz88:tsz Tryz.prog 88=some 7:=by kernel_rfl
@[go_sem] theorem tb88:tby Tryz.prog 88=some 152:=by kernel_rfl
@[go_sem] theorem to88:tzero Tryz.prog 88=some (AV.agg [AV.nilsl,AV.nilsl,AV.nilsl,AV.nilsl,AV.nilsl,AV.nilsl,AV.int .i64 (0)]):=by kernel_rfl
@[go_sem] theorem ty89:tk Tryz.prog 89=.st [(0,74),(2,86),(3,87),(4,87),(5,30),(6,3)]:=by kernel_rfl
@[go_sem] theorem tz89:tsz Tryz.prog 89=some 7:=by kernel_rfl
@[go_sem] theorem tb89:tby Tryz.prog 89=some 152:=by kernel_rfl
@[go_sem] theorem to89:tzero Tryz.prog 89=some (AV.agg [AV.nilsl,AV.nilsl,AV.nilsl,AV.nilsl,AV.nilsl,AV.nilsl,AV.int .i64 (0)]):=by kernel_rfl
@[go_sem] theorem ty90:tk Tryz.prog 90=.fn:=by kernel_rfl
@[go_sem] theorem tz90:tsz Tryz.prog 90=some 1:=by kernel_rfl
@[go_sem] theorem tb90:tby Tryz.prog 90=some 8:=by kernel_rfl
@[go_sem] theorem to90:tzero Tryz.prog 90=some AV.nilfn:=by kernel_rfl
@[go_sem] theorem ty91:tk Tryz.prog 91=.sl 87:=by kernel_rfl
@[go_sem] theorem tz91:tsz Tryz.prog 91=some 1:=by kernel_rfl
@[go_sem] theorem tb91:tby Tryz.prog 91=some 24:=by kernel_rfl
@[go_sem] theorem to91:tzero Tryz.prog 91=some AV.nilsl:=by kernel_rfl
@[go_sem] theorem ty92:tk Tryz.prog 92=.sl 87:=by kernel_rfl
@[go_sem] theorem tz92:tsz Tryz.prog 92=some 1:=by kernel_rfl
@[go_sem] theorem tb92:tby Tryz.prog 92=some 24:=by kernel_rfl
@[go_sem] theorem to92:tzero Tryz.prog 92=some AV.nilsl:=by kernel_rfl
@[go_sem] theorem ty93:tk Tryz.prog 93=.fn:=by kernel_rfl
@[go_sem] theorem tz93:tsz Tryz.prog 93=some 1:=by kernel_rfl
@[go_sem] theorem tb93:tby Tryz.prog 93=some 8:=by kernel_rfl
@[go_sem] theorem to93:tzero Tryz.prog 93=some AV.nilfn:=by kernel_rfl
@[go_sem] theorem ty94:tk Tryz.prog 94=.fn:=by kernel_rfl
@[go_sem] theorem tz94:tsz Tryz.prog 94=some 1:=by kernel_rfl
@[go_sem] theorem tb94:tby Tryz.prog 94=some 8:=by kernel_rfl
@[go_sem] theorem to94:tzero Tryz.prog 94=some AV.nilfn:=by kernel_rfl
@[go_sem] theorem ty95:tk Tryz.prog 95=.fn:=by kernel_rfl
@[go_sem] theorem tz95:tsz Tryz.prog 95=some 1:=by kernel_rfl
@[go_sem] theorem tb95:tby Tryz.prog 95=some 8:=by kernel_rfl
@[go_sem] theorem to95:tzero Tryz.prog 95=some AV.nilfn:=by kernel_rfl
@[go_sem] theorem ty97:tk Tryz.prog 97=.fn:=by kernel_rfl
@[go_sem] theorem tz97:tsz Tryz.prog 97=some 1:=by kernel_rfl
@[go_sem] theorem tb97:tby Tryz.prog 97=some 8:=by kernel_rfl
@[go_sem] theorem to97:tzero Tryz.prog 97=some AV.nilfn:=by kernel_rfl
@[go_sem] theorem ty98:tk Tryz.prog 98=.fn:=by kernel_rfl
@[go_sem] theorem tz98:tsz Tryz.prog 98=some 1:=by kernel_rfl
@[go_sem] theorem tb98:tby Tryz.prog 98=some 8:=by kernel_rfl
@[go_sem] theorem to98:tzero Tryz.prog 98=some AV.nilfn:=by kernel_rfl
@[go_sem] theorem ty99:tk Tryz.prog 99=.fn:=by kernel_rfl
@[go_sem] theorem tz99:tsz Tryz.prog 99=some 1:=by kernel_rfl
@[go_sem] theorem tb99:tby Tryz.prog 99=some 8:=by kernel_rfl
@[go_sem] theorem to99:tzero Tryz.prog 99=some AV.nilfn:=by kernel_rfl
@[go_sem] theorem ty100:tk Tryz.prog 100=.fn:=by kernel_rfl
@[go_sem] theorem tz100:tsz Tryz.prog 100=some 1:=by kernel_rfl
@[go_sem] theorem tb100:tby Tryz.prog 100=some 8:=by kernel_rfl
@[go_sem] theorem to100:tzero Tryz.prog 100=some AV.nilfn:=by kernel_rfl
@[go_sem] theorem ty101:tk Tryz.prog 101=.st [(0,9),(1,9),(2,9),(3,4),(4,4)]:=by kernel_rfl
@[go_sem] theorem tz101:tsz Tryz.prog 101=some 5:=by kernel_rfl
@[go_sem] theorem tb101:tby Tryz.prog 101=some 56:=by kernel_rfl
@[go_sem] theorem to101:tzero Tryz.prog 101=some (AV.agg [AV.str [],AV.str [],AV.str [],AV.bool false,AV.bool false]):=by kernel_rfl
@[go_sem] theorem ty102:tk Tryz.prog 102=.st [(0,9),(1,9),(2,9),(3,4),(4,4)]:=by kernel_rfl
@[go_sem] theorem tz102:tsz Tryz.prog 102=some 5:=by kernel_rfl
@[go_sem] theorem tb102:tby Tryz.prog 102=some 56:=by kernel_rfl
@[go_sem] theorem to102:tzero Tryz.prog 102=some (AV.agg [AV.str [],AV.str [],AV.str [],AV.bool false,AV.bool false]):=by kernel_rfl
@[go_sem] theorem ty103:tk Tryz.prog 103=.fn:=by kernel_rfl
@[go_sem] theorem tz103:tsz Tryz.prog 103=some 1:=by kernel_rfl
@[go_sem] theorem tb103:tby Tryz.prog 103=some 8:=by kernel_rfl
@[go_sem] theorem to103:tzero Tryz.prog 103=some AV.nilfn:=by kernel_rfl
@[go_sem] theorem ty104:tk Tryz.prog 104=.fn:=by kernel_rfl
@[go_sem] theorem tz104:tsz Tryz.prog 104=some 1:=by kernel_rfl
@[go_sem] theorem tb104:tby Tryz.prog 104=some 8:=by kernel_rfl
@[go_sem] theorem to104:tzero Tryz.prog 104=some AV.nilfn:=by kernel_rfl
@[go_sem] theorem ty105:tk Tryz.prog 105=.st [(0,9),(1,9),(2,3),(3,3),(4,3)]:=by kernel_rfl
@[go_sem] theorem tz105:tsz Tryz.prog 105=some 5:=by kernel_rfl
@[go_sem] theorem tb105:tby Tryz.prog 105=some 56:=by kernel_rfl
@[go_sem] theorem to105:tzero Tryz.prog 105=some (AV.agg [AV.str [],AV.str [],AV.int .i64 (0),AV.int .i64 (0),AV.int .i64 (0)]):=by kernel_rfl
@[go_sem] theorem ty106:tk Tryz.prog 106=.st [(0,9),(1,9),(2,3),(3,3),(4,3)]:=by kernel_rfl
@[go_sem] theorem tz106:tsz Tryz.prog 106=some 5:=by kernel_rfl
@[go_sem] theorem tb106:tby Tryz.prog 106=some 56:=by kernel_rfl
@[go_sem] theorem to106:tzero Tryz.prog 106=some (AV.agg [AV.str [],AV.str [],AV.int .i64 (0),AV.int .i64 (0),AV.int .i64 (0)]):=by kernel_rfl
@[go_sem] theorem ty108:tk Tryz.prog 108=.st [(0,9),(1,9),(2,3)]:=by kernel_rfl
@[go_sem] theorem tz108:tsz Tryz.prog 108=some 3:=by kernel_rfl
@[go_sem] theorem tb108:tby Tryz.prog 108=some 40:=by kernel_rfl
@[go_sem] theorem to108:tzero Tryz.prog 108=some (AV.agg [AV.str [],AV.str [],AV.int .i64 (0)]):=by kernel_rfl
@[go_sem] theorem ty109:tk Tryz.prog 109=.st [(0,9),(1,9),(2,3)]:=by kernel_rfl
@[go_sem] theorem tz109:tsz Tryz.prog 109=some 3:=by kernel_rfl
@[go_sem] theorem tb109:tby Tryz.prog 109=some 40:=by kernel_rfl
@[go_sem] theorem to109:tzero Tryz.prog 109=some (AV.agg [AV.str [],AV.str [],AV.int .i64 (0)]):=by kernel_rfl
@[go_sem] theorem ty110:tk Tryz.prog 110=.fn:=by kernel_rfl
@[go_sem] theorem tz110:tsz Tryz.prog 110=some 1:=by kernel_rfl
@[go_sem] theorem tb110:tby Tryz.prog 110=some 8:=by kernel_rfl
@[go_sem] theorem to110:tzero Tryz.prog 110=some AV.nilfn:=by kernel_rfl
@[go_sem] theorem ty111:tk Tryz.prog 111=.st [(0,9),(1,9),(2,3),(3,3),(4,3)]:=by kernel_rfl
@[go_sem] theorem tz111:tsz Tryz.prog 111=some 5:=by kernel_rfl
@[go_sem] theorem tb111:tby Tryz.prog 111=some 56:=by kernel_rfl
@[go_sem] theorem to111:tzero Tryz.prog 111=some (AV.agg [AV.str [],AV.str [],AV.int .i64 (0),AV.int .i64 (0),AV.int .i64 (0)]):=by kernel_rfl
@[go_sem] theorem ty112:tk Tryz.prog 112=.st [(0,9),(1,9),(2,3),(3,3),(4,3)]:=by kernel_rfl
@[go_sem] theorem tz112:tsz Tryz.prog 112=some 5:=by kernel_rfl
@[go_sem] theorem tb112:tby Tryz.prog 112=some 56:=by kernel_rfl
@[go_sem] theorem to112:tzero Tryz.prog 112=some (AV.agg [AV.str [],AV.str [],AV.int .i64 (0),AV.int .i64 (0),AV.int .i64 (0)]):=by kernel_rfl
@[go_sem] theorem ty113:tk Tryz.prog 113=.int .u64:=by kernel_rfl
@[go_sem] theorem tz113:tsz Tryz.prog 113=some 1:=by kernel_rfl
@[go_sem] theorem tb113:tby Tryz.prog 113=some 8:=by kernel_rfl
@[go_sem] theorem to113:tzero Tryz.prog 113=some (AV.int .u64 (0)):=by kernel_rfl
@[go_sem] theorem ty114:tk Tryz.prog 114=.fn:=by kernel_rfl
@[go_sem] theorem tz114:tsz Tryz.prog 114=some 1:=by kernel_rfl
@[go_sem] theorem tb114:tby Tryz.prog 114=some 8:=by kernel_rfl
@[go_sem] theorem to114:tzero Tryz.prog 114=some AV.nilfn:=by kernel_rfl
@[go_sem] theorem ty115:tk Tryz.prog 115=.fn:=by kernel_rfl
@[go_sem] theorem tz115:tsz Tryz.prog 115=some 1:=by kernel_rfl
@[go_sem] theorem tb115:tby Tryz.prog 115=some 8:=by kernel_rfl
@[go_sem] theorem to115:tzero Tryz.prog 115=some AV.nilfn:=by kernel_rfl
@[go_sem] theorem ty116:tk Tryz.prog 116=.sl 121:=by kernel_rfl
@[go_sem] theorem tz116:tsz Tryz.prog 116=some 1:=by kernel_rfl
@[go_sem] theorem tb116:tby Tryz.prog 116=some 24:=by kernel_rfl
@[go_sem] theorem to116:tzero Tryz.prog 116=some AV.nilsl:=by kernel_rfl
@[go_sem] theorem ty118:tk Tryz.prog 118=.fn:=by kernel_rfl
@[go_sem] theorem tz118:tsz Tryz.prog 118=some 1:=by kernel_rfl
@[go_sem] theorem tb118:tby Tryz.prog 118=some 8:=by kernel_rfl
@[go_sem] theorem to118:tzero Tryz.prog 118=some AV.nilfn:=by kernel_rfl
@[go_sem] theorem ty119:tk Tryz.prog 119=.fn:=by kernel_rfl
@[go_sem] theorem tz119:tsz Tryz.prog 119=some 1:=by kernel_rfl
@[go_sem] theorem tb119:tby Tryz.prog 119=some 8:=by kernel_rfl
@[go_sem] theorem to119:tzero Tryz.prog 119=some AV.nilfn:=by kernel_rfl
@[go_sem] theorem ty120:tk Tryz.prog 120=.st [(0,3),(1,3)]:=by kernel_rfl
@[go_sem] theorem tz120:tsz Tryz.prog 120=some 2:=by kernel_rfl
@[go_sem] theorem tb120:tby Tryz.prog 120=some 16:=by kernel_rfl
@[go_sem] theorem to120:tzero Tryz.prog 120=some (AV.agg [AV.int .i64 (0),AV.int .i64 (0)]):=by kernel_rfl
@[go_sem] theorem ty121:tk Tryz.prog 121=.st [(0,3),(1,3)]:=by kernel_rfl
@[go_sem] theorem tz121:tsz Tryz.prog 121=some 2:=by kernel_rfl
@[go_sem] theorem tb121:tby Tryz.prog 121=some 16:=by kernel_rfl
@[go_sem] theorem to121:tzero Tryz.prog 121=some (AV.agg [AV.int .i64 (0),AV.int .i64 (0)]):=by kernel_rfl
@[go_sem] theorem ty122:tk Tryz.prog 122=.fn:=by kernel_rfl
@[go_sem] theorem tz122:tsz Tryz.prog 122=some 1:=by kernel_rfl
@[go_sem] theorem tb122:tby Tryz.prog 122=some 8:=by kernel_rfl
@[go_sem] theorem to122:tzero Tryz.prog 122=some AV.nilfn:=by kernel_rfl
@[go_sem] theorem ty123:tk Tryz.prog 123=.st [(0,89),(7,92),(8,87)]:=by kernel_rfl
@[go_sem] theorem tz123:tsz Tryz.prog 123=some 9:=by kernel_rfl
@[go_sem] theorem tb123:tby Tryz.prog 123=some 200:=by kernel_rfl
@[go_sem] theorem to123:tzero Tryz.prog 123=some (AV.agg [AV.nilsl,AV.nilsl,AV.nilsl,AV.nilsl,AV.nilsl,AV.nilsl,AV.int .i64 (0),AV.nilsl,AV.nilsl]):=by kernel_rfl
@[go_sem] theorem ty124:tk Tryz.prog 124=.st [(0,89),(7,92),(8,87)]:=by kernel_rfl
@[go_sem] theorem tz124:tsz Tryz.prog 124=some 9:=by kernel_rfl
@[go_sem] theorem tb124:tby Tryz.prog 124=some 200:=by kernel_rfl
@[go_sem] theorem to124:tzero Tryz.prog 124=some (AV.agg [AV.nilsl,AV.nilsl,AV.nilsl,AV.nilsl,AV.nilsl,AV.nilsl,AV.int .i64 (0),AV.nilsl,AV.nilsl]):=by kernel_rfl
@[go_sem] theorem ty125:tk Tryz.prog 125=.fn:=by kernel_rfl
@[go_sem] theorem tz125:tsz Tryz.prog 125=some 1:=by kernel_rfl
@[go_sem] theorem tb125:tby Tryz.prog 125=some 8:=by kernel_rfl
@[go_sem] theorem to125:tzero Tryz.prog 125=some AV.nilfn:=by kernel_rfl
@[go_sem] theorem ty126:tk Tryz.prog 126=.fn:=by kernel_rfl
@[go_sem] theorem tz126:tsz Tryz.prog 126=some 1:=by kernel_rfl
@[go_sem] theorem tb126:tby Tryz.prog 126=some 8:=by kernel_rfl
@[go_sem] theorem to126:tzero Tryz.prog 126=some AV.nilfn:=by kernel_rfl
@[go_sem] theorem ty127:tk Tryz.prog 127=.fn:=by kernel_rfl
@[go_sem] theorem tz127:tsz Tryz.prog 127=some 1:=by kernel_rfl
@[go_sem] theorem tb127:tby Tryz.prog 127=some 8:=by kernel_rfl
@[go_sem] theorem to127:tzero Tryz.prog 127=some AV.nilfn:=by kernel_rfl
@[go_sem] theorem ty129:tk Tryz.prog 129=.fn:=by kernel_rfl
@[go_sem] theorem tz129:tsz Tryz.prog 129=some 1:=by kernel_rfl
@[go_sem] theorem tb129:tby Tryz.prog 129=some 8:=by kernel_rfl
@[go_sem] theorem to129:tzero Tryz.prog 129=some AV.nilfn:=by kernel_rfl
@[go_sem] theorem ty130:tk Tryz.prog 130=.fn:=by kernel_rfl
@[go_sem] theorem tz130:tsz Tryz.prog 130=some 1:=by kernel_rfl
@[go_sem] theorem tb130:tby Tryz.prog 130=some 8:=by kernel_rfl
@[go_sem] theorem to130:tzero Tryz.prog 130=some AV.nilfn:=by kernel_rfl
@[go_sem] theorem ty131:tk Tryz.prog 131=.fn:=by kernel_rfl
@[go_sem] theorem tz131:tsz Tryz.prog 131=some 1:=by kernel_rfl
@[go_sem] theorem tb131:tby Tryz.prog 131=some 8:=by kernel_rfl
@[go_sem] theorem to131:tzero Tryz.prog 131=some AV.nilfn:=by kernel_rfl
@[go_sem] theorem ty132:tk Tryz.prog 132=.fn:=by kernel_rfl
@[go_sem] theorem tz132:tsz Tryz.prog 132=some 1:=by kernel_rfl
@[go_sem] theorem tb132:tby Tryz.prog 132=some 8:=by kernel_rfl
@[go_sem] theorem to132:tzero Tryz.prog 132=some AV.nilfn:=by kernel_rfl
@[go_sem] theorem ty133:tk Tryz.prog 133=.fn:=by kernel_rfl
@[go_sem] theorem tz133:tsz Tryz.prog 133=some 1:=by kernel_rfl
@[go_sem] theorem tb133:tby Tryz.prog 133=some 8:=by kernel_rfl
@[go_sem] theorem to133:tzero Tryz.prog 133=some AV.nilfn:=by kernel_rfl
@[go_sem] theorem ty134:tk Tryz.prog 134=.fn:=by kernel_rfl
@[go_sem] theorem tz134:tsz Tryz.prog 134=some 1:=by kernel_rfl
@[go_sem] theorem tb134:tby Tryz.prog 134=some 8:=by kernel_rfl
@[go_sem] theorem to134:tzero Tryz.prog 134=some AV.nilfn:=by kernel_rfl
@[go_sem] theorem ty135:tk Tryz.prog 135=.sl 34:=by kernel_rfl
@[go_sem] theorem tz135:tsz Tryz.prog 135=some 1:=by kernel_rfl
@[go_sem] theorem tb135:tby Tryz.prog 135=some 24:=by kernel_rfl
@[go_sem] theorem to135:tzero Tryz.prog 135=some AV.nilsl:=by kernel_rfl
@[go_sem] theorem ty136:tk Tryz.prog 136=.fn:=by kernel_rfl
@[go_sem] theorem tz136:tsz Tryz.prog 136=some 1:=by kernel_rfl
@[go_sem] theorem tb136:tby Tryz.prog 136=some 8:=by kernel_rfl
@[go_sem] theorem to136:tzero Tryz.prog 136=some AV.nilfn:=by kernel_rfl
@[go_sem] theorem ty137:tk Tryz.prog 137=.fn:=by kernel_rfl
@[go_sem] theorem tz137:tsz Tryz.prog 137=some 1:=by kernel_rfl
@[go_sem] theorem tb137:tby Tryz.prog 137=some 8:=by kernel_rfl
@[go_sem] theorem to137:tzero Tryz.prog 137=some AV.nilfn:=by kernel_rfl
@[go_sem] theorem ty138:tk Tryz.prog 138=.sl 213:=by kernel_rfl
@[go_sem] theorem tz138:tsz Tryz.prog 138=some 1:=by kernel_rfl
@[go_sem] theorem tb138:tby Tryz.prog 138=some 24:=by kernel_rfl
@[go_sem] theorem to138:tzero Tryz.prog 138=some AV.nilsl:=by kernel_rfl
@[go_sem] theorem ty139:tk Tryz.prog 139=.sl 213:=by kernel_rfl
@[go_sem] theorem tz139:tsz Tryz.prog 139=some 1:=by kernel_rfl
@[go_sem] theorem tb139:tby Tryz.prog 139=some 24:=by kernel_rfl
@[go_sem] theorem to139:tzero Tryz.prog 139=some AV.nilsl:=by kernel_rfl
@[go_sem] theorem ty140:tk Tryz.prog 140=.st [(0,4),(1,139),(2,139)]:=by kernel_rfl
@[go_sem] theorem tz140:tsz Tryz.prog 140=some 3:=by kernel_rfl
@[go_sem] theorem tb140:tby Tryz.prog 140=some 56:=by kernel_rfl
@[go_sem] theorem to140:tzero Tryz.prog 140=some (AV.agg [AV.bool false,AV.nilsl,AV.nilsl]):=by kernel_rfl
@[go_sem] theorem ty141:tk Tryz.prog 141=.st [(0,4),(1,139),(2,139)]:=by kernel_rfl
@[go_sem] theorem tz141:tsz Tryz.prog 141=some 3:=by kernel_rfl
@[go_sem] theorem tb141:tby Tryz.prog 141=some 56:=by kernel_rfl
@[go_sem] theorem to141:tzero Tryz.prog 141=some (AV.agg [AV.bool false,AV.nilsl,AV.nilsl]):=by kernel_rfl
@[go_sem] theorem ty143:tk Tryz.prog 143=.fn:=by kernel_rfl
@[go_sem] theorem tz143:tsz Tryz.prog 143=some 1:=by kernel_rfl
@[go_sem] theorem tb143:tby Tryz.prog 143=some 8:=by kernel_rfl
@[go_sem] theorem to143:tzero Tryz.prog 143=some AV.nilfn:=by kernel_rfl
@[go_sem] theorem ty144:tk Tryz.prog 144=.fn:=by kernel_rfl
@[go_sem] theorem tz144:tsz Tryz.prog 144=some 1:=by kernel_rfl
@[go_sem] theorem tb144:tby Tryz.prog 144=some 8:=by kernel_rfl
@[go_sem] theorem to144:tzero Tryz.prog 144=some AV.nilfn:=by kernel_rfl
@[go_sem] theorem ty145:tk Tryz.prog 145=.fn:=by kernel_rfl
@[go_sem] theorem tz145:tsz Tryz.prog 145=some 1:=by kernel_rfl
@[go_sem] theorem tb145:tby Tryz.prog 145=some 8:=by kernel_rfl
@[go_sem] theorem to145:tzero Tryz.prog 145=some AV.nilfn:=by kernel_rfl
@[go_sem] theorem ty146:tk Tryz.prog 146=.fn:=by kernel_rfl
@[go_sem] theorem tz146:tsz Tryz.prog 146=some 1:=by kernel_rfl
@[go_sem] theorem tb146:tby Tryz.prog 146=some 8:=by kernel_rfl
@[go_sem] theorem to146:tzero Tryz.prog 146=some AV.nilfn:=by kernel_rfl
@[go_sem] theorem ty147:tk Tryz.prog 147=.fn:=by kernel_rfl
@[go_sem] theorem tz147:tsz Tryz.prog 147=some 1:=by kernel_rfl
@[go_sem] theorem tb147:tby Tryz.prog 147=some 8:=by kernel_rfl
@[go_sem] theorem to147:tzero Tryz.prog 147=some AV.nilfn:=by kernel_rfl
@[go_sem] theorem ty148:tk Tryz.prog 148=.fn:=by kernel_rfl
@[go_sem] theorem tz148:tsz Tryz.prog 148=some 1:=by kernel_rfl
@[go_sem] theorem tb148:tby Tryz.prog 148=some 8:=by kernel_rfl
@[go_sem] theorem to148:tzero Tryz.prog 148=some AV.nilfn:=by kernel_rfl
@[go_sem] theorem ty149:tk Tryz.prog 149=.fn:=by kernel_rfl
@[go_sem] theorem tz149:tsz Tryz.prog 149=some 1:=by kernel_rfl
@[go_sem] theorem tb149:tby Tryz.prog 149=some 8:=by kernel_rfl
@[go_sem] theorem to149:tzero Tryz.prog 149=some AV.nilfn:=by kernel_rfl
@[go_sem] theorem ty150:tk Tryz.prog 150=.fn:=by kernel_rfl
@[go_sem] theorem tz150:tsz Tryz.prog 150=some 1:=by kernel_rfl
@[go_sem] theorem tb150:tby Tryz.prog 150=some 8:=by kernel_rfl
@[go_sem] theorem to150:tzero Tryz.prog 150=some AV.nilfn:=by kernel_rfl
@[go_sem] theorem ty151:tk Tryz.prog 151=.fn:=by kernel_rfl
@[go_sem] theorem tz151:tsz Tryz.prog 151=some 1:=by kernel_rfl
@[go_sem] theorem tb151:tby Tryz.prog 151=some 8:=by kernel_rfl
@[go_sem] theorem to151:tzero Tryz.prog 151=some AV.nilfn:=by kernel_rfl
@[go_sem] theorem ty152:tk Tryz.prog 152=.fn:=by kernel_rfl
@[go_sem] theorem tz152:tsz Tryz.prog 152=some 1:=by kernel_rfl
@[go_sem] theorem tb152:tby Tryz.prog 152=some 8:=by kernel_rfl
@[go_sem] theorem to152:tzero Tryz.prog 152=some AV.nilfn:=by kernel_rfl
@[go_sem] theorem ty153:tk Tryz.prog 153=.fn:=by kernel_rfl
@[go_sem] theorem tz153:tsz Tryz.prog 153=some 1:=by kernel_rfl
@[go_sem] theorem tb153:tby Tryz.prog 153=some 8:=by kernel_rfl
@[go_sem] theorem to153:tzero Tryz.prog 153=some AV.nilfn:=by kernel_rfl
@[go_sem] theorem ty154:tk Tryz.prog 154=.fn:=by kernel_rfl
@[go_sem] theorem tz154:tsz Tryz.prog 154=some 1:=by kernel_rfl
@[go_sem] theorem tb154:tby Tryz.prog 154=some 8:=by kernel_rfl
@[go_sem] theorem to154:tzero Tryz.prog 154=some AV.nilfn:=by kernel_rfl
@[go_sem] theorem ty155:tk Tryz.prog 155=.fn:=by kernel_rfl
@[go_sem] theorem tz155:tsz Tryz.prog 155=some 1:=by kernel_rfl
@[go_sem] theorem tb155:tby Tryz.prog 155=some 8:=by kernel_rfl
@[go_sem] theorem to155:tzero Tryz.prog 155=some AV.nilfn:=by kernel_rfl
@[go_sem] theorem ty156:tk Tryz.prog 156=.fn:=by kernel_rfl
@[go_sem] theorem tz156:tsz Tryz.prog 156=some 1:=by kernel_rfl
@[go_sem] theorem tb156:tby Tryz.prog 156=some 8:=by kernel_rfl
@[go_sem] theorem to156:tzero Tryz.prog 156=some AV.nilfn:=by kernel_rfl
@[go_sem] theorem ty157:tk Tryz.prog 157=.fn:=by kernel_rfl
@[go_sem] theorem tz157:tsz Tryz.prog 157=some 1:=by kernel_rfl
@[go_sem] theorem tb157:tby Tryz.prog 157=some 8:=by kernel_rfl
@[go_sem] theorem to157:tzero Tryz.prog 157=some AV.nilfn:=by kernel_rfl
@[go_sem] theorem ty158:tk Tryz.prog 158=.fn:=by kernel_rfl
@[go_sem] theorem tz158:tsz Tryz.prog 158=some 1:=by kernel_rfl
@[go_sem] theorem tb158:tby Tryz.prog 158=some 8:=by kernel_rfl
@[go_sem] theorem to158:tzero Tryz.prog 158=some AV.nilfn:=by kernel_rfl
@[go_sem] theorem ty159:tk Tryz.prog 159=.fn:=by kernel_rfl
@[go_sem] theorem tz159:tsz Tryz.prog 159=some 1:=by kernel_rfl
@[go_sem] theorem tb159:tby Tryz.prog 159=some 8:=by kernel_rfl
@[go_sem] theorem to159:tzero Tryz.prog 159=some AV.nilfn:=by kernel_rfl
@[go_sem] theorem ty163:tk Tryz.prog 163=.fn:=by kernel_rfl
@[go_sem] theorem tz163:tsz Tryz.prog 163=some 1:=by kernel_rfl
@[go_sem] theorem tb163:tby Tryz.prog 163=some 8:=by kernel_rfl
@[go_sem] theorem to163:tzero Tryz.prog 163=some AV.nilfn:=by kernel_rfl
@[go_sem] theorem ty164:tk Tryz.prog 164=.fn:=by kernel_rfl
@[go_sem] theorem tz164:tsz Tryz.prog 164=some 1:=by kernel_rfl
@[go_sem] theorem tb164:tby Tryz.prog 164=some 8:=by kernel_rfl
@[go_sem] theorem to164:tzero Tryz.prog 164=some AV.nilfn:=by kernel_rfl
@[go_sem] theorem ty165:tk Tryz.prog 165=.fn:=by kernel_rfl
@[go_sem] theorem tz165:tsz Tryz.prog 165=some 1:=by kernel_rfl
@[go_sem] theorem tb165:tby Tryz.prog 165=some 8:=by kernel_rfl
@[go_sem] theorem to165:tzero Tryz.prog 165=some AV.nilfn:=by kernel_rfl
@[go_sem] theorem ty166:tk Tryz.prog 166=.fn:=by kernel_rfl
@[go_sem] theorem tz166:tsz Tryz.prog 166=some 1:=by kernel_rfl
@[go_sem] theorem tb166:tby Tryz.prog 166=some 8:=by kernel_rfl
@[go_sem] theorem to166:tzero Tryz.prog 166=some AV.nilfn:=by kernel_rfl
@[go_sem] theorem ty167:tk Tryz.prog 167=.fn:=by kernel_rfl
@[go_sem] theorem tz167:tsz Tryz.prog 167=some 1:=by kernel_rfl
@[go_sem] theorem tb167:tby Tryz.prog 167=some 8:=by kernel_rfl
@[go_sem] theorem to167:tzero Tryz.prog 167=some AV.nilfn:=by kernel_rfl
@[go_sem] theorem ty170:tk Tryz.prog 170=.arr 2 3:=by kernel_rfl
@[go_sem] theorem tz170:tsz Tryz.prog 170=some 2:=by kernel_rfl
@[go_sem] theorem tb170:tby Tryz.prog 170=some 16:=by kernel_rfl
@[go_sem] theorem to170:tzero Tryz.prog 170=some (AV.agg [AV.int .i64 (0),AV.int .i64 (0)]):=by kernel_rfl
@[go_sem] theorem ty171:tk Tryz.prog 171=.fn:=by kernel_rfl
@[go_sem] theorem tz171:tsz Tryz.prog 171=some 1:=by kernel_rfl
@[go_sem] theorem tb171:tby Tryz.prog 171=some 8:=by kernel_rfl
@[go_sem] theorem to171:tzero Tryz.prog 171=some AV.nilfn:=by kernel_rfl
@[go_sem] theorem ty172:tk Tryz.prog 172=.fn:=by kernel_rfl
@[go_sem] theorem tz172:tsz Tryz.prog 172=some 1:=by kernel_rfl
@[go_sem] theorem tb172:tby Tryz.prog 172=some 8:=by kernel_rfl
@[go_sem] theorem to172:tzero Tryz.prog 172=some AV.nilfn:=by kernel_rfl
@[go_sem] theorem ty174:tk Tryz.prog 174=.fn:=by kernel_rfl
@[go_sem] theorem tz174:tsz Tryz.prog 174=some 1:=by kernel_rfl
@[go_sem] theorem tb174:tby Tryz.prog 174=some 8:=by kernel_rfl
@[go_sem] theorem to174:tzero Tryz.prog 174=some AV.nilfn:=by kernel_rfl
@[go_sem] theorem ty203:tk Tryz.prog 203=.st [(0,22)]:=by kernel_rfl
@[go_sem] theorem tz203:tsz Tryz.prog 203=some 1:=by kernel_rfl
@[go_sem] theorem tb203:tby Tryz.prog 203=some 24:=by kernel_rfl
@[go_sem] theorem to203:tzero Tryz.prog 203=some (AV.agg [AV.nilsl]):=by kernel_rfl
@[go_sem] theorem ty205:tk Tryz.prog 205=.ptr 203:=by kernel_rfl
@[go_sem] theorem tz205:tsz Tryz.prog 205=some 1:=by kernel_rfl
@[go_sem] theorem tb205:tby Tryz.prog 205=some 8:=by kernel_rfl
@[go_sem] theorem to205:tzero Tryz.prog 205=some AV.nilptr:=by kernel_rfl
@[go_sem] theorem ty213:tk Tryz.prog 213=.int .u32:=by kernel_rfl
@[go_sem] theorem tz213:tsz Tryz.prog 213=some 1:=by kernel_rfl
@[go_sem] theorem tb213:tby Tryz.prog 213=some 4:=by kernel_rfl
@[go_sem] theorem to213:tzero Tryz.prog 213=some (AV.int .u32 (0)):=by kernel_rfl
@[go_sem] theorem ty214:tk Tryz.prog 214=.int .u64:=by kernel_rfl
@[go_sem] theorem tz214:tsz Tryz.prog 214=some 1:=by kernel_rfl
@[go_sem] theorem tb214:tby Tryz.prog 214=some 8:=by kernel_rfl
@[go_sem] theorem to214:tzero Tryz.prog 214=some (AV.int .u64 (0)):=by kernel_rfl
@[go_sem] theorem ty215:tk Tryz.prog 215=.sl 5:=by kernel_rfl
@[go_sem] theorem tz215:tsz Tryz.prog 215=some 1:=by kernel_rfl
@[go_sem] theorem tb215:tby Tryz.prog 215=some 24:=by kernel_rfl
@[go_sem] theorem to215:tzero Tryz.prog 215=some AV.nilsl:=by kernel_rfl
@[go_sem] theorem ty216:tk Tryz.prog 216=.arr 9 5:=by kernel_rfl
@[go_sem] theorem tz216:tsz Tryz.prog 216=some 9:=by kernel_rfl
@[go_sem] theorem tb216:tby Tryz.prog 216=some 9:=by kernel_rfl
@[go_sem] theorem to216:tzero Tryz.prog 216=some (AV.agg [AV.int .u8 (0),AV.int .u8 (0),AV.int .u8 (0),AV.int .u8 (0),AV.int .u8 (0),AV.int .u8 (0),AV.int .u8 (0),AV.int .u8 (0),AV.int .u8 (0)]):=by kernel_rfl
@[go_sem] theorem ty232:tk Tryz.prog 232=.arr 256 4:=by kernel_rfl
@[go_sem] theorem tz232:tsz Tryz.prog 232=some 256:=by kernel_rfl
@[go_sem] theorem tb232:tby Tryz.prog 232=some 256:=by kernel_rfl
@[go_sem] theorem ty236:tk Tryz.prog 236=.ptr 232:=by kernel_rfl
@[go_sem] theorem tz236:tsz Tryz.prog 236=some 1:=by kernel_rfl
@[go_sem] theorem tb236:tby Tryz.prog 236=some 8:=by kernel_rfl
@[go_sem] theorem to236:tzero Tryz.prog 236=some AV.nilptr:=by kernel_rfl
@[go_sem] theorem ty256:tk Tryz.prog 256=.st [(0,17),(1,17),(2,17),(3,9)]:=by kernel_rfl
@[go_sem] theorem tz256:tsz Tryz.prog 256=some 4:=by kernel_rfl
@[go_sem] theorem tb256:tby Tryz.prog 256=some 40:=by kernel_rfl
@[go_sem] theorem to256:tzero Tryz.prog 256=some (AV.agg [AV.nilptr,AV.nilptr,AV.nilptr,AV.str []]):=by kernel_rfl
@[go_sem] theorem ty257:tk Tryz.prog 257=.arr 0 16:=by kernel_rfl
@[go_sem] theorem tz257:tsz Tryz.prog 257=some 0:=by kernel_rfl
@[go_sem] theorem tb257:tby Tryz.prog 257=some 0:=by kernel_rfl
@[go_sem] theorem to257:tzero Tryz.prog 257=some (AV.agg []):=by kernel_rfl
@[go_sem] theorem ty259:tk Tryz.prog 259=.st [(0,257)]:=by kernel_rfl
@[go_sem] theorem tz259:tsz Tryz.prog 259=some 0:=by kernel_rfl
@[go_sem] theorem tb259:tby Tryz.prog 259=some 0:=by kernel_rfl
@[go_sem] theorem to259:tzero Tryz.prog 259=some (AV.agg []):=by kernel_rfl
@[go_sem] theorem ty260:tk Tryz.prog 260=.int .u8:=by kernel_rfl
@[go_sem] theorem tz260:tsz Tryz.prog 260=some 1:=by kernel_rfl
@[go_sem] theorem tb260:tby Tryz.prog 260=some 1:=by kernel_rfl
@[go_sem] theorem to260:tzero Tryz.prog 260=some (AV.int .u8 (0)):=by kernel_rfl
@[go_sem] theorem ty261:tk Tryz.prog 261=.int .u8:=by kernel_rfl
@[go_sem] theorem tz261:tsz Tryz.prog 261=some 1:=by kernel_rfl
@[go_sem] theorem tb261:tby Tryz.prog 261=some 1:=by kernel_rfl
@[go_sem] theorem to261:tzero Tryz.prog 261=some (AV.int .u8 (0)):=by kernel_rfl
@[go_sem] theorem ty262:tk Tryz.prog 262=.fn:=by kernel_rfl
@[go_sem] theorem tz262:tsz Tryz.prog 262=some 1:=by kernel_rfl
@[go_sem] theorem tb262:tby Tryz.prog 262=some 8:=by kernel_rfl
@[go_sem] theorem to262:tzero Tryz.prog 262=some AV.nilfn:=by kernel_rfl
@[go_sem] theorem ty263:tk Tryz.prog 263=.ptr 5:=by kernel_rfl
@[go_sem] theorem tz263:tsz Tryz.prog 263=some 1:=by kernel_rfl
@[go_sem] theorem tb263:tby Tryz.prog 263=some 8:=by kernel_rfl
@[go_sem] theorem to263:tzero Tryz.prog 263=some AV.nilptr:=by kernel_rfl
@[go_sem] theorem ty264:tk Tryz.prog 264=.int .i32:=by kernel_rfl
@[go_sem] theorem tz264:tsz Tryz.prog 264=some 1:=by kernel_rfl
@[go_sem] theorem tb264:tby Tryz.prog 264=some 4:=by kernel_rfl
@[go_sem] theorem to264:tzero Tryz.prog 264=some (AV.int .i32 (0)):=by kernel_rfl
@[go_sem] theorem ty265:tk Tryz.prog 265=.int .i32:=by kernel_rfl
@[go_sem] theorem tz265:tsz Tryz.prog 265=some 1:=by kernel_rfl
@[go_sem] theorem tb265:tby Tryz.prog 265=some 4:=by kernel_rfl
@[go_sem] theorem to265:tzero Tryz.prog 265=some (AV.int .i32 (0)):=by kernel_rfl
@[go_sem] theorem ty267:tk Tryz.prog 267=.st [(0,12),(1,12),(2,213),(3,260),(4,5),(5,5),(6,261),(7,262),(8,263),(9,264),(10,265)]:=by kernel_rfl
@[go_sem] theorem tz267:tsz Tryz.prog 267=some 11:=by kernel_rfl
@[go_sem] theorem tb267:tby Tryz.prog 267=some 48:=by kernel_rfl
@[go_sem] theorem to267:tzero Tryz.prog 267=some (AV.agg [AV.int .u64 (0),AV.int .u64 (0),AV.int .u32 (0),AV.int .u8 (0),AV.int .u8 (0),AV.int .u8 (0),AV.int .u8 (0),AV.nilfn,AV.nilptr,AV.int .i32 (0),AV.int .i32 (0)]):=by kernel_rfl
theorem mixed:Tryz.prog.follows .mixedOrders=true:=by kernel_rfl
end Go.Gh
